/- Facts: the program's value, size and k-th fact. -/
import Derived.Test.YtnchlnfenebomaaGreatDoorFkC
namespace Go.Proofs.YtnchlnfenebomaaGreatDoor.Fk
open Go.RowKit Mem Nest Err App Go.Sort

set_option maxRecDepth 20000 in
set_option maxHeartbeats 2000000 in
theorem pvalue_any (l : List Fa) (hl : l.length ≤ 500) (hok : Oks l) (b : Nat) (A : Option Addr) (c : Nat) (wh : Int) (nm : List UInt8) (on kn : Int) (w : World) (hF : FR 149 w b A c l) :
    Calls Tryz.prog 80 #[.pointer (some ⟨b, 0, none⟩), .int .i64 wh, .string ⟨nm.toArray⟩, .int .i64 on, .int .i64 kn] w (ValPost (bestF wh nm on kn (-1) l) w) := by
  have HF := Lib.hid hF
  clear hF
  go_enter Tryz.func80, Tryz.ntmps80
  go_wp2_with fail
  refine (counts_any l hl hok b A c wh nm on kn _ HF.out).mono ?_
  rintro e w1 ⟨M, n, rfl, hn, hfm, hM, hb⟩
  obtain ⟨y, ok, hrun, hcase⟩ := hfm.look (o := -1) (wf_of (by omega) (by omega))
  obtain ⟨yw, yn, yo, yv, yf, yt, yl⟩ := y
  unfold faC at hrun
  simp only at hrun
  have HB := Lib.hid hb
  have HCS := Lib.hid hcase
  clear hb hcase hfm hM
  go_wp2_with fail
  go_ret2
  refine ⟨?_, HB.out.trans ((ext_alloc _ _).mono HB.out.size)⟩
  rcases HCS.out with ⟨rfl, h⟩ | ⟨rfl, h, h2⟩
  · rw [h]; rfl
  · rw [h]
    injection h2 with _ _ _ hv
    rw [hv]; rfl
end Go.Proofs.YtnchlnfenebomaaGreatDoor.Fk

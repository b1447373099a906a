/- Facts: the program's value, size and k-th fact. -/
import Derived.Test.YtcpcejmlnhflpaaDoorFkC
namespace Go.Proofs.YtcpcejmlnhflpaaDoor.Fk
open Go.RowKit Mem Nest Err App Go.Sort

set_option maxRecDepth 20000 in
set_option maxHeartbeats 2000000 in
theorem pvalue_any (l : List Fa) (hl : l.length ≤ 500) (hok : Oks l) (b : Nat) (A : Option Addr) (c : Nat) (wh : Int) (nm : List UInt8) (on kn : Int) (w : World) (hF : FR 55 w b A c l) :
    Calls Tryd.prog 7 #[.pointer (some ⟨b, 0, none⟩), .int .i64 wh, .string ⟨nm.toArray⟩, .int .i64 on, .int .i64 kn] w (ValPost (bestF wh nm on kn (-1) l) w) := by
  have HF := Lib.hid hF
  clear hF
  go_enter Tryd.func7, Tryd.ntmps7
  go_wp2_with fail
  refine (counts_any l hl hok b A c wh nm on kn _ HF.out).mono ?_
  rintro e w1 ⟨M, n, rfl, hn, hfm, hM, hb⟩
  obtain ⟨y, ok, hrun, hcase⟩ := hfm.look (o := -1) (wf_of (by omega) (by omega))
  obtain ⟨yw, yn, yo, yv, yf, yt, yl⟩ := y
  unfold faC at hrun
  simp only at hrun
  have HB := Lib.hid hb
  have HCS := Lib.hid hcase
  clear hb hcase hfm hM
  go_wp2_with fail
  go_ret2
  refine ⟨?_, HB.out.trans ((ext_alloc _ _).mono HB.out.size)⟩
  rcases HCS.out with ⟨rfl, h⟩ | ⟨rfl, h, h2⟩
  · rw [h]; rfl
  · rw [h]
    injection h2 with _ _ _ hv
    rw [hv]; rfl
set_option maxRecDepth 20000 in
theorem size_any (l : List Fa) (b : Nat) (A : Option Addr) (c : Nat) (w : World) (hF : FR 55 w b A c l) :
    Calls Tryd.prog 11 #[.pointer (some ⟨b, 0, none⟩)] w (fun e w' => e = .returned (.int .i64 (l.length : Nat)) ∧ w' = w) := by
  have c0 := hF.1.cell 0 rfl
  clear hF
  go_enter Tryd.func11, Tryd.ntmps11
  go_wp2_with fail
  go_ret
  exact ⟨rfl, rfl⟩
set_option maxRecDepth 20000 in
set_option maxHeartbeats 8000000 in
theorem fact_any (l : List Fa) (_ : l.length ≤ 500) (b : Nat) (A : Option Addr) (c : Nat) (k : Int) (w : World) (hF : FR 55 w b A c l) :
    Calls Tryd.prog 12 #[.pointer (some ⟨b, 0, none⟩), .int .i64 k] w (fun e w' => Below w.heap.size w w' ∧ ((0 ≤ k ∧ ∃ h : k.toNat < l.length, e = .returned (.tuple #[.agg (faC l[k.toNat]).toArray, .bool true])) ∨ (¬ (0 ≤ k ∧ k < (l.length : Int)) ∧ ∃ y, e = .returned (.tuple #[.agg (faC y).toArray, .bool false])))) := by
  have HF := Lib.hid hF
  have c0 := hF.1.cell 0 rfl
  clear hF
  go_enter Tryd.func12, Tryd.ntmps12
  have bx := Blk.new w 40 (faC zeroFa)
  have hx1 := ext_alloc w (.cells (faC zeroFa).toArray 40)
  obtain ⟨W, hW⟩ : ∃ W, W = w.alloc (.cells (faC zeroFa).toArray 40) := ⟨_, rfl⟩
  obtain ⟨K, hK⟩ : ∃ K, K = w.heap.size := ⟨_, rfl⟩
  rw [← hW] at bx hx1
  rw [← hK] at bx
  have HBL := Lib.hid hx1
  have HKK := Lib.hid (show w.heap.size ≤ K by rw [hK]; exact Nat.le_refl _)
  have d0 := (HF.out.ext hx1).1.cell 0 rfl
  have HFr := Lib.hid (HF.out.ext hx1).2
  unfold faC zeroFa at bx hW
  simp only at bx hW
  have HBX := Lib.hid bx
  clear c0 bx hx1
  go_upto_region 1 with fail
  rw [show w.alloc (.cells #[.int .i64 0, .string ⟨#[]⟩, .int .i64 0, .int .i64 0, .int .i64 0, .int .i64 0, .int .i64 0] 40) = W from hW.symm, ← hK]
  clear hW hK
  by_cases hk : k < 0
  · have b0 := HBX.out
    have m0 := b0.cell 0 rfl
    have f0 := b0.free 0
    have b1 := b0.set 0 (.int .i64 0)
    have m1 := b1.cell 1 rfl
    have f1 := b1.free 1
    have b2 := b1.set 1 (.string ⟨#[]⟩)
    have m2 := b2.cell 2 rfl
    have f2 := b2.free 2
    have b3 := b2.set 2 (.int .i64 0)
    have m3 := b3.cell 3 rfl
    have f3 := b3.free 3
    have b4 := b3.set 3 (.int .i64 0)
    have m4 := b4.cell 4 rfl
    have f4 := b4.free 4
    have b5 := b4.set 4 (.int .i64 0)
    have m5 := b5.cell 5 rfl
    have f5 := b5.free 5
    have b6 := b5.set 5 (.int .i64 0)
    have m6 := b6.cell 6 rfl
    have f6 := b6.free 6
    have b7 := b6.set 6 (.int .i64 0)
    have z0 := b7.cell 0 rfl
    have z1 := b7.cell 1 rfl
    have z2 := b7.cell 2 rfl
    have z3 := b7.cell 3 rfl
    have z4 := b7.cell 4 rfl
    have z5 := b7.cell 5 rfl
    have z6 := b7.cell 6 rfl
    have hbz := (RowKit.Below.setCell (p := ⟨K, 6, none⟩) (RowKit.Below.setCell (p := ⟨K, 5, none⟩) (RowKit.Below.setCell (p := ⟨K, 4, none⟩) (RowKit.Below.setCell (p := ⟨K, 3, none⟩) (RowKit.Below.setCell (p := ⟨K, 2, none⟩) (RowKit.Below.setCell (p := ⟨K, 1, none⟩) (RowKit.Below.setCell (p := ⟨K, 0, none⟩) HBL.out HKK.out (.int .i64 0)) HKK.out (.string ⟨#[]⟩)) HKK.out (.int .i64 0)) HKK.out (.int .i64 0)) HKK.out (.int .i64 0)) HKK.out (.int .i64 0)) HKK.out (.int .i64 0))
    have HBZ := Lib.hid hbz
    clear hbz b0 b1 b2 b3 b4 b5 b6 b7
    have HK0 := Lib.hid hk
    go_wp2_with fail
    refine bodyPost_ret (v := .tuple #[.agg #[.int .i64 0, .string ⟨#[]⟩, .int .i64 0, .int .i64 0, .int .i64 0, .int .i64 0, .int .i64 0], .bool false]) (by simp [results, Tryd.results12, go_sem, z0, z1, z2, z3, z4, z5, z6]) rfl ?_
    exact ⟨HBZ.out, .inr ⟨by have := HK0.out; omega, zeroFa, rfl⟩⟩
  · by_cases hk2 : k < (l.length : Int)
    · obtain ⟨i, rfl⟩ : ∃ i : Nat, k = i := ⟨k.toNat, by omega⟩
      have hi : i < l.length := by omega
      have HI := Lib.hid hi
      obtain ⟨fb, fo, rfl, r0, r1, r2, r3, r4, r5, r6⟩ := fact_at HFr.out hi
      obtain ⟨x, hx⟩ : ∃ x, l[i]'hi = x := ⟨_, rfl⟩
      rw [hx] at r0 r1 r2 r3 r4 r5 r6
      have HX := Lib.hid hx
      clear hx
      obtain ⟨xw, xn, xo, xv, xf, xt, xl⟩ := x
      simp only at r0 r1 r2 r3 r4 r5 r6
      clear HF HFr
      go_upto_region 3 with fail
      have b0 := HBX.out
      have m0 := b0.cell 0 rfl
      have f0 := b0.free 0
      have b1 := b0.set 0 (.int .i64 xw)
      have m1 := b1.cell 1 rfl
      have f1 := b1.free 1
      have b2 := b1.set 1 (.string ⟨xn.toArray⟩)
      have m2 := b2.cell 2 rfl
      have f2 := b2.free 2
      have b3 := b2.set 2 (.int .i64 xo)
      have m3 := b3.cell 3 rfl
      have f3 := b3.free 3
      have b4 := b3.set 3 (.int .i64 xv)
      have m4 := b4.cell 4 rfl
      have f4 := b4.free 4
      have b5 := b4.set 4 (.int .i64 xf)
      have m5 := b5.cell 5 rfl
      have f5 := b5.free 5
      have b6 := b5.set 5 (.int .i64 xt)
      have m6 := b6.cell 6 rfl
      have f6 := b6.free 6
      have b7 := b6.set 6 (.int .i64 xl)
      have z0 := b7.cell 0 rfl
      have z1 := b7.cell 1 rfl
      have z2 := b7.cell 2 rfl
      have z3 := b7.cell 3 rfl
      have z4 := b7.cell 4 rfl
      have z5 := b7.cell 5 rfl
      have z6 := b7.cell 6 rfl
      have hbz := (RowKit.Below.setCell (p := ⟨K, 6, none⟩) (RowKit.Below.setCell (p := ⟨K, 5, none⟩) (RowKit.Below.setCell (p := ⟨K, 4, none⟩) (RowKit.Below.setCell (p := ⟨K, 3, none⟩) (RowKit.Below.setCell (p := ⟨K, 2, none⟩) (RowKit.Below.setCell (p := ⟨K, 1, none⟩) (RowKit.Below.setCell (p := ⟨K, 0, none⟩) HBL.out HKK.out (.int .i64 xw)) HKK.out (.string ⟨xn.toArray⟩)) HKK.out (.int .i64 xo)) HKK.out (.int .i64 xv)) HKK.out (.int .i64 xf)) HKK.out (.int .i64 xt)) HKK.out (.int .i64 xl))
      have HBZ := Lib.hid hbz
      clear hbz b0 b1 b2 b3 b4 b5 b6 b7
      go_wp2_with fail
      refine bodyPost_ret (v := .tuple #[.agg #[.int .i64 xw, .string ⟨xn.toArray⟩, .int .i64 xo, .int .i64 xv, .int .i64 xf, .int .i64 xt, .int .i64 xl], .bool true]) (by simp [results, Tryd.results12, go_sem, z0, z1, z2, z3, z4, z5, z6]) rfl ?_
      exact ⟨HBZ.out, by show _ = Ending.returned (.tuple #[.agg (faC (l[i]'HI.out)).toArray, .bool true]); rw [HX.out]; rfl⟩
    · have hk3 : (l.length : Int) ≤ k := by omega
      have HK3 := Lib.hid hk3
      have b0 := HBX.out
      have m0 := b0.cell 0 rfl
      have f0 := b0.free 0
      have b1 := b0.set 0 (.int .i64 0)
      have m1 := b1.cell 1 rfl
      have f1 := b1.free 1
      have b2 := b1.set 1 (.string ⟨#[]⟩)
      have m2 := b2.cell 2 rfl
      have f2 := b2.free 2
      have b3 := b2.set 2 (.int .i64 0)
      have m3 := b3.cell 3 rfl
      have f3 := b3.free 3
      have b4 := b3.set 3 (.int .i64 0)
      have m4 := b4.cell 4 rfl
      have f4 := b4.free 4
      have b5 := b4.set 4 (.int .i64 0)
      have m5 := b5.cell 5 rfl
      have f5 := b5.free 5
      have b6 := b5.set 5 (.int .i64 0)
      have m6 := b6.cell 6 rfl
      have f6 := b6.free 6
      have b7 := b6.set 6 (.int .i64 0)
      have z0 := b7.cell 0 rfl
      have z1 := b7.cell 1 rfl
      have z2 := b7.cell 2 rfl
      have z3 := b7.cell 3 rfl
      have z4 := b7.cell 4 rfl
      have z5 := b7.cell 5 rfl
      have z6 := b7.cell 6 rfl
      have hbz := (RowKit.Below.setCell (p := ⟨K, 6, none⟩) (RowKit.Below.setCell (p := ⟨K, 5, none⟩) (RowKit.Below.setCell (p := ⟨K, 4, none⟩) (RowKit.Below.setCell (p := ⟨K, 3, none⟩) (RowKit.Below.setCell (p := ⟨K, 2, none⟩) (RowKit.Below.setCell (p := ⟨K, 1, none⟩) (RowKit.Below.setCell (p := ⟨K, 0, none⟩) HBL.out HKK.out (.int .i64 0)) HKK.out (.string ⟨#[]⟩)) HKK.out (.int .i64 0)) HKK.out (.int .i64 0)) HKK.out (.int .i64 0)) HKK.out (.int .i64 0)) HKK.out (.int .i64 0))
      have HBZ := Lib.hid hbz
      clear hbz b0 b1 b2 b3 b4 b5 b6 b7
      go_wp2_with fail
      refine bodyPost_ret (v := .tuple #[.agg #[.int .i64 0, .string ⟨#[]⟩, .int .i64 0, .int .i64 0, .int .i64 0, .int .i64 0, .int .i64 0], .bool false]) (by simp [results, Tryd.results12, go_sem, z0, z1, z2, z3, z4, z5, z6]) rfl ?_
      first
        | exact ⟨HBZ.out, zeroFa, rfl⟩
        | exact ⟨HBZ.out, .inr ⟨zeroFa, rfl⟩⟩
end Go.Proofs.YtcpcejmlnhflpaaDoor.Fk

/- Two entries alike: the law's sameEntry. -/
import Derived.Test.YtjnkcpeicocjhaaDoorRSettle
namespace Go.Proofs.YtjnkcpeicocjhaaDoor.RSettle
open Go.RowKit Mem Pays Nest Claims Settle

theorem li_at {w : World} {A : Option Addr} {ls : List Line} (h : Rd w A (ls.flatMap liCells)) {k : Nat} (hk : k < ls.length) :
    ∃ b o, A = some ⟨b, o, none⟩ ∧ w.cell? ⟨b, o + k * 2, none⟩ = some ls[k].1.val ∧ w.cell? ⟨b, o + k * 2 + 1, none⟩ = some (.int .i64 ls[k].2) := by
  obtain ⟨b, o, e, hc⟩ := h.row liCells_len hk (by omega)
  exact ⟨b, o, e, by simpa using hc 0 _ rfl, by simpa [Nat.add_assoc] using hc 1 _ rfl⟩
theorem acc_str (a : Acc) : ∃ b, a.val = .string b := by cases a <;> exact ⟨_, rfl⟩
set_option maxRecDepth 100000 in
set_option maxHeartbeats 2000000 in
theorem same_any (d : Int) (ls : List Line) (hl : ls.length ≤ 100) (A1 A2 : Option Addr) (c1 c2 : Nat) (w : World) (h1 : Rd w A1 (ls.flatMap liCells)) (h2 : Rd w A2 (ls.flatMap liCells)) :
    Calls Tryd.prog 18 #[.agg #[.int .i64 d, .string ⟨#[97, 110, 101, 119]⟩, .slice A1 ls.length c1], .agg #[.int .i64 d, .string ⟨#[97, 110, 101, 119]⟩, .slice A2 ls.length c2]] w fun e w' => e = .returned (.bool true) ∧ Below w.heap.size w w' := by
  have H1 := Lib.hid h1
  have H2 := Lib.hid h2
  have hx1 := ext_alloc w (.cells #[.int .i64 d, .string ⟨#[97, 110, 101, 119]⟩, .slice A1 ls.length c1] 56)
  have hx2 := ext_alloc (w.alloc (.cells #[.int .i64 d, .string ⟨#[97, 110, 101, 119]⟩, .slice A1 ls.length c1] 56)) (.cells #[.int .i64 d, .string ⟨#[97, 110, 101, 119]⟩, .slice A2 ls.length c2] 59)
  have HX := Lib.hid (ext_trans hx1 hx2)
  have HA := Lib.hid (Sol.blk_ext (Blk.new w 56 [.int .i64 d, .string ⟨#[97, 110, 101, 119]⟩, .slice A1 ls.length c1]) hx2)
  have HC := Lib.hid (show Blk _ (w.heap.size + 1) 59 [.int .i64 d, .string ⟨#[97, 110, 101, 119]⟩, .slice A2 ls.length c2] by
    have := Blk.new (w.alloc (.cells #[.int .i64 d, .string ⟨#[97, 110, 101, 119]⟩, .slice A1 ls.length c1] 56)) 59 [.int .i64 d, .string ⟨#[97, 110, 101, 119]⟩, .slice A2 ls.length c2]
    simpa using this)
  clear h1 h2 hx1 hx2
  go_enter Tryd.func18, Tryd.ntmps18
  go_wp2_with fail
  go_loopw [5] (fun i wr => ∃ k : Nat, i = .int .i64 k ∧ k ≤ ls.length ∧ Hid (Below w.heap.size w wr) ∧ Hid (Blk wr w.heap.size 56 [.int .i64 d, .string ⟨#[97, 110, 101, 119]⟩, .slice A1 ls.length c1]) ∧ Hid (Blk wr (w.heap.size + 1) 59 [.int .i64 d, .string ⟨#[97, 110, 101, 119]⟩, .slice A2 ls.length c2])) (fun i _ => (ls.length - intOf i).toNat)
  case atStart => exact ⟨0, rfl, by omega, HX.out, HA.out, HC.out⟩
  case round =>
    clear HX HA HC
    obtain ⟨k, rfl, hk, HB, HA, HC⟩ := hrel
    have x2 := HA.out.cell 2 rfl
    have y2 := HC.out.cell 2 rfl
    by_cases hlt : k < ls.length
    · have hcl : (k : Int) < ls.length := by omega
      obtain ⟨b1, o1, rfl, p0, p1⟩ := li_at (H1.out.ext HB.out) hlt
      obtain ⟨b2, o2, rfl, q0, q1⟩ := li_at (H2.out.ext HB.out) hlt
      obtain ⟨s, hs⟩ := acc_str ls[k].1
      rw [hs] at p0 q0
      clear hs
      generalize ls[k].2 = z at *
      go_wp2_with fail
      go_quiet (fail)
      go_wp2_with fail
      go_roundw
      case rel => exact ⟨k + 1, by simp, by omega, ext_trans HB.out (ext_drewN wr nq), Sol.blk_ext HA.out (ext_drewN wr nq), Sol.blk_ext HC.out (ext_drewN wr nq)⟩
      case measure => simp [intOf]; omega
    · have hcl : ¬ (k : Int) < ls.length := by omega
      go_wp2_with fail
      go_ret
      exact ⟨rfl, HB.out⟩
end Go.Proofs.YtjnkcpeicocjhaaDoor.RSettle

/- LedgerKeeps: two entries alike. -/
import Derived.Test.YtdnhfcphmbhloaaGreatDoorLkB
namespace Go.Proofs.YtdnhfcphmbhloaaGreatDoor.Lk
open Go.RowKit Mem Nest Fk Msi Err

set_option maxRecDepth 100000 in
set_option maxHeartbeats 2000000 in
theorem lsame (d : Int) (x : Tx) (ls : List Ln) (hl : ls.length ≤ 100) (A1 A2 : Option Addr) (c1 c2 : Nat) (w : World) (h1 : Rd w A1 (ls.flatMap lnCells)) (h2 : Rd w A2 (ls.flatMap lnCells)) :
    Calls Tryz.prog 14 #[.agg #[.int .i64 d, .string ⟨x.toArray⟩, .slice A1 ls.length c1], .agg #[.int .i64 d, .string ⟨x.toArray⟩, .slice A2 ls.length c2]] w fun e w' => e = .returned (.bool true) ∧ Below w.heap.size w w' := by
  have H1 := Lib.hid h1
  have H2 := Lib.hid h2
  have hx1 := ext_alloc w (.cells #[.int .i64 d, .string ⟨x.toArray⟩, .slice A1 ls.length c1] 36)
  have hx2 := ext_alloc (w.alloc (.cells #[.int .i64 d, .string ⟨x.toArray⟩, .slice A1 ls.length c1] 36)) (.cells #[.int .i64 d, .string ⟨x.toArray⟩, .slice A2 ls.length c2] 30)
  have HX := Lib.hid (ext_trans hx1 hx2)
  have HA := Lib.hid (blk_ext2 (Blk.new w 36 [.int .i64 d, .string ⟨x.toArray⟩, .slice A1 ls.length c1]) hx2)
  have HC := Lib.hid (show Blk _ (w.heap.size + 1) 30 [.int .i64 d, .string ⟨x.toArray⟩, .slice A2 ls.length c2] by
    have := Blk.new (w.alloc (.cells #[.int .i64 d, .string ⟨x.toArray⟩, .slice A1 ls.length c1] 36)) 30 [.int .i64 d, .string ⟨x.toArray⟩, .slice A2 ls.length c2]
    simpa using this)
  clear h1 h2 hx1 hx2
  go_enter Tryz.func14, Tryz.ntmps14
  go_wp2_with fail
  go_loopw [5] (fun i wr => ∃ k : Nat, i = .int .i64 k ∧ k ≤ ls.length ∧ Hid (Below w.heap.size w wr) ∧ Hid (Blk wr w.heap.size 36 [.int .i64 d, .string ⟨x.toArray⟩, .slice A1 ls.length c1]) ∧ Hid (Blk wr (w.heap.size + 1) 30 [.int .i64 d, .string ⟨x.toArray⟩, .slice A2 ls.length c2])) (fun i _ => (ls.length - intOf i).toNat)
  case atStart => exact ⟨0, rfl, by omega, HX.out, HA.out, HC.out⟩
  case round =>
    clear HX HA HC
    obtain ⟨k, rfl, hk, HB, HA, HC⟩ := hrel
    have x2 := HA.out.cell 2 rfl
    have y2 := HC.out.cell 2 rfl
    by_cases hlt : k < ls.length
    · have hcl : (k : Int) < ls.length := by omega
      obtain ⟨b1, o1, rfl, p0, p1⟩ := ln_at (H1.out.ext HB.out) hlt
      obtain ⟨b2, o2, rfl, q0, q1⟩ := ln_at (H2.out.ext HB.out) hlt
      generalize ls[k].1 = s at *
      generalize ls[k].2 = z at *
      go_wp2_with fail
      go_quiet (fail)
      go_wp2_with fail
      go_roundw
      case rel => exact ⟨k + 1, by simp, by omega, ext_trans HB.out (ext_drewN wr nq), blk_ext2 HA.out (ext_drewN wr nq), blk_ext2 HC.out (ext_drewN wr nq)⟩
      case measure => simp [intOf]; omega
    · have hcl : ¬ (k : Int) < ls.length := by omega
      go_wp2_with fail
      go_ret
      exact ⟨rfl, HB.out⟩
end Go.Proofs.YtdnhfcphmbhloaaGreatDoor.Lk

/- strconv.FormatUint at base 10: a number's digits. -/
import Derived.Test.YtdfajigepchccaaDoorTabs
import Derived.Lib.Walk
import Derived.Lib.ItoaMem
import Derived.Lib.AppendIntMem
import Derived.Laws.IdiomStrings
import Derived.WalkKit
import Derived.BigCall
import Derived.BigGuard
import Derived.Lib.Hide
import Derived.IntWalk
namespace Go.Proofs.YtdfajigepchccaaDoor.Tabs
open Go.RowKit Mem Go.Sort

set_option maxHeartbeats 6400000 in
set_option maxRecDepth 100000 in
theorem fmtu_in (u : Nat) (hu64 : u < 18446744073709551616) (w : World) (hp : Pow w) :
    Calls Tryd.prog 96 #[.int .u64 (u : Int), .int .i64 10] w (StrPost (Lib.decDigits u) w) := by
  by_cases hs : u < 100
  · have hsc : (u : Int) < 100 := by omega
    have hw : IntKind.i64.wrap (u : Int) = u := IntWalk.i64_in _ (by omega)
    go_enter Tryd.func96, Tryd.ntmps96
    go_wp2_with (go_at_call 121; refine (Tryd.internal_strconv_small u hs _).mono ?_; rintro e w' ⟨rfl, rfl⟩)
    go_ret
    exact ⟨rfl, Below.refl _ _⟩
  · have hsc : ¬ (u : Int) < 100 := by omega
    have hu1 : 1 ≤ u := by omega
    have hnd20 : Lib.nDigits u ≤ 20 := by have := Lib.numDigits_eq u hu1 hu64; split at this <;> omega
    have hb3 : Lib.nDigits u ≤ 24 := by omega
    have hal : Tryd.prog.arrayLen 177 = 24 := by kernel_rfl
    have hsl1 : ∀ W, (Instr.sliceAt 177 (.pointer (some ⟨w.heap.size, 0, none⟩)) none (some (.int .i64 (Lib.nDigits u : Int))) none).run Tryd.prog W = .ok (.slice (some ⟨w.heap.size, 0, none⟩) (Lib.nDigits u) 24) W := fun W => by
      rw [run_sliceAt_array_h W 177 ⟨w.heap.size, 0, none⟩ Tryd.underlying177 .i64 (Lib.nDigits u : Int) (by omega) (by rw [hal]; omega)]
      go_simp
      try omega
    have hH0 := Lib.holds_zero0 w 177 (Lib.nDigits u) hb3
    have hfmt := Tryd.internal_strconv_formatBase10 w.heap.size 0 24 u (Array.replicate (Lib.nDigits u) 0) (w.alloc (.cells Lib.zeros24 177)) hH0 (by rw [Array.size_replicate]; exact Lib.lt_pow_nDigits u) hu64 (by rw [Array.size_replicate]; omega)
    rw [Array.size_replicate] at hfmt
    have HH0 := Lib.hid hH0
    clear hH0 hal
    go_enter Tryd.func96, Tryd.ntmps96
    go_wp2_with (first
      | (go_at_call 122; refine (Tryd.internal_strconv_numDigits u hu1 hu64 _ (Lib.tabIs_alloc hp _)).mono ?_; rintro e w' ⟨rfl, rfl⟩))
    refine hfmt.mono ?_
    rintro e w' ⟨rfl, k, v', dk, rfl, hF⟩
    have hcv : (convert 76 9 (.slice (some ⟨w.heap.size, 0, none⟩) (Lib.nDigits u) 24)).run Tryd.prog ((putRow (fun (b : UInt8) => Value.int .u8 (b.toNat : Int)) (w.alloc (.cells Lib.zeros24 177)) w.heap.size 0 dk).drewN k) = .ok (.string ⟨(Lib.decDigits u).toArray⟩) ((putRow (fun (b : UInt8) => Value.int .u8 (b.toNat : Int)) (w.alloc (.cells Lib.zeros24 177)) w.heap.size 0 dk).drewN k) := by
      have h := run_convert_bytes_back (P := Tryd.prog) ((putRow (fun (b : UInt8) => Value.int .u8 (b.toNat : Int)) (w.alloc (.cells Lib.zeros24 177)) w.heap.size 0 dk).drewN k) 76 9 5 ⟨w.heap.size, 0, none⟩ 24 (Lib.decDigits u) Tryd.underlying76 Tryd.underlying5 Tryd.underlying9 (fun j hj => by
        rw [Lib.row_is_numeral hF j hj, Lib.add_plain, World.cell?_drewN]
        exact cell?_putRow (fun (b : UInt8) => Value.int .u8 (b.toNat : Int)) _ w.heap.size 0 _ dk HH0.out (by rw [hF.size, Array.size_replicate]) j (by rw [hF.size]; rw [Lib.decDigits_length] at hj; exact hj))
      rw [Lib.decDigits_length] at h
      exact h
    have HFin := Lib.hid (Lib.fin_at w (.cells Lib.zeros24 177) dk k 0)
    generalize hW : (putRow (fun (b : UInt8) => Value.int .u8 (b.toNat : Int)) (w.alloc (.cells Lib.zeros24 177)) w.heap.size 0 dk).drewN k = W at HFin hcv ⊢
    clear hW hF hfmt
    go_wp2_with fail
    go_ret
    obtain ⟨os, eo⟩ := HFin.out
    refine ⟨rfl, ?_⟩
    rw [eo]
    exact below_grow w k os
/-- strconv.FormatUint at base 10 -/
theorem fmtu_any (u : Nat) (hu64 : u < 18446744073709551616) (w : World) (hp : Pow w) :
    Calls Tryd.prog 62 #[.int .u64 (u : Int), .int .i64 10] w (StrPost (Lib.decDigits u) w) := by
  have h := Lib.hid (fmtu_in u hu64 w hp)
  clear hp
  go_enter Tryd.func62, Tryd.ntmps62
  go_wp2_with fail
  refine h.out.mono ?_
  rintro e w' ⟨rfl, hb⟩
  have HB := Lib.hid hb
  clear hb
  go_wp2_with fail
  go_ret
  exact ⟨rfl, HB.out⟩
end Go.Proofs.YtdfajigepchccaaDoor.Tabs

/- statutelaw5.pays: the program answers. -/
import Derived.Test.YtnbpdknmbjkfeaaDoorSums3
import Derived.Deep.Quiet
namespace Go.Proofs.YtnbpdknmbjkfeaaDoor.SumsSplit
open Go.RowKit Cal Day Mem Pays Rnd Sums

theorem pays_plain : MonthsR [(1, 3, 20)] [310, 310] 1 4 := ⟨1, 1, 1, by decide, by decide, by simp, by decide, show List.drop (span [310, 310] 1 1 1) [310, 310] = [] by decide⟩
theorem one_row {w : World} {A : Option Addr} {p : Pay} {ps : List Pay} (h : Rd w A ((p :: ps).flatMap payCells)) :
    ∃ b o, A = some ⟨b, o, none⟩ ∧ w.cell? ⟨b, o, none⟩ = some (.int .i64 p.1) ∧ w.cell? ⟨b, o + 1, none⟩ = some (.int .i64 p.2.1) ∧ w.cell? ⟨b, o + 2, none⟩ = some (.int .i64 p.2.2) := by
  obtain ⟨b, o, e, hc⟩ := h.row payCells_len (k := 0) (by simp) (by omega)
  exact ⟨b, o, e, by simpa using hc 0 _ rfl, by simpa using hc 1 _ rfl, by simpa using hc 2 _ rfl⟩
set_option maxHeartbeats 1000000 in
theorem pays_any (w : World) : Calls Tryd.prog 27 #[] w fun e w' => e = .returned (.bool true) ∧ Below w.heap.size w w' := by
  have hr : Rd (w.alloc (.cells #[.int .i64 310, .int .i64 310] 3)) (some ⟨w.heap.size, 0, none⟩) (ints [310, 310]) := fun j u hj => by
    refine ⟨w.heap.size, 0, rfl, ?_⟩
    rw [World.cell?_alloc_at _ _ _ _ rfl]
    simpa [ints] using hj
  have HM := Lib.hid (months_ok [310, 310] 1 4 (some ⟨w.heap.size, 0, none⟩) 2 (by simp) (by simp) ⟨by omega, by omega, by simp, by omega, by simp, by simp⟩ _ hr)
  clear hr
  go_enter Tryd.func27, Tryd.ntmps27
  go_wp2_with fail
  refine HM.out.mono ?_
  rintro e w' ⟨ps, A', c', rfl, hm, hr, hc, hb⟩
  have e1 := MonthsR.unique hm pays_plain
  subst e1
  obtain ⟨b, o, rfl, _, _, c2⟩ := one_row hr
  have HB := Lib.hid ((ext_alloc w _).trans (hb.mono (by simp)))
  have hc1 : 1 ≤ c' := hc
  clear hm hr hc hb
  go_wp2_with fail
  go_ret
  exact ⟨ret_bool (by simp), HB.out⟩
end Go.Proofs.YtnbpdknmbjkfeaaDoor.SumsSplit

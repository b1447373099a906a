/- Slices of integers among the arguments, opened to the walks' own words. -/
import Derived.Test.YtipbmpakdcmdoaaDoorMem
import Derived.Test.YtipbmpakdcmdoaaDoorCal2
import Derived.Test.YtipbmpakdcmdoaaDoorDay
import Derived.ProofKit
import Derived.OpenShut
import Derived.ChangeOld
import Derived.Below
namespace Go.Proofs.YtipbmpakdcmdoaaDoor.Open
open Go.ChangeShapes Go.WideShapes Go.ChangeAt Go.RowKit Mem
theorem getD_map (zs : List Int) (j : Nat) (h : j < zs.length) : (zs.map (Value.int .i64))[j]? = some (.int .i64 (zs.getD j 0)) := by
  simp [List.getD, List.getElem?_eq_getElem h]
/-- a slice of ints came in: its elements, as a list -/
theorem ints_of {H : Type} {enc : TypeId × Value → H} {W : World} {A : Option Addr} {n c fuel : Nat} {x : DataW H × List MemPlace}
    (h : DataW.trod enc Tryd.prog W 0 (fun _ => true) true fuel 49 (Value.slice A n c).cells.toList = some x) : ∃ zs : List Int, n = zs.length ∧ zs.length ≤ c ∧ c ≤ maxLen ∧ Rd W A (ints zs) := by
  rcases open_ints Tryd.underlying49 Tryd.underlying3 (by kernel_rfl) h with ⟨hcs, _⟩ | ⟨a, l, cap, zs, hcs, _, hl, hm, hz, _, hcell, hwz⟩
  · simp [Value.cells] at hcs
    obtain ⟨rfl, rfl, rfl⟩ := hcs
    exact ⟨[], rfl, by simp, by simp [maxLen], Rd.nil⟩
  · simp [Value.cells] at hcs
    obtain ⟨rfl, rfl, rfl⟩ := hcs
    have hz' : zs.length = c := by simpa using hz
    refine ⟨zs.take n, by rw [List.length_take]; omega, by rw [List.length_take]; omega, hm, ?_⟩
    have hr : Rd W (some a) (ints zs) := by
      intro j u hj
      have hjl : j < zs.length := by
        have := (List.getElem?_eq_some_iff.1 hj).1
        rwa [ints_len] at this
      obtain ⟨b, o, rfl, hc⟩ := ints_at hcell (by omega)
      refine ⟨b, o, rfl, ?_⟩
      rw [hc j hjl, ← getD_map zs j hjl]
      exact hj
    have := hr.take n
    rwa [ints, ← List.map_take] at this
end Go.Proofs.YtipbmpakdcmdoaaDoor.Open

/- Facts: the document's turns. -/
import Derived.Test.YtnchlnfenebomaaGreatDoorFkJ
namespace Go.Proofs.YtnchlnfenebomaaGreatDoor.Fk
open Go.RowKit Mem Nest Err App

theorem turns_no {who kn : Int} {x : Fa} (h : kn < x.learnt ∨ (0 ≤ who ∧ x.who ≠ who)) : turnsOf who kn x = [] := by unfold turnsOf; rw [if_pos h]
theorem turns_one {who kn : Int} {x : Fa} (h : ¬ (kn < x.learnt ∨ (0 ≤ who ∧ x.who ≠ who))) (h0 : x.to_ = 0) : turnsOf who kn x = [x.from_] := by unfold turnsOf; rw [if_neg h, if_neg (by simp [h0])]
theorem turns_two {who kn : Int} {x : Fa} (h : ¬ (kn < x.learnt ∨ (0 ≤ who ∧ x.who ≠ who))) (h0 : x.to_ ≠ 0) : turnsOf who kn x = [x.from_, x.to_] := by unfold turnsOf; rw [if_neg h, if_pos h0]
end Go.Proofs.YtnchlnfenebomaaGreatDoor.Fk

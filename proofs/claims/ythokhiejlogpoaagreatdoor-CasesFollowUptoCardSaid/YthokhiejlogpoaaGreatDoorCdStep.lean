/- Walking working days: the program's Works and step. Walking working days: the program's step. -/
import Derived.Test.YthokhiejlogpoaaGreatDoorCdP
import Derived.Test.YthokhiejlogpoaaGreatDoorCdR
import Derived.Test.YthokhiejlogpoaaGreatDoorDay
import Derived.Test.YthokhiejlogpoaaGreatDoorSolve
namespace Go.Proofs.YthokhiejlogpoaaGreatDoor.CdM
open Go.RowKit Mem CdP MapSet Solve CdR Day Nest

end Go.Proofs.YthokhiejlogpoaaGreatDoor.CdM
namespace Go.Proofs.YthokhiejlogpoaaGreatDoor.CdM
open Go.RowKit Mem CdP MapSet Solve CdR Day Nest

/-- the error of a walk that leaves the days -/
def errR (eD : Value) : Option Int → Value
  | some _ => .nilIface
  | none => eD
def StepPost (c : Cd) (st d : Int) (n : Nat) (eD : Value) (w : World) (e : Ending) (w' : World) : Prop :=
  ∃ r, Walk c st d n r ∧ Below w.heap.size w w' ∧ e = .returned (.tuple #[.int .i64 (resOf r).1, errR eD r])
set_option maxHeartbeats 1000000 in
theorem seven_eq (b0 b1 b2 b3 b4 b5 b6 : Bool) (w : World) : (Op.equalIn 10000 142 (.agg #[.bool b0, .bool b1, .bool b2, .bool b3, .bool b4, .bool b5, .bool b6]) (.agg #[.bool true, .bool true, .bool true, .bool true, .bool true, .bool true, .bool true])).run Tryz.prog w = .ok (b0 && b1 && b2 && b3 && b4 && b5 && b6) w := by
  cases b0 <;> cases b1 <;> cases b2 <;> cases b3 <;> cases b4 <;> cases b5 <;> cases b6 <;> kernel_rfl
theorem all_seven (b0 b1 b2 b3 b4 b5 b6 : Bool) (hol : List Int) (len : [b0, b1, b2, b3, b4, b5, b6].length = 7) : allB ⟨[b0, b1, b2, b3, b4, b5, b6], hol, len⟩ = (b0 && b1 && b2 && b3 && b4 && b5 && b6) := by
  unfold allB
  simp [Bool.and_assoc]
end Go.Proofs.YthokhiejlogpoaaGreatDoor.CdM

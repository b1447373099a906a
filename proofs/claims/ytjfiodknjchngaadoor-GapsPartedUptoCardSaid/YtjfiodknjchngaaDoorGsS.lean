/- Gaps: Same. -/
import Derived.Test.YtjfiodknjchngaaDoorGsP
import Derived.Test.YtjfiodknjchngaaDoorGsE
import Derived.Test.YtjfiodknjchngaaDoorGpZ
import Derived.Deep.RegionHeld3
namespace Go.Proofs.YtjfiodknjchngaaDoor.Gp
open Go.RowKit Mem Nest Fk MapSet Err

theorem opt_eq (oa ob : Option (List UInt8)) : (oa == ob) = ((oa.getD [] == ob.getD []) && (oa.isSome == ob.isSome)) := by
  cases oa <;> cases ob <;> simp
theorem sameQ_len {qa qb : List Qn} (h : sameQ qa qb = true) : qa.length = qb.length := by
  unfold sameQ at h
  simp only [Bool.and_eq_true, beq_iff_eq] at h
  exact h.1
/-- what Same tells: c is the first error -/
def SamePost (c : Nat) (r : Option (List Int)) (A : Nat → Addr) (w : World) (e : Ending) (w' : World) : Prop := Below w.heap.size w w' ∧
  ((c ≠ 0 ∧ e = .returned (.tuple #[.slice none 0 0, .bool false, errVal A c])) ∨ (c = 0 ∧ r = none ∧ e = .returned (.tuple #[.slice none 0 0, .bool true, .nilIface])) ∨
    (c = 0 ∧ ∃ cs A' c', r = some cs ∧ e = .returned (.tuple #[.slice A' cs.length c', .bool false, .nilIface]) ∧ Rd w' A' (ints cs)))
def sameCode (qa qb : List Qn) (ra rb : List Rw) : Nat := if vcode qa ra ≠ 0 then vcode qa ra else if vcode qb rb ≠ 0 then vcode qb rb else if sameQ qa qb = true then 0 else 9
end Go.Proofs.YtjfiodknjchngaaDoor.Gp

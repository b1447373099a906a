/- The document's calendar of working days: Works, allOff, walk, Roll, Add. -/
import Derived.Test.YtjfiodknjchngaaDoorCdP
import Derived.Test.YtjfiodknjchngaaDoorRefDay
import Derived.Test.YtjfiodknjchngaaDoorNest
import Derived.Test.YtjfiodknjchngaaDoorDay
namespace Go.Proofs.YtjfiodknjchngaaDoor.CdR
open Go.RowKit Mem CdP CdM RefDay Nest

def worksB (c : Cd) (d : Int) : Bool := decide (Gd d) && wk c.off c.hol d
theorem contains_iff (hol : List Int) (d : Int) : hol.contains d = true ↔ ∃ (j : Nat) (h : j < hol.length), hol[j] = d := by
  rw [List.contains_iff_mem]
  exact ⟨fun h => by obtain ⟨j, hj, e⟩ := List.mem_iff_getElem.1 h; exact ⟨j, hj, e⟩, fun ⟨j, hj, e⟩ => e ▸ List.getElem_mem hj⟩
/-- is no day of the week a working day? -/
def allB (c : Cd) : Bool := c.off.all id
theorem all_true {c : Cd} (h : allB c = true) : ∀ b ∈ c.off, b = true := fun b hb => by
  unfold allB at h
  rw [List.all_eq_true] at h
  exact h b hb
/-- where a walk ends, as a result -/
def resOf : Option Int → Int × Int
  | some d => (d, 0)
  | none => (0, 4)
def WalkPost (c : Cd) (st d : Int) (n : Nat) (w : World) (e : Ending) (w' : World) : Prop :=
  ∃ r, Walk c st d n r ∧ e = .returned (.tuple #[.int .i64 (resOf r).1, .int .i64 (resOf r).2]) ∧ Below w.heap.size w w'
end Go.Proofs.YtjfiodknjchngaaDoor.CdR

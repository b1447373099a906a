/- Gaps: Idle. -/
import Derived.Test.YtjfiodknjchngaaDoorGpZ
import Derived.Laws.AppendOwn
namespace Go.Proofs.YtjfiodknjchngaaDoor.Gp
open Go.RowKit Mem Nest Fk MapSet Err

/-- the rows, up to one, of which no case is decided first -/
def idleB (ns : List Nat) (rs : List Rw) (k : Nat) : Bool := ((exts ns).find? fun c => saysF rs c == some k).isSome
def idleTo (ns : List Nat) (rs : List Rw) : Nat → List Int
  | 0 => []
  | k + 1 => if idleB ns rs k = true then idleTo ns rs k else idleTo ns rs k ++ [(k : Int)]
theorem idleTo_len (ns : List Nat) (rs : List Rw) : ∀ k, (idleTo ns rs k).length ≤ k
  | 0 => Nat.le_refl 0
  | k + 1 => by
    have := idleTo_len ns rs k
    rw [idleTo]
    split
    · omega
    · rw [List.length_append]
      simp
      omega
def IdlePost (c : Nat) (l : List Int) (A : Nat → Addr) (w : World) (e : Ending) (w' : World) : Prop := Below w.heap.size w w' ∧
  ((c ≠ 0 ∧ e = .returned (.tuple #[.slice none 0 0, errVal A c])) ∨ (c = 0 ∧ ∃ A' c', e = .returned (.tuple #[.slice A' l.length c', .nilIface]) ∧ Rd w' A' (ints l)))
end Go.Proofs.YtjfiodknjchngaaDoor.Gp

/- Gaps: lists of texts compared; the questions of two tables compared. -/
import Derived.Test.YtjfiodknjchngaaDoorGpN
import Derived.Test.YtjfiodknjchngaaDoorGpM
import Derived.BigQuiet
namespace Go.Proofs.YtjfiodknjchngaaDoor.Gp
open Go.RowKit Mem Nest Fk

/-- a call that at most draws tells this -/
def RetD (b : Bool) (w : World) (e : Ending) (w' : World) : Prop := e = .returned (.bool b) ∧ ∃ n, w' = w.drewN n
theorem retD {a b : Bool} {w w' : World} (h : a = b) (hb : ∃ n, w' = w.drewN n) : RetD b w (.returned (.bool a)) w' := ⟨by rw [h], hb⟩
theorem RetD.a {b : Bool} {w w' : World} {e : Ending} (h : RetD b w e w') : RetA b w e w' := by
  obtain ⟨h1, n, rfl⟩ := h
  exact ⟨h1, ext_drewN w n⟩
def eqQ (a b : Qn) : Bool := (a.name == b.name) && (a.ans == b.ans)
def diffQ (qa qb : List Qn) (i : Nat) : Bool := anyTo (fun i => !eqQ (qAt qa i) (qAt qb i)) i
def sameQ (qa qb : List Qn) : Bool := (qa.length == qb.length) && !diffQ qa qb qa.length
theorem diffQ_true {qa qb : List Qn} {i n : Nat} (hi : i < n) (h : eqQ (qAt qa i) (qAt qb i) = false) : diffQ qa qb n = true := by
  cases hd : diffQ qa qb n with
  | true => rfl
  | false =>
    have := anyTo_no hd hi
    rw [h] at this
    cases this
end Go.Proofs.YtjfiodknjchngaaDoor.Gp

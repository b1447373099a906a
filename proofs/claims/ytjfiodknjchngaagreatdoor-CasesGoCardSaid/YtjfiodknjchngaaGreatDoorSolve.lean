/- reason.Solve: the walk. -/
import Derived.Test.YtjfiodknjchngaaGreatDoorVal
import Derived.Test.YtjfiodknjchngaaGreatDoorRun
namespace Go.Proofs.YtjfiodknjchngaaGreatDoor.Solve
open Go.RowKit Mem Thy Nest Day Thm Sol Val

def Sent (w : World) (g : Nat) (a : Addr) : Prop := w.cell? ⟨g, 0, none⟩ = some (.iface 232 (.pointer (some a)))
def errV (a : Addr) : Value := .iface 232 (.pointer (some a))
/-- what is right about a theory -/
structure Right (N : Int) (rs : List Rw) (ov : List (Int × Int)) : Prop where
  b : ¬ Bd N rs ov
  k : ¬ Kd rs
  n : ¬ Nm N rs ov
  o : Ranked ov
theorem Right.names {N : Int} {rs : List Rw} {ov : List (Int × Int)} (h : Right N rs ov) : 0 ≤ N ∧ N ≤ 120 := by
  have hb : ¬ Bound0 N rs ov := fun x => h.b (.inl x)
  unfold Bound0 at hb
  omega
/-- the solver that has just been made -/
def mkP (w1 : World) (n : Nat) (rs : List Rw) (RA : Option Addr) (rc : Nat) (ov : List (Int × Int)) (OA : Option Addr) (oc sb hb : Nat) : SvP := ⟨w1.heap.size + 2, n, rs, RA, rc, ov, OA, oc, sb, hb, w1.heap.size + 1, ov.length, w1.heap.size + 3⟩
def thOf (n : Nat) (rs : List Rw) (ov : List (Int × Int)) : Th := ⟨n, rs.map Rw.rl, ov⟩
/-- what Solve gives -/
def SolvePost (N : Int) (rs : List Rw) (ov : List (Int × Int)) (aB aK aN aO : Addr) (w : World) (e : Ending) (w' : World) : Prop :=
  ∃ kv ev, e = .returned (.tuple #[kv, ev]) ∧ Below w.heap.size w w' ∧
    ((¬ Right N rs ov ∧ VOut N rs ov (errV aB) (errV aK) (errV aN) (errV aO) ev ∧ (∃ a, ev = errV a) ∧ kv = .agg #[.slice none 0 0, .slice none 0 0]) ∨
     (Right N rs ov ∧ ev = .nilIface ∧ ∃ (n sb hb : Nat) (S H : List Int), N = n ∧ kv = .agg #[.slice (some ⟨sb, 0, none⟩) (2 * n) (2 * n), .slice (some ⟨hb, 0, none⟩) (2 * n) (2 * n)] ∧ Blk w' sb 3 (ints S) ∧ Blk w' hb 3 (ints H) ∧ S.length = 2 * n ∧ H.length = 2 * n ∧
       Thy.Good (thOf n rs ov) (stOf S) (stOf H) ∧ Thy.Fin (thOf n rs ov) (stOf S) (stOf H)))
theorem vout_err {N : Int} {rs : List Rw} {ov : List (Int × Int)} {aB aK aN aO : Addr} {v : Value} (h : VOut N rs ov (errV aB) (errV aK) (errV aN) (errV aO) v) : (¬ Right N rs ov ∧ ∃ a, v = errV a) ∨ (Right N rs ov ∧ v = .nilIface) := by
  rcases h with ⟨h, rfl⟩ | ⟨_, h, rfl⟩ | ⟨_, _, h, rfl⟩ | ⟨_, _, _, h, rfl⟩ | ⟨h1, h2, h3, h4, rfl⟩
  · exact .inl ⟨fun r => r.b h, _, rfl⟩
  · exact .inl ⟨fun r => r.k h, _, rfl⟩
  · exact .inl ⟨fun r => r.n h, _, rfl⟩
  · exact .inl ⟨fun r => h r.o, _, rfl⟩
  · exact .inr ⟨⟨h1, h2, h3, h4⟩, rfl⟩
end Go.Proofs.YtjfiodknjchngaaGreatDoor.Solve

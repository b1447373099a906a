/- reason.Valid: literals, and what is asked of a theory. reason.Valid: the walk. -/
import Derived.Test.YtjfiodknjchngaaGreatDoorRings
import Derived.Test.YtjfiodknjchngaaGreatDoorSol
import Derived.Deep.DeepCutAuto
namespace Go.Proofs.YtjfiodknjchngaaGreatDoor.Val
open Go.RowKit Mem Thy Nest Day Thm

def LitW (N q : Int) : Prop := q ≠ 0 ∧ IntKind.i64.wrap (-N) ≤ q ∧ q ≤ N
theorem litW_iff {N q : Int} (h0 : 0 ≤ N) (h1 : N ≤ 120) : LitW N q ↔ q ≠ 0 ∧ -N ≤ q ∧ q ≤ N := by
  unfold LitW
  rw [IntWalk.i64_in _ (by omega)]
def thVal (N : Int) (rs : List Rw) (RA : Option Addr) (rc : Nat) (ov : List (Int × Int)) (OA : Option Addr) (oc : Nat) : Value := .agg #[.int .i64 N, .slice RA rs.length rc, .slice OA ov.length oc]
def thCells (N : Int) (rs : List Rw) (RA : Option Addr) (rc : Nat) (ov : List (Int × Int)) (OA : Option Addr) (oc : Nat) : List Value := [.int .i64 N, .slice RA rs.length rc, .slice OA ov.length oc]
end Go.Proofs.YtjfiodknjchngaaGreatDoor.Val
namespace Go.Proofs.YtjfiodknjchngaaGreatDoor.Val
open Go.RowKit Mem Thy Nest Day Thm

def Ex {α : Type} (P : α → Prop) (l : List α) (k : Nat) : Prop := ∃ x ∈ l.take k, P x
theorem Ex.zero {α : Type} {P : α → Prop} {l : List α} : Ex P l 0 ↔ False := by simp [Ex]
theorem Ex.succ {α : Type} {P : α → Prop} {l : List α} {k : Nat} (h : k < l.length) : Ex P l (k + 1) ↔ Ex P l k ∨ P l[k] := by
  unfold Ex
  rw [List.take_succ_eq_append_getElem h]
  constructor
  · rintro ⟨x, hx, hp⟩
    rcases List.mem_append.1 hx with hx | hx
    · exact .inl ⟨x, hx, hp⟩
    · simp at hx; subst hx; exact .inr hp
  · rintro (⟨x, hx, hp⟩ | hp)
    · exact ⟨x, List.mem_append_left _ hx, hp⟩
    · exact ⟨_, List.mem_append_right _ (List.mem_singleton.2 rfl), hp⟩
theorem Ex.all {α : Type} {P : α → Prop} {l : List α} : Ex P l l.length ↔ ∃ x ∈ l, P x := by simp [Ex]
def Bound0 (N : Int) (rs : List Rw) (ov : List (Int × Int)) : Prop := ((N < 0 ∨ 120 < N) ∨ 120 < rs.length) ∨ 1200 < ov.length
def BodyB (r : Rw) : Prop := 120 < r.body.length
def KindB (r : Rw) : Prop := r.kind < 0 ∨ 2 < r.kind
def NameB (N : Int) (r : Rw) : Prop := ¬ LitW N r.head ∨ ∃ x ∈ r.body, ¬ LitW N x
def OutB (n : Nat) (x : Int) : Prop := x < 0 ∨ (n : Int) ≤ x
def OvB (n : Nat) (p : Int × Int) : Prop := OutB n p.1 ∨ OutB n p.2
def Bd (N : Int) (rs : List Rw) (ov : List (Int × Int)) : Prop := Bound0 N rs ov ∨ ∃ r ∈ rs, BodyB r
def Kd (rs : List Rw) : Prop := ∃ r ∈ rs, KindB r
def Nm (N : Int) (rs : List Rw) (ov : List (Int × Int)) : Prop := (∃ r ∈ rs, NameB N r) ∨ ∃ p ∈ ov, OvB rs.length p
def VOut (N : Int) (rs : List Rw) (ov : List (Int × Int)) (EB EK EN EO v : Value) : Prop :=
  (Bd N rs ov ∧ v = EB) ∨ (¬ Bd N rs ov ∧ Kd rs ∧ v = EK) ∨ (¬ Bd N rs ov ∧ ¬ Kd rs ∧ Nm N rs ov ∧ v = EN) ∨ (¬ Bd N rs ov ∧ ¬ Kd rs ∧ ¬ Nm N rs ov ∧ ¬ Ranked ov ∧ v = EO) ∨ (¬ Bd N rs ov ∧ ¬ Kd rs ∧ ¬ Nm N rs ov ∧ Ranked ov ∧ v = .nilIface)
structure ErrR (w : World) (EB EK EN EO : Value) : Prop where
  b : w.cell? ⟨1, 0, none⟩ = some EB
  k : w.cell? ⟨3, 0, none⟩ = some EK
  n : w.cell? ⟨2, 0, none⟩ = some EN
  o : w.cell? ⟨4, 0, none⟩ = some EO
theorem ErrR.ext {w w' : World} {EB EK EN EO : Value} (h : ErrR w EB EK EN EO) (hb : Below w.heap.size w w') : ErrR w' EB EK EN EO := ⟨cell_ext hb h.b, cell_ext hb h.k, cell_ext hb h.n, cell_ext hb h.o⟩
def ValPost (N : Int) (rs : List Rw) (ov : List (Int × Int)) (EB EK EN EO : Value) (w : World) (e : Ending) (w' : World) : Prop := ∃ v, e = .returned v ∧ VOut N rs ov EB EK EN EO v ∧ Below w.heap.size w w'
theorem bool_iff (p : Prop) : ∃ b : Bool, b = true ↔ p := by
  rcases Classical.em p with h | h
  · exact ⟨true, by simp [h]⟩
  · exact ⟨false, by simp [h]⟩
theorem rings_pre {N : Int} {rs : List Rw} {ov : List (Int × Int)} (h1 : ¬ Bd N rs ov) (h2 : ¬ Nm N rs ov) : rs.length ≤ 120 ∧ ov.length ≤ 1200 ∧ ∀ p ∈ ov, 0 ≤ p.1 ∧ p.1 < rs.length ∧ 0 ≤ p.2 ∧ p.2 < rs.length := by
  have hb : ¬ Bound0 N rs ov := fun h => h1 (.inl h)
  unfold Bound0 at hb
  refine ⟨by omega, by omega, fun p hp => ?_⟩
  have h : ¬ OvB rs.length p := fun h => h2 (.inr ⟨p, hp, h⟩)
  unfold OvB OutB at h
  omega
end Go.Proofs.YtjfiodknjchngaaGreatDoor.Val

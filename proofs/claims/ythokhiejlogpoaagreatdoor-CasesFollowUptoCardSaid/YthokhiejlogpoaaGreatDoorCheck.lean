/- why.Check: whether each step follows from those ahead of it. -/
import Derived.Test.YthokhiejlogpoaaGreatDoorSolve
namespace Go.Proofs.YthokhiejlogpoaaGreatDoor.ChkW
open Go.RowKit Mem Thy Nest Day Thm Sol Val Solve

structure Sp where
  a : Bool
  b : Bool
  q : Int
def spCells (x : Sp) : List Value := [.bool x.a, .bool x.b, .int .i64 x.q]
theorem spCells_len (x : Sp) : (spCells x).length = 3 := rfl
theorem step_at {w : World} {A : Option Addr} {l : List Sp} (h : Rd w A (l.flatMap spCells)) {k : Nat} (hk : k < l.length) :
    ∃ b o, A = some ⟨b, o, none⟩ ∧ w.cell? ⟨b, o + k * 3, none⟩ = some (.bool l[k].a) ∧ w.cell? ⟨b, o + k * 3 + 1, none⟩ = some (.bool l[k].b) ∧ w.cell? ⟨b, o + k * 3 + 2, none⟩ = some (.int .i64 l[k].q) := by
  obtain ⟨b, o, e, hc⟩ := h.row spCells_len hk (by omega)
  exact ⟨b, o, e, by simpa using hc 0 _ rfl, by simpa [Nat.add_assoc] using hc 1 _ rfl, by simpa [Nat.add_assoc] using hc 2 _ rfl⟩
/-- each step follows from those ahead of it -/
def Chk (t : Th) : List Sp → St → St → Prop
  | [], _, _ => True
  | x :: l, s, h => t.Lit x.q ∧ Fol t s h x.a x.b x.q ∧ Chk t l (nextS x.a x.b x.q s) (nextH x.a x.b x.q h)
theorem chk_sound {t : Th} {S H : St} (g : Thy.Good t S H) (fi : Thy.Fin t S H) : ∀ {l : List Sp} {s h : St}, Le s S → Le h H → Chk t l s h → ∀ x ∈ l, t.Lit x.q ∧ pick x.a S H x.q = val x.b
  | [], _, _, _, _, _, x, hx => by cases hx
  | y :: l, s, h, ls, lh, hc, x, hx => by
    obtain ⟨h1, h2, h3⟩ := hc
    have hv := sound g fi ls lh h1 h2
    rcases List.mem_cons.1 hx with rfl | hx
    · exact ⟨h1, hv⟩
    · refine chk_sound g fi ?_ ?_ h3 x hx
      · obtain ⟨a, b, q⟩ := y
        cases a
        · exact ls
        · exact le_upd_of ls hv
      · obtain ⟨a, b, q⟩ := y
        cases a
        · exact le_upd_of lh hv
        · exact lh
theorem nextS_set {S : List Int} {a b : Bool} {q : Int} (hq : q ≠ 0) (h : place q < S.length) : stOf (setS a b q S) = nextS a b q (stOf S) := by
  cases a
  · rfl
  · exact stOf_set hq h
theorem nextH_set {H : List Int} {a b : Bool} {q : Int} (hq : q ≠ 0) (h : place q < H.length) : stOf (setH a b q H) = nextH a b q (stOf H) := by
  cases a
  · exact stOf_set hq h
  · rfl
/-- what Check gives -/
def CheckPost (N : Int) (rs : List Rw) (ov : List (Int × Int)) (l : List Sp) (aB aK aN aO : Addr) (w : World) (e : Ending) (w' : World) : Prop :=
  ∃ (b : Bool) (ev : Value), e = .returned (.tuple #[.bool b, ev]) ∧ Below w.heap.size w w' ∧
    ((¬ Right N rs ov ∧ VOut N rs ov (errV aB) (errV aK) (errV aN) (errV aO) ev ∧ (∃ a, ev = errV a) ∧ b = false) ∨
     (Right N rs ov ∧ ev = .nilIface ∧ ∃ n : Nat, N = n ∧ (b = true ↔ Chk (thOf n rs ov) l (fun _ => 0) (fun _ => 0))))
end Go.Proofs.YthokhiejlogpoaaGreatDoor.ChkW

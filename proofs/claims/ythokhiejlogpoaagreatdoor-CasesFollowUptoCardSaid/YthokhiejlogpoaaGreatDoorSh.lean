/- What is shown, as the document keeps it: four marks of each place; plain. What the document's reasoning reads of what is shown: has, every, some, isOver, help, lost. -/
import Derived.Test.YthokhiejlogpoaaGreatDoorCheck
import Derived.Test.YthokhiejlogpoaaGreatDoorLawT
namespace Go.Proofs.YthokhiejlogpoaaGreatDoor.Sh
open Thy Sol Mem

def mk4 (x : Int × Int) : List Value := [.bool (x.1 == 1), .bool (x.1 == 2), .bool (x.2 == 1), .bool (x.2 == 2)]
theorem mk4_len (x : Int × Int) : (mk4 x).length = 4 := rfl
/-- the marks' cells -/
def marks (S H : List Int) : List Value := (S.zip H).flatMap mk4
def kind (a b : Bool) : Nat := match a, b with
  | true, true => 0
  | true, false => 1
  | false, true => 2
  | false, false => 3
theorem kind_lt (a b : Bool) : kind a b < 4 := by cases a <;> cases b <;> decide
theorem marks_len {S H : List Int} (h : S.length = H.length) : (marks S H).length = S.length * 4 := by
  unfold marks
  rw [flat_len mk4_len, List.length_zip, ← h, Nat.min_self]
theorem marks_at {S H : List Int} (h : S.length = H.length) (a b : Bool) {q : Int} (hq : q ≠ 0) (hp : place q < S.length) :
    (marks S H)[place q * 4 + kind a b]? = some (.bool (pick a (stOf S) (stOf H) q == val b)) := by
  unfold marks
  have hz : (S.zip H)[place q]? = some (S[place q], H[place q]'(h ▸ hp)) := by
    rw [List.getElem?_eq_getElem (by rw [List.length_zip]; omega), List.getElem_zip]
  have hS : stOf S q = S[place q] := by simp [stOf, hq, List.getD, hp]
  have hH : stOf H q = H[place q]'(h ▸ hp) := by simp [stOf, hq, List.getD, h ▸ hp]
  rw [flat_at mk4_len _ _ _ (kind_lt a b), hz]
  cases a <;> cases b <;> simp [mk4, kind, pick, val, hS, hH]
theorem flat_set {α : Type} {sz : Nat} {f : α → List Value} (hf : ∀ x, (f x).length = sz) {v : Value} {y : α} : ∀ (l : List α) (k j : Nat) (hk : k < l.length), j < sz → f y = (f l[k]).set j v → (l.flatMap f).set (k * sz + j) v = (l.set k y).flatMap f
  | [], k, j, hk, _, _ => by simp at hk
  | x :: l, 0, j, _, hj, he => by
    simp only [List.flatMap_cons, Nat.zero_mul, Nat.zero_add, List.set_cons_zero]
    rw [List.set_append_left _ _ (by rw [hf]; exact hj)]
    simp only [List.getElem_cons_zero] at he
    rw [he]
  | x :: l, k + 1, j, hk, hj, he => by
    have ih := flat_set hf l k j (by simpa using hk) hj (by simpa using he)
    simp only [List.flatMap_cons, List.set_cons_succ]
    rw [List.set_append_right _ _ (by rw [hf, Nat.add_mul]; omega), hf, show (k + 1) * sz + j - sz = k * sz + j by rw [Nat.add_mul]; omega, ih]
theorem zip_set_l {S H : List Int} (k : Nat) (v : Int) (hk : k < H.length) : (S.zip H).set k (v, H[k]) = (S.set k v).zip H := by
  induction S generalizing H k with
  | nil => simp
  | cons x S ih =>
    cases H with
    | nil => simp at hk
    | cons y H =>
      cases k with
      | zero => simp
      | succ k =>
        have := ih (H := H) k (by simpa using hk)
        simp only [List.zip_cons_cons, List.set_cons_succ, List.getElem_cons_succ, this]
theorem zip_set_r {S H : List Int} (k : Nat) (v : Int) (hk : k < S.length) : (S.zip H).set k (S[k], v) = S.zip (H.set k v) := by
  induction S generalizing H k with
  | nil => simp at hk
  | cons x S ih =>
    cases H with
    | nil => simp
    | cons y H =>
      cases k with
      | zero => simp
      | succ k =>
        have := ih (H := H) k (by simpa using hk)
        simp only [List.zip_cons_cons, List.set_cons_succ, List.getElem_cons_succ, this]
/-- a mark is laid where none against it lies -/
theorem marks_set {S H : List Int} (h : S.length = H.length) (a b : Bool) {q : Int} (hq : q ≠ 0) (hp : place q < S.length) (hz : pick a (stOf S) (stOf H) q = 0 ∨ pick a (stOf S) (stOf H) q = val b) :
    (marks S H).set (place q * 4 + kind a b) (.bool true) = marks (setS a b q S) (setH a b q H) := by
  have hS : stOf S q = S[place q] := by simp [stOf, hq, List.getD, hp]
  have hH : stOf H q = H[place q]'(h ▸ hp) := by simp [stOf, hq, List.getD, h ▸ hp]
  have hl : place q < (S.zip H).length := by rw [List.length_zip]; omega
  unfold marks
  cases a
  · simp only [pick, hH] at hz
    rw [flat_set mk4_len (y := (S[place q], val b)) _ _ _ hl (kind_lt _ _) (by
      rw [List.getElem_zip]
      generalize S[place q] = x at *
      generalize H[place q] = y at *
      cases b <;> rcases hz with hz | hz <;> simp [mk4, kind, val] at hz ⊢ <;> simp [hz]), zip_set_r _ _ hp]
    rfl
  · simp only [pick, hS] at hz
    rw [flat_set mk4_len (y := (val b, H[place q]'(h ▸ hp))) _ _ _ hl (kind_lt _ _) (by
      rw [List.getElem_zip]
      generalize S[place q] = x at *
      generalize H[place q]'_ = y at *
      cases b <;> rcases hz with hz | hz <;> simp [mk4, kind, val] at hz ⊢ <;> simp [hz]), zip_set_l _ _ (h ▸ hp)]
    rfl
theorem marks_zeros (n : Nat) : marks (List.replicate n 0) (List.replicate n 0) = List.replicate (n * 4) (.bool false) := by
  unfold marks
  induction n with
  | zero => rfl
  | succ n ih =>
    simp only [List.replicate_succ, List.zip_cons_cons, List.flatMap_cons]
    rw [ih, Nat.add_mul]
    simp [mk4, List.replicate_succ]
/-- what is marked agrees: nothing against it lies there -/
theorem Good_free {t : Th} {s h : St} (g : Thy.Good t s h) {a b : Bool} {q : Int} (f : Fol t s h a b q) : pick a s h q = 0 ∨ pick a s h q = val b := by
  rcases g.each a q with z | ⟨b', e', f'⟩
  · exact .inl z
  · refine .inr ?_
    cases b <;> cases b'
    · exact e'
    · exact (f'.excl f).elim
    · exact (f.excl f').elim
    · exact e'
end Go.Proofs.YthokhiejlogpoaaGreatDoor.Sh
namespace Go.Proofs.YthokhiejlogpoaaGreatDoor.Sh
open Go.RowKit Mem Thy Nest Day Thm Sol Val Solve LawT

/-- where what is shown and its theory lie -/
structure ShP where
  w0 : World
  B : Nat
  lb : Nat
  b : Nat
  o : Nat
  n : Nat
  rs : List Rw
  RA : Option Addr
  rc : Nat
  ov : List (Int × Int)
  OA : Option Addr
  oc : Nat
def ShP.th (p : ShP) : Th := thOf p.n p.rs p.ov
structure ShP.Ok (p : ShP) : Prop where
  a : ThA p.w0 p.b p.o p.n p.rs p.RA p.rc p.ov p.OA p.oc
  r : Right p.n p.rs p.ov
  d1 : p.w0.heap.size ≤ p.B
  d2 : p.w0.heap.size ≤ p.lb
  ne : p.B ≠ p.lb
section
variable {w w' : World} {p : ShP} {S H : List Int}
theorem lit_bd {q : Int} (hq : p.th.Lit q) : q ≠ 0 ∧ -(p.n : Int) ≤ q ∧ q ≤ p.n := hq
theorem ShP.Ok.n (ok : p.Ok) : p.n ≤ 120 := by have := ok.r.names; omega
theorem lit_place {q : Int} (hq : p.th.Lit q) : place q < 2 * p.n := by
  obtain ⟨a, b, c⟩ := lit_bd hq
  have := place_lt a b c
  omega
end
theorem rs_len {p : ShP} (ok : p.Ok) : p.rs.length ≤ 120 := by
  have h : ¬ Bound0 p.n p.rs p.ov := fun x => ok.r.b (.inl x)
  unfold Bound0 at h
  omega
theorem body_len {p : ShP} (ok : p.Ok) : ∀ r ∈ p.rs, r.body.length ≤ 120 := fun r hr => Nat.not_lt.1 fun c => ok.r.b (.inr ⟨r, hr, c⟩)
theorem body_lit {p : ShP} (ok : p.Ok) : ∀ r ∈ p.rs, ∀ x ∈ r.body, p.th.Lit x := fun r hr x hx => by
  have hN := ok.r.names
  exact (litW_iff (by omega) hN.2).1 (Classical.byContradiction fun c => ok.r.n (.inl ⟨r, hr, .inr ⟨x, hx, c⟩⟩))
/-- a truth value comes back; nothing has turned -/
def BoolIs (w : World) (P : Prop) (e : Ending) (w' : World) : Prop := ∃ bl : Bool, e = .returned (.bool bl) ∧ (bl = true ↔ P) ∧ w = w'
end Go.Proofs.YthokhiejlogpoaaGreatDoor.Sh

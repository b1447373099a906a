/- Words for memory: a slice's cells as a list; what the words survive. -/
import Derived.WalkKit
import Derived.WalkSpells
import Derived.WalkSmall
import Derived.Lib.Hide
namespace Go.Proofs.YtflklbhgjfonbaaGreatDoor.Mem
open Go.RowKit

theorem cell_lt {w : World} {a : Addr} {v : Value} (h : w.cell? a = some v) : a.block < w.heap.size := by
  rcases Nat.lt_or_ge a.block w.heap.size with h' | h'
  · exact h'
  · simp [World.cell?, Array.getElem?_eq_none h'] at h
theorem cell_keep {B : Nat} {w w' : World} (h : Below B w w') {a : Addr} {v : Value} (ha : a.block < B) (hc : w.cell? a = some v) : w'.cell? a = some v := by
  rw [h.cell ha]; exact hc
theorem cell_ext {w w' : World} (h : Below w.heap.size w w') {a : Addr} {v : Value} (hc : w.cell? a = some v) : w'.cell? a = some v :=
  cell_keep h (cell_lt hc) hc
theorem ext_trans {a b c : World} (h : Below a.heap.size a b) (k : Below b.heap.size b c) : Below a.heap.size a c := h.trans (k.mono h.size)
theorem ext_drewN (w : World) (n : Nat) : Below w.heap.size w (w.drewN n) := below_drewN (Below.refl _ _) n
theorem ext_alloc (w : World) (o : Obj) : Below w.heap.size w (w.alloc o) := (Below.refl _ _).alloc (Nat.le_refl _) o

/-- the slice that begins at A has these cells -/
def Rd (w : World) (A : Option Addr) (cs : List Value) : Prop :=
  ∀ j u, cs[j]? = some u → ∃ b o, A = some ⟨b, o, none⟩ ∧ w.cell? ⟨b, o + j, none⟩ = some u
section
variable {w w' : World} {A : Option Addr} {cs : List Value}
theorem Rd.nil : Rd w A [] := fun j u h => by simp at h
theorem Rd.ext (h : Rd w A cs) (hb : Below w.heap.size w w') : Rd w' A cs := fun j u hj => by
  obtain ⟨b, o, e, hc⟩ := h j u hj
  exact ⟨b, o, e, cell_ext hb hc⟩
theorem Rd.keep {B : Nat} (h : Rd w A cs) (hb : Below B w w') (hA : ∀ a, A = some a → a.block < B) : Rd w' A cs := fun j u hj => by
  obtain ⟨b, o, e, hc⟩ := h j u hj
  exact ⟨b, o, e, cell_keep hb (show b < B from hA ⟨b, o, none⟩ e) hc⟩
theorem Rd.at_ {k : Nat} (h : Rd w A cs) (hk : k < cs.length) : ∃ b o, A = some ⟨b, o, none⟩ ∧ w.cell? ⟨b, o + k, none⟩ = some cs[k] :=
  h k _ (List.getElem?_eq_getElem hk)
theorem Rd.take (h : Rd w A cs) (k : Nat) : Rd w A (cs.take k) := fun j u hj => by
  refine h j u ?_
  rw [List.getElem?_take] at hj
  split at hj
  · exact hj
  · cases hj
theorem Rd.drop (h : Rd w A cs) (k : Nat) : Rd w (A.map (·.add k)) (cs.drop k) := fun j u hj => by
  rw [List.getElem?_drop] at hj
  obtain ⟨b, o, e, hc⟩ := h _ u hj
  refine ⟨b, o + k, ?_, by rw [Nat.add_assoc]; exact hc⟩
  subst e
  unfold Addr.add
  by_cases h0 : k = 0
  · subst h0; rfl
  · simp [h0]
theorem Rd.cut (h : Rd w A cs) {k cap : Nat} (hk : k ≤ cs.length) (hc : cs.length ≤ cap) : Rd w (if cap = k then A else A.map (·.add k)) (cs.drop k) := by
  by_cases e : cap = k
  · rw [if_pos e, List.drop_eq_nil_of_le (by omega)]; exact Rd.nil
  · rw [if_neg e]; exact h.drop k
theorem Rd.of_own {base : Nat} {e : TypeId} {size n c : Nat} {xs : List Value} (h : w.ownsRow base e size (.slice A n c) n xs) : Rd w A xs := fun j u hj => by
  obtain ⟨g, hA⟩ : ∃ g, A = some ⟨g, 0, none⟩ := by
    rcases h.2 with ⟨_, h0⟩ | ⟨g, cap, cur, hv, _⟩
    · have := h.1; subst h0; simp at this; subst this; simp at hj
    · exact ⟨g, by injection hv⟩
  subst hA
  have hc := h.cells (g := g) rfl j u hj
  refine ⟨g, 0, rfl, ?_⟩
  unfold Addr.add at hc
  by_cases h0 : j = 0
  · subst h0; simpa using hc
  · simpa [h0] using hc
end
/-- cells of equal rows, laid one behind the other -/
theorem flat_at {α : Type} {sz : Nat} {f : α → List Value} (hf : ∀ x, (f x).length = sz) : ∀ (l : List α) (k j : Nat), j < sz → (l.flatMap f)[k * sz + j]? = (l[k]?).bind fun x => (f x)[j]?
  | [], k, j, _ => by simp
  | x :: l, 0, j, hj => by
    simp only [List.flatMap_cons, Nat.zero_mul, Nat.zero_add, List.getElem?_cons_zero, Option.bind_some]
    rw [List.getElem?_append_left (by rw [hf]; exact hj)]
  | x :: l, k + 1, j, hj => by
    have ih := flat_at hf l k j hj
    simp only [List.flatMap_cons, List.getElem?_cons_succ]
    rw [List.getElem?_append_right (by rw [hf, Nat.add_mul]; omega), hf]
    rw [show (k + 1) * sz + j - sz = k * sz + j by rw [Nat.add_mul]; omega]
    exact ih
theorem flat_len {α : Type} {sz : Nat} {f : α → List Value} (hf : ∀ x, (f x).length = sz) : ∀ (l : List α), (l.flatMap f).length = l.length * sz
  | [] => by simp
  | x :: l => by simp only [List.flatMap_cons, List.length_append, hf, flat_len hf l, List.length_cons, Nat.add_mul]; omega
theorem Rd.row {α : Type} {sz : Nat} {f : α → List Value} {w : World} {A : Option Addr} {l : List α} (hf : ∀ x, (f x).length = sz) (h : Rd w A (l.flatMap f)) {k : Nat} (hk : k < l.length) (hsz : 0 < sz) :
    ∃ b o, A = some ⟨b, o, none⟩ ∧ ∀ j u, (f l[k])[j]? = some u → w.cell? ⟨b, o + (k * sz + j), none⟩ = some u := by
  have hl : (f l[k]).length = sz := hf _
  obtain ⟨b, o, e, _⟩ := h (k * sz + 0) ((f l[k])[0]'(by omega)) (by rw [flat_at hf _ _ _ hsz, List.getElem?_eq_getElem hk]; exact List.getElem?_eq_getElem _)
  refine ⟨b, o, e, fun j u hj => ?_⟩
  have hjl : j < sz := by rw [← hl]; exact (List.getElem?_eq_some_iff.1 hj).1
  obtain ⟨b', o', e', hc⟩ := h (k * sz + j) u (by rw [flat_at hf _ _ _ hjl, List.getElem?_eq_getElem hk]; exact hj)
  rw [e] at e'
  simp only [Option.some.injEq, Addr.mk.injEq, and_true] at e'
  obtain ⟨rfl, rfl⟩ := e'
  exact hc

/-- integers' cells -/
def ints (zs : List Int) : List Value := zs.map (Value.int .i64)
theorem ints_len (zs : List Int) : (ints zs).length = zs.length := by simp [ints]
theorem Rd.int {w : World} {A : Option Addr} {zs : List Int} (h : Rd w A (ints zs)) {k : Nat} (hk : k < zs.length) : ∃ b o, A = some ⟨b, o, none⟩ ∧ w.cell? ⟨b, o + k, none⟩ = some (.int .i64 zs[k]) := by
  obtain ⟨b, o, e, hc⟩ := h.at_ (k := k) (by rw [ints_len]; exact hk)
  exact ⟨b, o, e, by simpa [ints] using hc⟩
/-- the cells of a block that has just been made -/
theorem new_cells (w : World) (l : List Value) (t : TypeId) (s : Nat) (hs : s = w.heap.size) : ∀ j u, l[j]? = some u → (w.alloc (.cells l.toArray t)).cell? ((⟨s, 0, none⟩ : Addr).add j) = some u := by
  intro j u hj
  subst hs
  have e : (⟨w.heap.size, 0, none⟩ : Addr).add j = ⟨w.heap.size, j, none⟩ := by
    unfold Addr.add
    by_cases h0 : j = 0
    · subst h0; rfl
    · simp [h0]
  rw [e, World.cell?_alloc_at _ _ _ _ rfl]
  simpa using hj
/-- an owned row, made longer: the world grows, nothing below the base turns -/
theorem grown_ext {w0 w w' : World} {base : Nat} {e : TypeId} {size n : Nat} {v : Value} {xs : List Value} (hb : Below w0.heap.size w0 w) (h0 : base = w0.heap.size) (h : w.ownsRow base e size v n xs) (hg : w.grownBy w' v.ownBlock) : Below w0.heap.size w0 w' :=
  hb.grown hg hb.size fun k hk => by have := (h.lt k hk).1; omega
end Go.Proofs.YtflklbhgjfonbaaGreatDoor.Mem

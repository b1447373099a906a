/- What bands come to: the plain law. -/
import Derived.Test.YtdfajigepchccaaDoorRnd
namespace Go.Proofs.YtdfajigepchccaaDoor.Bn
open Go.RowKit Rnd

abbrev Bd := Int × Int
def badB (b : Bd) : Bool := decide (b.1 < 0) || decide (1000000000000 < b.1) || decide (b.2 < 0) || decide (1000000 < b.2)
theorem badB_no {b : Bd} (h : badB b = false) : 0 ≤ b.1 ∧ b.1 ≤ 1000000000000 ∧ 0 ≤ b.2 ∧ b.2 ≤ 1000000 := by
  unfold badB at h
  simp only [Bool.or_eq_false_iff, decide_eq_false_iff_not] at h
  omega
/-- what one band adds, up to a top -/
def term (top : Int) (b : Bd) : Int := if b.1 < top then (top - b.1) * b.2 else 0
/-- up to where the bands ahead reach -/
def lim (am : Int) : List Bd → Int
  | [] => am
  | b :: _ => min am b.1
def psum (am : Int) : List Bd → Int
  | [] => 0
  | b :: t => term (lim am t) b + psum am t
def Inc (l : List Bd) : Prop := ∀ j (h : j + 1 < l.length), (l[j]'(by omega)).1 < l[j + 1].1
theorem Inc.tail {b : Bd} {t : List Bd} (h : Inc (b :: t)) : Inc t := fun j hj => by
  have := h (j + 1) (by simp; omega)
  simpa using this
theorem Inc.drop {l : List Bd} (h : Inc l) (i : Nat) : Inc (l.drop i) := fun j hj => by
  rw [List.length_drop] at hj
  have := h (i + j) (by omega)
  simpa [List.getElem_drop, Nat.add_assoc] using this
theorem lim_le (am : Int) (t : List Bd) : lim am t ≤ am := by
  cases t with
  | nil => exact Int.le_refl _
  | cons b t => exact Int.min_le_left _ _
theorem lim_ge {am : Int} {t : List Bd} (h0 : 0 ≤ am) (hb : ∀ b ∈ t, badB b = false) : 0 ≤ lim am t := by
  cases t with
  | nil => exact h0
  | cons b t => have := (badB_no (hb b (List.mem_cons_self ..))).1; show 0 ≤ min am b.1; omega
theorem lim_step {am : Int} {b : Bd} {t : List Bd} (h : Inc (b :: t)) : lim am (b :: t) = if b.1 < lim am t then b.1 else lim am t := by
  cases t with
  | nil => show min am b.1 = if b.1 < am then b.1 else am; split <;> omega
  | cons c t =>
    have := h 0 (by simp)
    simp only [List.getElem_cons_zero, List.getElem_cons_succ, Nat.zero_add] at this
    show min am b.1 = if b.1 < min am c.1 then b.1 else min am c.1
    split <;> omega
theorem term_bd {top : Int} {b : Bd} (hb : badB b = false) : 0 ≤ term top b ∧ (b.1 < top → term top b ≤ 1000000 * (top - b.1)) ∧ (¬ b.1 < top → term top b = 0) := by
  obtain ⟨_, _, h3, h4⟩ := badB_no hb
  unfold term
  by_cases h : b.1 < top
  · rw [if_pos h]
    refine ⟨Int.mul_nonneg (by omega) h3, fun _ => ?_, fun h' => absurd h h'⟩
    have := Int.mul_le_mul_of_nonneg_left h4 (show 0 ≤ top - b.1 by omega)
    omega
  · rw [if_neg h]
    exact ⟨Int.le_refl _, fun h' => absurd h' h, fun _ => rfl⟩
theorem psum_bd (am : Int) : ∀ l : List Bd, Inc l → (∀ b ∈ l, badB b = false) → 0 ≤ psum am l ∧ psum am l ≤ 1000000 * (am - lim am l)
  | [], _, _ => by simp [psum, lim]
  | b :: t, h, hb => by
    obtain ⟨i1, i2⟩ := psum_bd am t h.tail (fun c hc => hb c (List.mem_cons_of_mem _ hc))
    obtain ⟨t1, t2, t3⟩ := term_bd (top := lim am t) (hb b (List.mem_cons_self ..))
    have hs := lim_step (am := am) h
    have hl := lim_le am t
    show 0 ≤ term (lim am t) b + psum am t ∧ term (lim am t) b + psum am t ≤ _
    rw [hs]
    by_cases hx : b.1 < lim am t
    · rw [if_pos hx]; have := t2 hx; omega
    · rw [if_neg hx, t3 hx]; omega
theorem psum_small {am : Int} {l : List Bd} (h0 : 0 ≤ am) (h1 : am ≤ 1000000000000) (h : Inc l) (hb : ∀ b ∈ l, badB b = false) : 0 ≤ psum am l ∧ psum am l ≤ 1000000000000000000 := by
  have := psum_bd am l h hb
  have := lim_ge h0 hb
  omega
theorem psum_drop {am : Int} {l : List Bd} {i : Nat} (h : i < l.length) : psum am (l.drop i) = term (lim am (l.drop (i + 1))) l[i] + psum am (l.drop (i + 1)) := by
  rw [List.drop_eq_getElem_cons h]
  rfl
theorem lim_drop {am : Int} {l : List Bd} {i : Nat} (h : i < l.length) : lim am (l.drop i) = min am l[i].1 := by
  rw [List.drop_eq_getElem_cons h]
  rfl
theorem lim_end {am : Int} {l : List Bd} {i : Nat} (h : ¬ i < l.length) : lim am (l.drop i) = am := by
  rw [List.drop_eq_nil_of_le (by omega)]
  rfl
theorem lim_step_drop {am : Int} {l : List Bd} {i : Nat} (hi : Inc l) (h : i < l.length) : lim am (l.drop i) = if l[i].1 < lim am (l.drop (i + 1)) then l[i].1 else lim am (l.drop (i + 1)) := by
  have := hi.drop i
  rw [List.drop_eq_getElem_cons h] at this ⊢
  exact lim_step this
/-- what both Bands come to: the number and the error's number -/
noncomputable def bandsF (am : Int) (l : List Bd) (way : Int) : Int × Nat :=
  open Classical in
  if way < 0 ∨ 5 < way then (0, 9)
  else if am < 0 ∨ 1000000000000 < am ∨ l.any badB = true then (0, 3)
  else if 60 < l.length ∨ ¬ Inc l then (0, 8)
  else if rnd (psum am l) 10000 way < -1000000000000 ∨ 1000000000000 < rnd (psum am l) 10000 way then (0, 3)
  else (rnd (psum am l) 10000 way, 0)
section
variable {am way : Int} {l : List Bd}
theorem bands_way (h : way < 0 ∨ 5 < way) : bandsF am l way = (0, 9) := by unfold bandsF; rw [if_pos h]
theorem bands_coin (h0 : ¬ (way < 0 ∨ 5 < way)) (h : am < 0 ∨ 1000000000000 < am ∨ l.any badB = true) : bandsF am l way = (0, 3) := by unfold bandsF; rw [if_neg h0, if_pos h]
theorem bands_order (h0 : ¬ (way < 0 ∨ 5 < way)) (h1 : ¬ (am < 0 ∨ 1000000000000 < am ∨ l.any badB = true)) (h : 60 < l.length ∨ ¬ Inc l) : bandsF am l way = (0, 8) := by unfold bandsF; rw [if_neg h0, if_neg h1, if_pos h]
theorem bands_high (h0 : ¬ (way < 0 ∨ 5 < way)) (h1 : ¬ (am < 0 ∨ 1000000000000 < am ∨ l.any badB = true)) (h2 : ¬ (60 < l.length ∨ ¬ Inc l)) {n : Int} (hn : n = rnd (psum am l) 10000 way) (h : n < -1000000000000 ∨ 1000000000000 < n) : bandsF am l way = (0, 3) := by
  subst hn; unfold bandsF; rw [if_neg h0, if_neg h1, if_neg h2, if_pos h]
theorem bands_ok (h0 : ¬ (way < 0 ∨ 5 < way)) (h1 : ¬ (am < 0 ∨ 1000000000000 < am ∨ l.any badB = true)) (h2 : ¬ (60 < l.length ∨ ¬ Inc l)) {n : Int} (hn : n = rnd (psum am l) 10000 way) (h : ¬ (n < -1000000000000 ∨ 1000000000000 < n)) : bandsF am l way = (n, 0) := by
  subst hn; unfold bandsF; rw [if_neg h0, if_neg h1, if_neg h2, if_neg h]
end
theorem not_inc {l : List Bd} {i : Nat} (h1 : 1 ≤ i) (h : i < l.length) (hle : l[i].1 ≤ (l[i - 1]'(by omega)).1) : ¬ Inc l := fun hi => by
  have := hi (i - 1) (by omega)
  simp only [show i - 1 + 1 = i by omega] at this
  omega
end Go.Proofs.YtdfajigepchccaaDoor.Bn

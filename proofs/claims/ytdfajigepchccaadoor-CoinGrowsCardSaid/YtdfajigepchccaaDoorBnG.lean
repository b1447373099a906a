/- What bands come to, of more: no less; and no more than what is more. -/
import Derived.Test.YtdfajigepchccaaDoorBnP
namespace Go.Proofs.YtdfajigepchccaaDoor.Bn
open Go.RowKit Rnd

theorem lim_mono {am am' : Int} (h : am ≤ am') (t : List Bd) : lim am t ≤ lim am' t := by
  cases t with
  | nil => exact h
  | cons b t => show min am b.1 ≤ min am' b.1; omega
theorem term_mono {T T' : Int} {b : Bd} (h : T ≤ T') (hb : badB b = false) : term T b ≤ term T' b := by
  obtain ⟨_, _, h3, _⟩ := badB_no hb
  unfold term
  by_cases c1 : b.1 < T
  · rw [if_pos c1, if_pos (by omega)]
    exact Int.mul_le_mul_of_nonneg_right (by omega) h3
  · rw [if_neg c1]
    by_cases c2 : b.1 < T'
    · rw [if_pos c2]; exact Int.mul_nonneg (by omega) h3
    · rw [if_neg c2]; omega
theorem psum_mono {am am' : Int} (h : am ≤ am') : ∀ l : List Bd, (∀ b ∈ l, badB b = false) → psum am l ≤ psum am' l
  | [], _ => Int.le_refl _
  | b :: t, hb => by
    have h1 := psum_mono h t (fun c hc => hb c (List.mem_cons_of_mem _ hc))
    have h2 := term_mono (lim_mono h t) (hb b (List.mem_cons_self ..))
    show term (lim am t) b + psum am t ≤ term (lim am' t) b + psum am' t
    omega
theorem term_more {T T' : Int} {b : Bd} (h : T ≤ T') (hb : badB b = false) (hr : b.2 ≤ 10000) :
    term T' b - term T b ≤ 10000 * ((T' - (if b.1 < T' then b.1 else T')) - (T - (if b.1 < T then b.1 else T))) := by
  obtain ⟨_, _, h3, _⟩ := badB_no hb
  unfold term
  by_cases c1 : b.1 < T
  · have c2 : b.1 < T' := by omega
    rw [if_pos c1, if_pos c2, if_pos c1, if_pos c2]
    have := Int.mul_le_mul_of_nonneg_left hr (show 0 ≤ T' - T by omega)
    have e : (T' - b.1) * b.2 - (T - b.1) * b.2 = (T' - T) * b.2 := by rw [← Int.sub_mul]; congr 1; omega
    omega
  · rw [if_neg c1, if_neg c1]
    by_cases c2 : b.1 < T'
    · rw [if_pos c2, if_pos c2]
      have := Int.mul_le_mul_of_nonneg_left hr (show 0 ≤ T' - b.1 by omega)
      omega
    · rw [if_neg c2, if_neg c2]; omega
theorem psum_more {am am' : Int} (h : am ≤ am') : ∀ l : List Bd, Inc l → (∀ b ∈ l, badB b = false) → (∀ b ∈ l, b.2 ≤ 10000) → psum am' l - psum am l ≤ 10000 * ((am' - lim am' l) - (am - lim am l))
  | [], _, _, _ => by simp [psum, lim]
  | b :: t, hi, hb, hr => by
    have h1 := psum_more h t hi.tail (fun c hc => hb c (List.mem_cons_of_mem _ hc)) (fun c hc => hr c (List.mem_cons_of_mem _ hc))
    have h2 := term_more (lim_mono h t) (hb b (List.mem_cons_self ..)) (hr b (List.mem_cons_self ..))
    have s1 := lim_step (am := am) hi
    have s2 := lim_step (am := am') hi
    show term (lim am' t) b + psum am' t - (term (lim am t) b + psum am t) ≤ _
    rw [s1, s2]
    omega
theorem rnd_floor {a : Int} (h : 0 ≤ a) : rnd a 10000 2 = a / 10000 := by
  unfold rnd
  rw [if_neg (by omega)]
  simp [upB]
/-- the two answers, where there are any -/
theorem grows {am more : Int} {l : List Bd} {a b : Int} (hm : 0 ≤ more) (ha : bandsF am l 2 = (a, 0)) (hb : bandsF (am + more) l 2 = (b, 0)) :
    a ≤ b ∧ 0 ≤ a ∧ b ≤ 1000000000000 ∧ ((∀ x ∈ l, x.2 ≤ 10000) → b - a ≤ more) := by
  have key : ∀ {m n : Int}, bandsF m l 2 = (n, 0) → 0 ≤ m ∧ m ≤ 1000000000000 ∧ (∀ b ∈ l, badB b = false) ∧ Inc l ∧ n = rnd (psum m l) 10000 2 ∧ n ≤ 1000000000000 := by
    intro m n h
    by_cases h2 : m < 0 ∨ 1000000000000 < m ∨ l.any badB = true
    · rw [bands_coin (by omega) h2] at h; simp at h
    · by_cases h3 : 60 < l.length ∨ ¬ Inc l
      · rw [bands_order (by omega) h2 h3] at h; simp at h
      · by_cases h4 : rnd (psum m l) 10000 2 < -1000000000000 ∨ 1000000000000 < rnd (psum m l) 10000 2
        · rw [bands_high (by omega) h2 h3 rfl h4] at h; simp at h
        · rw [bands_ok (by omega) h2 h3 rfl h4] at h
          have hn : rnd (psum m l) 10000 2 = n := congrArg Prod.fst h
          refine ⟨by omega, by omega, fun b hb => ?_, Classical.not_not.1 (fun hi => h3 (.inr hi)), hn.symm, by omega⟩
          cases hh : badB b with
          | false => rfl
          | true => exact absurd (.inr (.inr (List.any_eq_true.2 ⟨b, hb, hh⟩))) h2
  obtain ⟨a0, a1, hA, hI, e1, _⟩ := key ha
  obtain ⟨b0, b1, _, _, e2, b3⟩ := key hb
  have p1 := psum_small a0 a1 hI hA
  have p2 := psum_small b0 b1 hI hA
  rw [rnd_floor p1.1] at e1
  rw [rnd_floor p2.1] at e2
  have h1 := psum_mono (show am ≤ am + more by omega) l hA
  refine ⟨by omega, by omega, b3, fun hr => ?_⟩
  have h2 := psum_more (show am ≤ am + more by omega) l hI hA hr
  have h3 := lim_mono (show am ≤ am + more by omega) l
  omega
theorem codes (am way : Int) (l : List Bd) : (bandsF am l way).2 = 0 ∨ (bandsF am l way).2 = 3 ∨ (bandsF am l way).2 = 8 ∨ (bandsF am l way).2 = 9 := by
  unfold bandsF
  by_cases h1 : way < 0 ∨ 5 < way
  · rw [if_pos h1]; simp
  · rw [if_neg h1]
    by_cases h2 : am < 0 ∨ 1000000000000 < am ∨ l.any badB = true
    · rw [if_pos h2]; simp
    · rw [if_neg h2]
      by_cases h3 : 60 < l.length ∨ ¬ Inc l
      · rw [if_pos h3]; simp
      · rw [if_neg h3]
        by_cases h4 : rnd (psum am l) 10000 way < -1000000000000 ∨ 1000000000000 < rnd (psum am l) 10000 way
        · rw [if_pos h4]; simp
        · rw [if_neg h4]; simp
end Go.Proofs.YtdfajigepchccaaDoor.Bn

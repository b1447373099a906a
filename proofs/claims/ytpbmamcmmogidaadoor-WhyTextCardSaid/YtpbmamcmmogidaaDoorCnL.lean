/- What Go's library does with amounts' texts, in plain lists: Split at commas, Join, TrimLeft, Atoi of digits; the ways that coinF takes. -/
import Derived.Test.YtpbmamcmmogidaaDoorCnB
import Derived.Lib.SplitLaws
import Derived.Lib.Join
import Derived.Lib.AtoiAllCases
import Derived.Lib.TrimByte
import Derived.Lib.Strings
namespace Go.Proofs.YtpbmamcmmogidaaDoor.Cn
open Rd

theorem grps_none : ∀ l : List UInt8, 44 ∉ l → grps l = [l]
  | [], _ => rfl
  | c :: t, h => by
    have hc : c ≠ 44 := fun e => h (by simp [e])
    exact grps_dig hc (grps_none t (fun hm => h (by simp [hm])))
theorem index_cons (c : UInt8) (t : List UInt8) : Lib.index (c :: t) [44] = if c = 44 then 0 else if Lib.index t [44] == -1 then -1 else Lib.index t [44] + 1 := by
  rw [Lib.index]
  by_cases h : c = 44
  · subst h; simp
  · have h' : ¬ 44 = c := fun e => h e.symm
    simp [h, h']
theorem index_ge0 : ∀ l : List UInt8, (44 ∈ l → ∃ i : Nat, Lib.index l [44] = i) ∧ (44 ∉ l → Lib.index l [44] = -1)
  | [] => ⟨fun h => by simp at h, fun _ => rfl⟩
  | c :: t => by
    obtain ⟨h1, h2⟩ := index_ge0 t
    rw [index_cons]
    by_cases hc : c = 44
    · exact ⟨fun _ => ⟨0, by simp [hc]⟩, fun h => absurd (by simp [hc]) h⟩
    · rw [if_neg hc]
      have hc' : ¬ 44 = c := fun e => hc e.symm
      refine ⟨fun h => ?_, fun h => ?_⟩
      · obtain ⟨i, hi⟩ := h1 (by simpa [hc'] using h)
        exact ⟨i + 1, by rw [hi, if_neg (by rw [beq_iff_eq]; omega)]; omega⟩
      · rw [h2 (fun hm => h (by simp [hm]))]; rfl
theorem splitK_grps : ∀ l : List UInt8, Lib.splitK [44] 0 (l.count 44) l = grps l
  | [] => rfl
  | c :: t => by
    have ih := splitK_grps t
    by_cases hc : c = 44
    · have e : (c :: t).count 44 = t.count 44 + 1 := by simp [hc]
      rw [e, Lib.splitK, index_cons, if_pos hc, if_neg (by decide), grps_com hc, ← ih]
      rfl
    · have e : (c :: t).count 44 = t.count 44 := by simp [hc]
      rw [e]
      by_cases hm : 44 ∈ t
      · obtain ⟨i, hi⟩ := (index_ge0 t).1 hm
        obtain ⟨k, hk⟩ : ∃ k, t.count 44 = k + 1 := ⟨t.count 44 - 1, by have := List.count_pos_iff.2 hm; omega⟩
        have hne : ¬ (Lib.index t [44] == -1) = true := by rw [hi, beq_iff_eq]; omega
        rw [hk, Lib.splitK, if_neg hne, hi] at ih
        rw [hk, Lib.splitK, index_cons, if_neg hc, if_neg hne, hi]
        rw [if_neg (by rw [beq_iff_eq]; omega)]
        have e2 : ((i : Int) + 1).toNat = i + 1 := by omega
        have e3 : (i : Int).toNat = i := by omega
        rw [e2]
        rw [e3] at ih
        rw [grps_dig hc ih.symm]
        rfl
      · have hz : t.count 44 = 0 := List.count_eq_zero.2 hm
        rw [hz]
        have : (44 : UInt8) ∉ c :: t := by simp [hm]; exact fun e => hc e.symm
        rw [grps_none _ this]
        rfl
theorem split_grps (l : List UInt8) : Lib.splitK [44] 0 (Lib.count l [44]) l = grps l := by
  rw [Lib.count_one]; exact splitK_grps l
theorem foldl_ge : ∀ (l : List UInt8) (a : Nat), a ≤ l.foldl addD a
  | [], _ => Nat.le_refl _
  | c :: t, a => by
    rw [List.foldl_cons]
    refine Nat.le_trans ?_ (foldl_ge t _)
    unfold addD; omega
theorem parse_digits : ∀ (l : List UInt8) (a : Nat), (∀ c ∈ l, isD c = true) → a < 18446744073709551616 →
    Lib.parseUint10 a l = if l.foldl addD a < 18446744073709551616 then .ok (l.foldl addD a) else .range
  | [], a, _, ha => by simp [Lib.parseUint10, ha]
  | c :: t, a, h, ha => by
    have hc := h c (by simp)
    unfold isD at hc
    simp only [Bool.and_eq_true, decide_eq_true_eq] at hc
    have hg := foldl_ge t (addD a c)
    rw [List.foldl_cons]
    unfold Lib.parseUint10
    rw [if_pos hc]
    have e : a * 10 + (c.toNat - 48) = addD a c := rfl
    rw [e]
    by_cases h1 : 1844674407370955162 ≤ a
    · rw [if_pos h1, if_neg]
      have : addD a c = a * 10 + dv c := rfl
      omega
    · rw [if_neg h1]
      by_cases h2 : 18446744073709551616 ≤ addD a c
      · rw [if_pos h2, if_neg (by omega)]
      · rw [if_neg h2]
        exact parse_digits t _ (fun x hx => h x (by simp [hx])) (by omega)
theorem atoi_digits (l : List UInt8) (h : ∀ c ∈ l, isD c = true) (hn : l ≠ []) :
    Lib.atoiAll l = if valD l ≤ 9223372036854775807 then .ok (valD l : Int) else .range := by
  cases l with
  | nil => exact absurd rfl hn
  | cons c r =>
    have hc := h c (by simp)
    unfold isD at hc
    simp only [Bool.and_eq_true, decide_eq_true_eq] at hc
    rw [Lib.atoiAll_plain c r (by omega) (by omega)]
    unfold Lib.parseMag
    rw [if_neg (by simp), parse_digits _ 0 h (by omega)]
    have ev : (c :: r).foldl addD 0 = valD (c :: r) := rfl
    rw [ev]
    by_cases h1 : valD (c :: r) < 18446744073709551616
    · rw [if_pos h1]
      by_cases h2 : valD (c :: r) ≤ 9223372036854775807
      · rw [if_pos h2]; show (if _ then _ else _) = _; rw [if_neg (by omega)]
      · rw [if_neg h2]; show (if _ then _ else _) = _; rw [if_pos (by omega)]
    · rw [if_neg h1, if_neg (by omega)]; rfl
theorem val_trim : ∀ l : List UInt8, valD (l.dropWhile (· == 48)) = valD l
  | [] => rfl
  | c :: t => by
    by_cases h : c = 48
    · subst h
      simp only [List.dropWhile_cons, beq_self_eq_true, if_true]
      rw [val_trim t]; rfl
    · simp [h]
theorem trim_isD (l : List UInt8) (h : ∀ c ∈ l, isD c = true) : ∀ c ∈ l.dropWhile (· == 48), isD c = true := fun c hc => h c (List.dropWhile_subset _ hc)
theorem index_byte : ∀ (t r : List UInt8), 44 ∈ t → Lib.indexByte (t ++ r) 44 = (comma t : Int)
  | [], _, h => by simp at h
  | c :: t, r, h => by
    rw [List.cons_append, Lib.indexByte]
    unfold comma
    rw [List.findIdx_cons]
    by_cases hc : c = 44
    · simp [hc]
    · have hc' : ¬ 44 = c := fun e => hc e.symm
      have ih := index_byte t r (by simpa [hc'] using h)
      have e : (c == 44) = false := by simp [hc]
      rw [e, ih]
      unfold comma
      simp
theorem grps_one {l : List UInt8} (h : (grps l).length ≤ 1) : 44 ∉ l := by
  intro hm
  have := splitK_grps l
  obtain ⟨i, hi⟩ := (index_ge0 l).1 hm
  obtain ⟨k, hk⟩ : ∃ k, l.count 44 = k + 1 := ⟨l.count 44 - 1, by have := List.count_pos_iff.2 hm; omega⟩
  rw [hk, Lib.splitK, if_neg (by rw [hi, beq_iff_eq]; omega)] at this
  have hne := grps_ne (l.drop ((Lib.index l [44]).toNat + [(44 : UInt8)].length))
  rw [← this] at h
  have h2 : (Lib.splitK [44] 0 k (l.drop ((Lib.index l [44]).toNat + [(44 : UInt8)].length))).length = 0 := by simp at h ⊢; exact h
  cases k with
  | zero => simp [Lib.splitK] at h2
  | succ k => unfold Lib.splitK at h2; split at h2 <;> simp at h2
theorem grps_many {l : List UInt8} (h : 1 < (grps l).length) : 44 ∈ l := by
  by_cases c : 44 ∈ l
  · exact c
  · rw [grps_none l c] at h; simp at h
theorem filter_dc {t : List UInt8} (h : ∀ c ∈ t, isDC c = true) : (t.filter fun c => !(c == 44)) = t.filter isD := by
  refine List.filter_congr fun c hc => ?_
  have := h c hc
  unfold isDC at this
  by_cases e : c = 44
  · subst e; decide
  · have e' : (c == 44) = false := by simp [e]
    rw [e'] at this ⊢
    simpa using this.symm
theorem join_grps {t : List UInt8} (h : ∀ c ∈ t, isDC c = true) : Lib.join (grps t) [] = t.filter isD := by
  unfold Lib.join
  rw [← filter_dc h, ← grps_join]
  induction grps t with
  | nil => rfl
  | cons g r ih => cases r <;> simp_all [List.intercalate]
theorem digs_of {b : List UInt8} {k : Nat} (h1 : ∀ j (h : j < b.length), j < k → isDC b[j] = true) (h2 : k ≤ b.length) (h3 : ∀ h : k < b.length, isDC b[k] = false) : digs b = b.take k ∧ rest b = b.drop k := by
  have e : b = b.take k ++ b.drop k := (List.take_append_drop k b).symm
  have hd : digs b = b.take k := by
    unfold digs
    conv => lhs; rw [e]
    refine takeWhile_app _ _ (fun c hc => ?_) (fun c hc => ?_)
    · obtain ⟨j, hj, rfl⟩ := List.getElem_of_mem hc
      rw [List.getElem_take]
      exact h1 j (by simp at hj; omega) (by simp at hj; omega)
    · rw [List.head?_drop] at hc
      obtain ⟨hk, rfl⟩ := List.getElem?_eq_some_iff.1 hc
      exact h3 hk
  refine ⟨hd, ?_⟩
  unfold rest
  rw [hd, List.length_take, Nat.min_eq_left h2]
end Go.Proofs.YtpbmamcmmogidaaDoor.Cn

/- A number's text is read as that number, if it is small: in plain lists. -/
import Derived.Test.YtpbmamcmmogidaaDoorCnP
namespace Go.Proofs.YtpbmamcmmogidaaDoor.Cn
open Rd

theorem isD_chr (k : Nat) : isD (UInt8.ofNat (48 + k % 10)) = true ∧ dv (UInt8.ofNat (48 + k % 10)) = k % 10 := by
  have h : (UInt8.ofNat (48 + k % 10)).toNat = 48 + k % 10 := by simp; omega
  unfold isD dv
  rw [h]
  exact ⟨by simp; omega, by omega⟩
theorem pad_isD : ∀ (m u : Nat), ∀ c ∈ pad m u, isD c = true
  | 0, _, c, h => by simp [pad] at h
  | m + 1, u, c, h => by
    unfold pad at h
    rcases List.mem_append.1 h with h | h
    · exact pad_isD m _ c h
    · rw [List.mem_singleton.1 h]; exact (isD_chr u).1
theorem valD_snoc (l : List UInt8) (c : UInt8) : valD (l ++ [c]) = valD l * 10 + dv c := by
  unfold valD; rw [List.foldl_append]; rfl
theorem pad_val : ∀ (m u : Nat), valD (pad m u) = u % 10 ^ m
  | 0, u => by simp [pad, valD, Nat.mod_one]
  | m + 1, u => by
    unfold pad
    rw [valD_snoc, pad_val m, (isD_chr u).2, Nat.pow_succ, Nat.mul_comm (10 ^ m) 10, Nat.mod_mul]
    omega
theorem dec_pad (u : Nat) : ∃ m, Lib.decDigits u = pad (m + 1) u ∧ u < 10 ^ (m + 1) := by
  have hb : ∀ k, k < 10 ^ k := fun k => Nat.lt_pow_self (by omega)
  have : ∃ m, u < 10 ^ (m + 1) := ⟨u, Nat.lt_of_lt_of_le (hb u) (Nat.pow_le_pow_right (by omega) (by omega))⟩
  obtain ⟨m, hm, hmin⟩ : ∃ m, u < 10 ^ (m + 1) ∧ ∀ k, k < m → ¬ u < 10 ^ (k + 1) := by
    obtain ⟨m0, h0⟩ := this
    induction m0 using Nat.strongRecOn with
    | _ m0 ih =>
      by_cases c : ∃ k, k < m0 ∧ u < 10 ^ (k + 1)
      · obtain ⟨k, hk, hu⟩ := c; exact ih k hk hu
      · exact ⟨m0, h0, fun k hk hu => c ⟨k, hk, hu⟩⟩
  refine ⟨m, ?_, hm⟩
  refine (pad_dec m u hm ?_).symm
  cases m with
  | zero => exact .inl rfl
  | succ m => right; have := hmin m (by omega); omega
theorem dec_isD (u : Nat) : ∀ c ∈ Lib.decDigits u, isD c = true := by
  obtain ⟨m, h, _⟩ := dec_pad u
  rw [h]; exact pad_isD _ _
theorem dec_val (u : Nat) : valD (Lib.decDigits u) = u := by
  obtain ⟨m, h, hm⟩ := dec_pad u
  rw [h, pad_val, Nat.mod_eq_of_lt hm]
theorem dec_ne (u : Nat) : Lib.decDigits u ≠ [] := by
  obtain ⟨m, h, _⟩ := dec_pad u
  intro e; rw [h] at e; have := congrArg List.length e; rw [pad_len] at this; simp at this
theorem isD_ne {c : UInt8} (h : isD c = true) : c ≠ 44 ∧ c ≠ 45 ∧ c ≠ 46 := by
  unfold isD at h
  refine ⟨?_, ?_, ?_⟩ <;> (rintro rfl; simp at h)
theorem emit_isDC : ∀ (l : List UInt8) (j : Nat), (∀ c ∈ l, isD c = true) → ∀ c ∈ emit l j, isDC c = true
  | [], _, _, c, hc => by simp [emit] at hc
  | d :: t, j, h, c, hc => by
    unfold emit at hc
    rcases List.mem_cons.1 hc with rfl | hc
    · simp [isDC, h c (by simp)]
    · rcases List.mem_append.1 hc with hc | hc
      · split at hc
        · rw [List.mem_singleton.1 hc]; decide
        · simp at hc
      · exact emit_isDC t j (fun x hx => h x (by simp [hx])) c hc
theorem emit_digits : ∀ (l : List UInt8) (j : Nat), (∀ c ∈ l, isD c = true) → (emit l j).filter isD = l
  | [], _, _ => by simp [emit]
  | d :: t, j, h => by
    have ih := emit_digits t j (fun x hx => h x (by simp [hx]))
    unfold emit
    have hc : isD 44 = false := by decide
    split <;> simp [h d (by simp), ih, hc]
theorem emit_good : ∀ (l : List UInt8) (has : Bool) (g : Nat), (∀ c ∈ l, isD c = true) → l ≠ [] →
    (has = true → g ≤ 2 ∧ (g + l.length) % 3 = 0) → (has = false → g + ((l.length - 1) % 3 + 1) ≤ 3) → badF ((emit l 0).foldl stepG (has, g, false)) = false
  | [], _, _, _, h, _, _ => absurd rfl h
  | d :: t, has, g, h, _, h1, h2 => by
    have hd := (isD_ne (h d (by simp))).1
    have e1 : stepG (has, g, false) d = (has, g + 1, false) := by unfold stepG; rw [if_neg hd]
    have ht : ∀ c ∈ t, isD c = true := fun x hx => h x (by simp [hx])
    unfold emit
    rw [List.foldl_cons, e1, List.foldl_append]
    simp only [List.length_cons, Nat.zero_add] at h1 h2 ⊢
    cases hs : has with
    | true =>
      have a := h1 hs
      by_cases c : 0 < t.length ∧ t.length % 3 = 0
      · rw [if_pos c]
        have e2 : List.foldl stepG (true, g + 1, false) [44] = (true, 0, false) := by simp [stepG]; omega
        rw [e2]
        exact emit_good t true 0 ht (fun e => by rw [e] at c; simp at c) (fun _ => ⟨by omega, by omega⟩) (fun e => by cases e)
      · rw [if_neg c, List.foldl_nil]
        by_cases c0 : t = []
        · subst c0
          simp only [List.length_nil] at a
          simp [emit, badF]; omega
        · have hp : 0 < t.length := List.length_pos_iff.2 c0
          exact emit_good t true (g + 1) ht c0 (fun _ => ⟨by omega, by omega⟩) (fun e => by cases e)
    | false =>
      have a := h2 hs
      by_cases c : 0 < t.length ∧ t.length % 3 = 0
      · rw [if_pos c]
        have e2 : List.foldl stepG (false, g + 1, false) [44] = (true, 0, false) := by simp [stepG]; omega
        rw [e2]
        exact emit_good t true 0 ht (fun e => by rw [e] at c; simp at c) (fun _ => ⟨by omega, by omega⟩) (fun e => by cases e)
      · rw [if_neg c, List.foldl_nil]
        by_cases c0 : t = []
        · subst c0; simp [emit, badF]
        · have hp : 0 < t.length := List.length_pos_iff.2 c0
          exact emit_good t false (g + 1) ht c0 (fun e => by cases e) (fun _ => by omega)
theorem takeWhile_app {p : UInt8 → Bool} : ∀ (l r : List UInt8), (∀ c ∈ l, p c = true) → (∀ c, r.head? = some c → p c = false) → (l ++ r).takeWhile p = l
  | [], [], _, _ => rfl
  | [], c :: r, _, h => by simp [h c rfl]
  | d :: l, r, h, h' => by simp [h d (by simp), takeWhile_app l r (fun c hc => h c (by simp [hc])) h']
/-- what a number's text is read as -/
def backF (n : Int) : Int × Int × Int := if n.natAbs ≤ 1000000000000 then (0, -1, n) else (3, 0, 0)
theorem coin_back (n : Int) : coinF (coinT n) = backF n := by
  obtain ⟨D, hD⟩ : ∃ D, D = Lib.decDigits (n.natAbs / 100) := ⟨_, rfl⟩
  have dD : ∀ c ∈ D, isD c = true := by rw [hD]; exact dec_isD _
  have nD : D ≠ [] := by rw [hD]; exact dec_ne _
  have vD : valD D = n.natAbs / 100 := by rw [hD]; exact dec_val _
  obtain ⟨d, t, hdt⟩ : ∃ d t, emit D 0 = d :: t ∧ isD d = true := by
    cases D with
    | nil => exact absurd rfl nD
    | cons d t => exact ⟨d, _, rfl, dD d (by simp)⟩
  have hE := emit_isDC D 0 dD
  have hneg : neg (coinT n) = decide (n < 0) := by
    unfold neg coinT
    rw [← hD, hdt.1]
    by_cases c : n < 0
    · simp [c]
    · have := (isD_ne hdt.2).2.1
      simp [c, this]
  have hb : body (coinT n) = emit D 0 ++ 46 :: pad 2 (n.natAbs % 100) := by
    unfold body
    rw [hneg]
    unfold coinT
    rw [← hD]
    by_cases c : n < 0 <;> simp [c]
  have hg : digs (body (coinT n)) = emit D 0 := by
    rw [hb]
    exact takeWhile_app _ _ hE (fun c hc => by simp at hc; subst hc; decide)
  have hr : rest (body (coinT n)) = 46 :: pad 2 (n.natAbs % 100) := by
    unfold rest
    rw [hg, hb, List.drop_left]
  have hs : startB (body (coinT n)) = true := by
    rw [hb, hdt.1]; exact hdt.2
  have hbad : badP (grps (emit D 0)) = false := by
    rw [← bad_same]
    exact emit_good D false 0 dD nD (fun e => by cases e) (fun _ => by omega)
  obtain ⟨v, hv⟩ : ∃ v, v = n.natAbs % 100 := ⟨_, rfl⟩
  have hp : pad 2 v = [UInt8.ofNat (48 + v / 10 % 10), UInt8.ofNat (48 + v % 10)] := rfl
  have c1 := isD_chr (v / 10)
  have c2 := isD_chr v
  unfold coinF
  simp only []
  rw [hg, hr, hs, hneg, emit_digits D 0 dD, vD, hbad, ← hv, hp]
  rw [if_neg (by simp), if_neg (by simp), if_neg (by simp), if_neg (fun h => by have := h.2; rw [show digAt [46, UInt8.ofNat (48 + v / 10 % 10), UInt8.ofNat (48 + v % 10)] 1 = isD (UInt8.ofNat (48 + v / 10 % 10)) from rfl, c1.1] at this; cases this), if_neg (fun h => by have := h.2; rw [show digAt [46, UInt8.ofNat (48 + v / 10 % 10), UInt8.ofNat (48 + v % 10)] 2 = isD (UInt8.ofNat (48 + v % 10)) from rfl, c2.1] at this; cases this), if_neg (by simp)]
  have hc : cents [46, UInt8.ofNat (48 + v / 10 % 10), UInt8.ofNat (48 + v % 10)] = v := by
    unfold cents
    rw [if_neg (by simp)]
    simp only [List.getD_cons_succ, List.getD_cons_zero]
    rw [c1.2, c2.2]; omega
  rw [hc]
  unfold backF
  by_cases c : n.natAbs ≤ 1000000000000
  · rw [if_neg (by omega), if_pos c]
    by_cases c' : n < 0
    · rw [if_pos (by simp [c'])]; congr 2; omega
    · rw [if_neg (by simp [c'])]; congr 2; omega
  · rw [if_pos (by omega), if_neg c]
end Go.Proofs.YtpbmamcmmogidaaDoor.Cn

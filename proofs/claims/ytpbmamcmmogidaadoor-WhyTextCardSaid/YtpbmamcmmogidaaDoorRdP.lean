/- A text's day in plain lists; decimal digits of a width. -/
import Derived.Test.YtpbmamcmmogidaaDoorProg
import Derived.Lib.ItoaNum
import Derived.Lib.Repeat
namespace Go.Proofs.YtpbmamcmmogidaaDoor.Rd

def dgt (s : List UInt8) (j : Nat) : Int := ((s.getD j 0).toNat : Int) - 48
def OkB (s : List UInt8) (j : Nat) : Prop := j < s.length ∧ (if j = 4 ∨ j = 7 then (s.getD j 0).toNat = 45 else 48 ≤ (s.getD j 0).toNat ∧ (s.getD j 0).toNat ≤ 57)
/-- the numbers read behind so many bytes -/
def st (s : List UInt8) : Nat → Int × Int × Int
  | 0 => (0, 0, 0)
  | i + 1 => if i = 4 ∨ i = 7 then st s i else if i < 4 then ((st s i).1 * 10 + dgt s i, (st s i).2) else if i < 7 then ((st s i).1, (st s i).2.1 * 10 + dgt s i, (st s i).2.2) else ((st s i).1, (st s i).2.1, (st s i).2.2 * 10 + dgt s i)
theorem dgt_bd {s : List UInt8} {j : Nat} (h : OkB s j) (h4 : j ≠ 4) (h7 : j ≠ 7) : 0 ≤ dgt s j ∧ dgt s j ≤ 9 := by
  unfold OkB at h
  rw [if_neg (by omega)] at h
  unfold dgt
  omega
theorem st_bd {s : List UInt8} : ∀ (i : Nat), (∀ j, j < i → OkB s j) → (0 ≤ (st s i).1 ∧ (st s i).1 < 10 ^ i) ∧ (0 ≤ (st s i).2.1 ∧ (st s i).2.1 < 10 ^ i) ∧ (0 ≤ (st s i).2.2 ∧ (st s i).2.2 < 10 ^ i)
  | 0, _ => by simp [st]
  | i + 1, h => by
    obtain ⟨⟨a1, a2⟩, ⟨b1, b2⟩, ⟨c1, c2⟩⟩ := st_bd i (fun j hj => h j (by omega))
    have e : (10 : Int) ^ (i + 1) = 10 ^ i * 10 := Int.pow_succ 10 i
    have hp : (0 : Int) < 10 ^ i := by omega
    unfold st
    rw [e]
    generalize (10 : Int) ^ i = t at *
    by_cases h47 : i = 4 ∨ i = 7
    · rw [if_pos h47]
      refine ⟨⟨?_, ?_⟩, ⟨?_, ?_⟩, ⟨?_, ?_⟩⟩ <;> omega
    · rw [if_neg h47]
      have hd := dgt_bd (h i (by omega)) (fun e => h47 (.inl e)) (fun e => h47 (.inr e))
      by_cases h4 : i < 4
      · rw [if_pos h4]
        refine ⟨⟨?_, ?_⟩, ⟨?_, ?_⟩, ⟨?_, ?_⟩⟩ <;> simp only <;> omega
      · rw [if_neg h4]
        by_cases h7 : i < 7
        · rw [if_pos h7]
          refine ⟨⟨?_, ?_⟩, ⟨?_, ?_⟩, ⟨?_, ?_⟩⟩ <;> simp only <;> omega
        · rw [if_neg h7]
          refine ⟨⟨?_, ?_⟩, ⟨?_, ?_⟩, ⟨?_, ?_⟩⟩ <;> simp only <;> omega
/-- the first place that does not fit -/
def Bad (s : List UInt8) (p : Nat) : Prop := p < 10 ∧ (∀ j, j < p → OkB s j) ∧ ¬ OkB s p
def Fits (s : List UInt8) : Prop := ∀ j, j < 10 → OkB s j
theorem Bad.same {s : List UInt8} {p q : Nat} (h : Bad s p) (h' : Bad s q) : p = q := by
  rcases Nat.lt_trichotomy p q with c | c | c
  · exact (h.2.2 (h'.2.1 p c)).elim
  · exact c
  · exact (h'.2.2 (h.2.1 q c)).elim
theorem Bad.not {s : List UInt8} {p : Nat} (h : Bad s p) (h' : Fits s) : False := h.2.2 (h' p h.1)
theorem Fits.len {s : List UInt8} (h : Fits s) : 10 ≤ s.length := (h 9 (by omega)).1
/-- with a width -/
def pad : Nat → Nat → List UInt8
  | 0, _ => []
  | k + 1, u => pad k (u / 10) ++ [UInt8.ofNat (48 + u % 10)]
theorem pad_zero : ∀ k, pad k 0 = Lib.repeatL [48] k
  | 0 => rfl
  | k + 1 => by
    have e : Lib.repeatL [48] (k + 1) = Lib.repeatL [48] k ++ Lib.repeatL [48] 1 := Lib.repeatL_add [48] k 1
    unfold pad
    rw [Nat.zero_div, pad_zero k, e]
    rfl
theorem dec_small {u : Nat} (h : u < 10) : Lib.decDigits u = [UInt8.ofNat (48 + u)] := by rw [Lib.decDigits, dif_pos h]
theorem dec_big {u : Nat} (h : ¬ u < 10) : Lib.decDigits u = Lib.decDigits (u / 10) ++ [UInt8.ofNat (48 + u % 10)] := by rw [Lib.decDigits, dif_neg h]
theorem dec_wide : ∀ (k u : Nat), u < 10 ^ (k + 1) → (Lib.decDigits u).length ≤ k + 1 ∧ Lib.repeatL [48] (k + 1 - (Lib.decDigits u).length) ++ Lib.decDigits u = pad (k + 1) u
  | k, u, h => by
    by_cases c : u < 10
    · rw [dec_small c]
      refine ⟨by simp, ?_⟩
      unfold pad
      rw [Nat.div_eq_of_lt c, Nat.mod_eq_of_lt c, pad_zero]
      simp
    · rw [dec_big c]
      match k, h with
      | 0, h => omega
      | k + 1, h =>
        have hu : u / 10 < 10 ^ (k + 1) := by
          rw [Nat.pow_succ] at h
          exact Nat.div_lt_of_lt_mul (by omega)
        obtain ⟨h1, h2⟩ := dec_wide k (u / 10) hu
        refine ⟨by simp; omega, ?_⟩
        rw [show pad (k + 1 + 1) u = pad (k + 1) (u / 10) ++ [UInt8.ofNat (48 + u % 10)] from rfl, ← h2, List.length_append, List.append_assoc]
        have e : k + 1 + 1 - ((Lib.decDigits (u / 10)).length + [UInt8.ofNat (48 + u % 10)].length) = k + 1 - (Lib.decDigits (u / 10)).length := by simp
        rw [e]
theorem dec_one : ∀ (k u : Nat), u < 10 ^ k → Lib.decDigits (10 ^ k + u) = 49 :: pad k u
  | 0, u, h => by
    have : u = 0 := by simpa using h
    subst this
    rw [dec_small (by simp)]
    rfl
  | k + 1, u, h => by
    have hp : 1 ≤ 10 ^ k := Nat.one_le_pow _ _ (by omega)
    have e : 10 ^ (k + 1) = 10 ^ k * 10 := Nat.pow_succ 10 k
    rw [e] at h ⊢
    rw [dec_big (by omega)]
    have e1 : (10 ^ k * 10 + u) / 10 = 10 ^ k + u / 10 := by omega
    have e2 : (10 ^ k * 10 + u) % 10 = u % 10 := by omega
    rw [e1, e2, dec_one k (u / 10) (by omega)]
    rfl
/-- the two ways to write a number of a width -/
theorem wide_same (k u : Nat) (h : u < 10 ^ (k + 1)) : Lib.repeatL [48] (k + 1 - (Lib.decDigits u).length) ++ Lib.decDigits u = (Lib.decDigits (10 ^ (k + 1) + u)).drop 1 := by
  rw [(dec_wide k u h).2, dec_one (k + 1) u h]
  rfl
end Go.Proofs.YtpbmamcmmogidaaDoor.Rd

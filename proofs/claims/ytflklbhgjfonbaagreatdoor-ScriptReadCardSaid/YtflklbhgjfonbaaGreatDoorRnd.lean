/- Rounding in plain numbers: the program's way (away from the sign) and the document's (from the floor) are one. -/
import Derived.WalkKit
namespace Go.Proofs.YtflklbhgjfonbaaGreatDoor.Rnd

/-- one more, away from nought? q and r: quotient and rest of the size -/
def upB (neg : Bool) (q r b way : Int) : Bool :=
  if way = 1 then decide (0 < r) else if way = 2 then neg && decide (0 < r) else if way = 3 then !neg && decide (0 < r)
  else if way = 4 then decide (b - r ≤ r) else if way = 5 then decide (b - r < r) || (decide (r = b - r) && decide (q % 2 = 1)) else false
/-- the program's rounding of a / b -/
def rnd (a b way : Int) : Int :=
  if a < 0 then -(if upB true (-a / b) (-a % b) b way then -a / b + 1 else -a / b)
  else if upB false (a / b) (a % b) b way then a / b + 1 else a / b
/-- the document's, from the lower number and the rest above it -/
def rndR (a b low way : Int) : Int :=
  if a - low * b = 0 then low
  else if way = 0 then (if 0 < a then low else low + 1)
  else if way = 1 then (if 0 < a then low + 1 else low)
  else if way = 2 then low
  else if way = 3 then low + 1
  else if 2 * (a - low * b) < b then low
  else if b < 2 * (a - low * b) then low + 1
  else if way = 5 then (if low % 2 = 0 then low else low + 1)
  else if 0 < a then low + 1 else low
theorem parts_of {a b : Int} (hb : 0 < b) (ha : 0 ≤ a) : 0 ≤ a / b ∧ 0 ≤ a % b ∧ a % b < b ∧ a / b * b + a % b = a ∧ a / b ≤ a ∧ 0 ≤ a / b * b ∧ a / b * b ≤ a := by
  have h1 := Int.ediv_nonneg ha (Int.le_of_lt hb)
  have h2 := Int.emod_nonneg a (Int.ne_of_gt hb)
  have h3 := Int.emod_lt_of_pos a hb
  have h4 := Int.mul_ediv_add_emod a b
  rw [Int.mul_comm] at h4
  have h5 := Int.mul_nonneg h1 (Int.le_of_lt hb)
  have h6 : a / b * 1 ≤ a / b * b := Int.mul_le_mul_of_nonneg_left (by omega) h1
  refine ⟨h1, h2, h3, h4, ?_, h5, ?_⟩ <;> omega
/-- the lower number -/
def low (a b : Int) : Int := if a < 0 then (if -a % b = 0 then -(-a / b) else -(-a / b) - 1) else a / b
theorem neg_mul_sub (q b : Int) : (-q - 1) * b = -(q * b) - b := by rw [Int.sub_mul, Int.neg_mul, Int.one_mul]
theorem rnd_eq (a b way : Int) (hb : 0 < b) (h0 : 0 ≤ way) (h5 : way ≤ 5) : rndR a b (low a b) way = rnd a b way := by
  have hw : way = 0 ∨ way = 1 ∨ way = 2 ∨ way = 3 ∨ way = 4 ∨ way = 5 := by omega
  by_cases hn : a < 0
  · obtain ⟨p1, p2, p3, p4, _⟩ := parts_of (a := -a) hb (by omega)
    unfold rnd rndR low
    simp only [if_pos hn]
    generalize -a / b = q at *
    generalize -a % b = r at *
    by_cases hr : r = 0
    · simp only [if_pos hr]
      rw [if_pos (by rw [Int.neg_mul]; omega)]
      subst hr
      rcases hw with rfl | rfl | rfl | rfl | rfl | rfl <;> simp [upB] <;> omega
    · simp only [if_neg hr]
      rw [neg_mul_sub, if_neg (by omega)]
      rw [show a - (-(q * b) - b) = b - r by omega]
      rcases hw with rfl | rfl | rfl | rfl | rfl | rfl <;> simp [upB] <;> (repeat' split) <;> omega
  · obtain ⟨p1, p2, p3, p4, _⟩ := parts_of (a := a) hb (by omega)
    unfold rnd rndR low
    simp only [if_neg hn]
    generalize a / b = q at *
    generalize a % b = r at *
    rw [show a - q * b = r by omega]
    by_cases hr : r = 0
    · simp only [if_pos hr]
      subst hr
      rcases hw with rfl | rfl | rfl | rfl | rfl | rfl <;> simp [upB] <;> omega
    · simp only [if_neg hr]
      have hq : 0 < a := by have := Int.mul_nonneg p1 (Int.le_of_lt hb); omega
      rcases hw with rfl | rfl | rfl | rfl | rfl | rfl <;> simp [upB, hq] <;> (repeat' split) <;> omega
end Go.Proofs.YtflklbhgjfonbaaGreatDoor.Rnd

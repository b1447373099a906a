/- Floor, Round, IsWay, Small of the document; Good and Way of the program. -/
import Derived.Test.YtdfajigepchccaaDoorPart
namespace Go.Proofs.YtdfajigepchccaaDoor.Coin
open Go.RowKit Rnd

theorem low_bd (a b : Int) (hb : 0 < b) : low a b * b ≤ a ∧ a < low a b * b + b ∧ (0 ≤ a → 0 ≤ low a b ∧ low a b ≤ a) ∧ (a < 0 → a ≤ low a b ∧ low a b < 0) := by
  unfold low
  by_cases h : a < 0
  · obtain ⟨p1, p2, p3, p4, p5, p6, p7⟩ := parts_of (a := -a) hb (by omega)
    rw [if_pos h]
    generalize -a / b = q at *
    generalize -a % b = r at *
    by_cases hr : r = 0
    · rw [if_pos hr, Int.neg_mul]
      subst hr
      refine ⟨by omega, by omega, by omega, fun _ => ⟨by omega, ?_⟩⟩
      by_cases hq : q = 0
      · subst hq; simp at p4; omega
      · omega
    · rw [if_neg hr, Rnd.neg_mul_sub]
      refine ⟨by omega, by omega, by omega, fun _ => ⟨?_, by omega⟩⟩
      have : q * 1 ≤ q * b := Int.mul_le_mul_of_nonneg_left (by omega) p1
      omega
  · obtain ⟨p1, p2, p3, p4, p5, p6, p7⟩ := parts_of (a := a) hb (by omega)
    rw [if_neg h]
    exact ⟨by omega, by omega, fun _ => ⟨p1, p5⟩, by omega⟩
theorem tmod2 (x : Int) : x.tmod 2 = 0 ↔ x % 2 = 0 := by rw [← Int.dvd_iff_tmod_eq_zero, Int.dvd_iff_emod_eq_zero]
end Go.Proofs.YtdfajigepchccaaDoor.Coin

/- The calendar, on: every day has its date. -/
import Derived.Test.YtipbmpakdcmdoaaDoorCal
namespace Go.Proofs.YtipbmpakdcmdoaaDoor.Cal
/-- every day has its date -/
theorem year_of (n : Int) (h1 : 1 ≤ n) (h2 : n ≤ 3652059) : ∃ y, 1 ≤ y ∧ y ≤ 9999 ∧ aheadY y < n ∧ n ≤ aheadY (y + 1) := by
  have key : ∀ k : Nat, ∀ y : Int, 1 ≤ y → y ≤ 9999 → aheadY y < n → (9999 - y).toNat ≤ k → ∃ y, 1 ≤ y ∧ y ≤ 9999 ∧ aheadY y < n ∧ n ≤ aheadY (y + 1) := by
    intro k
    induction k with
    | zero =>
      intro y a b c d
      obtain rfl : y = 9999 := by omega
      exact ⟨9999, a, b, c, by have := aheadY_max; show n ≤ aheadY 10000; omega⟩
    | succ k ih =>
      intro y a b c d
      by_cases e : n ≤ aheadY (y + 1)
      · exact ⟨y, a, b, c, e⟩
      · by_cases f : y = 9999
        · subst f
          have := aheadY_max
          exact absurd (show n ≤ aheadY 10000 by omega) e
        · exact ih (y + 1) (by omega) (by omega) (by omega) (by omega)
  exact key _ 1 (by omega) (by omega) (by unfold aheadY; omega) (Nat.le_refl _)
theorem month_of (y r : Int) (h1 : 1 ≤ r) (h2 : r ≤ 365 + lp y) : ∃ m, 1 ≤ m ∧ m ≤ 12 ∧ cum y m < r ∧ r ≤ cum y (m + 1) := by
  have key : ∀ k : Nat, ∀ m : Int, 1 ≤ m → m ≤ 12 → cum y m < r → (12 - m).toNat ≤ k → ∃ m, 1 ≤ m ∧ m ≤ 12 ∧ cum y m < r ∧ r ≤ cum y (m + 1) := by
    intro k
    induction k with
    | zero =>
      intro m a b c d
      obtain rfl : m = 12 := by omega
      exact ⟨12, a, b, c, by show r ≤ cum y 13; rw [cum_end]; exact h2⟩
    | succ k ih =>
      intro m a b c d
      by_cases e : r ≤ cum y (m + 1)
      · exact ⟨m, a, b, c, e⟩
      · by_cases f : m = 12
        · subst f
          exact absurd (show r ≤ cum y 13 by rw [cum_end]; exact h2) e
        · exact ih (m + 1) (by omega) (by omega) (by omega) (by omega)
  exact key _ 1 (by omega) (by omega) (by rw [cum_one]; omega) (Nat.le_refl _)
theorem date_of (n : Int) (h1 : 1 ≤ n) (h2 : n ≤ 3652059) : ∃ y m d, Vld y m d ∧ num y m d = n := by
  obtain ⟨y, a, b, c, d⟩ := year_of n h1 h2
  rw [aheadY_succ] at d
  obtain ⟨m, e, f, g, i⟩ := month_of y (n - aheadY y) (by omega) (by omega)
  rw [cum_succ y m e f] at i
  exact ⟨y, m, n - aheadY y - cum y m, ⟨a, b, e, f, by omega, by omega⟩, by unfold num; omega⟩
end Go.Proofs.YtipbmpakdcmdoaaDoor.Cal

/- The calendar in plain numbers: years, months, dates and the count of days. No program in sight. The calendar, on: every day has its date. -/
import Derived.WalkKit
namespace Go.Proofs.YtflklbhgjfonbaaGreatDoor.Cal

/-- one in a leap year, else nought -/
def lp (y : Int) : Int := if y % 4 = 0 ∧ (y % 100 ≠ 0 ∨ y % 400 = 0) then 1 else 0
def lpB (y : Int) : Bool := y % 4 == 0 && (y % 100 != 0 || y % 400 == 0)
theorem lpB_eq (y : Int) : lpB y = decide (lp y = 1) := by
  unfold lpB lp
  by_cases a : y % 4 = 0 <;> by_cases b : y % 100 = 0 <;> by_cases c : y % 400 = 0 <;> simp [a, b, c]
theorem lp_01 (y : Int) : lp y = 0 ∨ lp y = 1 := by unfold lp; split <;> simp
theorem lp_bd (y : Int) : 0 ≤ lp y ∧ lp y ≤ 1 := by rcases lp_01 y with h | h <;> omega
/-- how many days a month has -/
def dim (y m : Int) : Int :=
  if m = 4 ∨ m = 6 ∨ m = 9 ∨ m = 11 then 30 else if m = 2 then 28 + lp y else 31
theorem dim_bd (y m : Int) : 28 ≤ dim y m ∧ dim y m ≤ 31 := by
  have := lp_bd y
  unfold dim; split
  · omega
  · split <;> omega
/-- how many days lie ahead of a year -/
def aheadY (y : Int) : Int := 365 * (y - 1) + (y - 1) / 4 - (y - 1) / 100 + (y - 1) / 400
theorem aheadY_bd (y : Int) (h0 : 1 ≤ y) (h : y ≤ 10000) : 0 ≤ aheadY y ∧ aheadY y ≤ 3652059 := by unfold aheadY; omega
theorem aheadY_succ (y : Int) : aheadY (y + 1) = aheadY y + 365 + lp y := by
  unfold aheadY lp
  split <;> omega
theorem aheadY_mono {a b : Int} (h : a ≤ b) : aheadY a ≤ aheadY b := by unfold aheadY; omega
theorem aheadY_strict {a b : Int} (h : a < b) : aheadY a < aheadY b := by unfold aheadY; omega
theorem aheadY_guess (n : Int) (h0 : 1 ≤ n) (h : n ≤ 3652059) : aheadY (n / 366 + 1) < n := by unfold aheadY; omega
theorem aheadY_max : aheadY 10000 = 3652059 := by decide
/-- how many days of a year lie ahead of a month -/
def cum (y m : Int) : Int :=
  if m ≤ 1 then 0 else if m = 2 then 31 else if m = 3 then 59 + lp y else if m = 4 then 90 + lp y else if m = 5 then 120 + lp y
  else if m = 6 then 151 + lp y else if m = 7 then 181 + lp y else if m = 8 then 212 + lp y else if m = 9 then 243 + lp y
  else if m = 10 then 273 + lp y else if m = 11 then 304 + lp y else if m = 12 then 334 + lp y else 365 + lp y
theorem cum_cases {m : Int} (h1 : 1 ≤ m) (h2 : m ≤ 12) : m = 1 ∨ m = 2 ∨ m = 3 ∨ m = 4 ∨ m = 5 ∨ m = 6 ∨ m = 7 ∨ m = 8 ∨ m = 9 ∨ m = 10 ∨ m = 11 ∨ m = 12 := by omega
theorem cum_succ (y m : Int) (h1 : 1 ≤ m) (h2 : m ≤ 12) : cum y (m + 1) = cum y m + dim y m := by
  rcases cum_cases h1 h2 with h | h | h | h | h | h | h | h | h | h | h | h <;> subst h <;> simp [cum, dim] <;> omega
theorem cum_one (y : Int) : cum y 1 = 0 := by simp [cum]
theorem cum_end (y : Int) : cum y 13 = 365 + lp y := by simp [cum]
theorem cum_bd (y m : Int) (h1 : 1 ≤ m) (h2 : m ≤ 13) : 0 ≤ cum y m ∧ cum y m ≤ 366 := by
  have := lp_bd y
  by_cases h : m = 13
  · subst h; rw [cum_end]; omega
  · rcases cum_cases h1 (by omega) with h | h | h | h | h | h | h | h | h | h | h | h <;> subst h <;> simp [cum] <;> omega
theorem cum_mono_step (y m : Int) (h1 : 1 ≤ m) (h2 : m ≤ 12) : cum y m + 28 ≤ cum y (m + 1) := by
  rw [cum_succ y m h1 h2]; have := dim_bd y m; omega
/-- the day's number of a date -/
def num (y m d : Int) : Int := aheadY y + cum y m + d
/-- a date that there is -/
def Vld (y m d : Int) : Prop := 1 ≤ y ∧ y ≤ 9999 ∧ 1 ≤ m ∧ m ≤ 12 ∧ 1 ≤ d ∧ d ≤ dim y m
instance (y m d : Int) : Decidable (Vld y m d) := by unfold Vld; infer_instance
theorem Vld.d_le {y m d : Int} (h : Vld y m d) : d ≤ 31 := by have := dim_bd y m; unfold Vld at h; omega
theorem Vld.in_year {y m d : Int} (h : Vld y m d) : aheadY y < num y m d ∧ num y m d ≤ aheadY (y + 1) := by
  obtain ⟨h1, h2, h3, h4, h5, h6⟩ := h
  have hc := cum_bd y m h3 (by omega)
  have hs := cum_succ y m h3 h4
  have hm : cum y (m + 1) ≤ 365 + lp y := by
    have := lp_bd y
    rcases cum_cases h3 h4 with h | h | h | h | h | h | h | h | h | h | h | h <;> subst h <;> simp [cum] <;> omega
  rw [aheadY_succ]
  unfold num
  omega
theorem Vld.num_bd {y m d : Int} (h : Vld y m d) : 1 ≤ num y m d ∧ num y m d ≤ 3652059 := by
  have hy := h.in_year
  obtain ⟨h1, h2, h3, h4, h5, h6⟩ := h
  have := aheadY_bd y h1 (by omega)
  have := aheadY_bd (y + 1) (by omega) (by omega)
  omega
theorem cum_mono {y a b : Int} (ha : 1 ≤ a) (hb : b ≤ 13) (h : a ≤ b) : cum y a ≤ cum y b := by
  have : ∀ k : Nat, a + k ≤ 13 → cum y a ≤ cum y (a + k) := by
    intro k
    induction k with
    | zero => simp
    | succ k ih =>
      intro hk
      have := ih (by omega)
      have hs := cum_mono_step y (a + k) (by omega) (by omega)
      have e : a + ((k + 1 : Nat) : Int) = a + k + 1 := by omega
      rw [e]; omega
  have h2 := this (b - a).toNat (by omega)
  have e : a + ((b - a).toNat : Int) = b := by omega
  rwa [e] at h2
/-- a day's date is one alone -/
theorem Vld.unique {y m d y' m' d' : Int} (h : Vld y m d) (h' : Vld y' m' d') (e : num y m d = num y' m' d') : y = y' ∧ m = m' ∧ d = d' := by
  have a := h.in_year
  have b := h'.in_year
  have hy : y = y' := by
    rcases Int.lt_trichotomy y y' with c | c | c
    · have := aheadY_mono (show y + 1 ≤ y' by omega); omega
    · exact c
    · have := aheadY_mono (show y' + 1 ≤ y by omega); omega
  subst hy
  obtain ⟨h1, h2, h3, h4, h5, h6⟩ := h
  obtain ⟨_, _, k3, k4, k5, k6⟩ := h'
  have hs := cum_succ y m h3 h4
  have hs' := cum_succ y m' k3 k4
  unfold num at e
  have hm : m = m' := by
    rcases Int.lt_trichotomy m m' with c | c | c
    · have := cum_mono (y := y) (a := m + 1) (b := m') (by omega) (by omega) (by omega); omega
    · exact c
    · have := cum_mono (y := y) (a := m' + 1) (b := m) (by omega) (by omega) (by omega); omega
  subst hm
  exact ⟨rfl, rfl, by omega⟩
end Go.Proofs.YtflklbhgjfonbaaGreatDoor.Cal
namespace Go.Proofs.YtflklbhgjfonbaaGreatDoor.Cal
/-- every day has its date -/
theorem year_of (n : Int) (h1 : 1 ≤ n) (h2 : n ≤ 3652059) : ∃ y, 1 ≤ y ∧ y ≤ 9999 ∧ aheadY y < n ∧ n ≤ aheadY (y + 1) := by
  have key : ∀ k : Nat, ∀ y : Int, 1 ≤ y → y ≤ 9999 → aheadY y < n → (9999 - y).toNat ≤ k → ∃ y, 1 ≤ y ∧ y ≤ 9999 ∧ aheadY y < n ∧ n ≤ aheadY (y + 1) := by
    intro k
    induction k with
    | zero =>
      intro y a b c d
      obtain rfl : y = 9999 := by omega
      exact ⟨9999, a, b, c, by have := aheadY_max; show n ≤ aheadY 10000; omega⟩
    | succ k ih =>
      intro y a b c d
      by_cases e : n ≤ aheadY (y + 1)
      · exact ⟨y, a, b, c, e⟩
      · by_cases f : y = 9999
        · subst f
          have := aheadY_max
          exact absurd (show n ≤ aheadY 10000 by omega) e
        · exact ih (y + 1) (by omega) (by omega) (by omega) (by omega)
  exact key _ 1 (by omega) (by omega) (by unfold aheadY; omega) (Nat.le_refl _)
theorem month_of (y r : Int) (h1 : 1 ≤ r) (h2 : r ≤ 365 + lp y) : ∃ m, 1 ≤ m ∧ m ≤ 12 ∧ cum y m < r ∧ r ≤ cum y (m + 1) := by
  have key : ∀ k : Nat, ∀ m : Int, 1 ≤ m → m ≤ 12 → cum y m < r → (12 - m).toNat ≤ k → ∃ m, 1 ≤ m ∧ m ≤ 12 ∧ cum y m < r ∧ r ≤ cum y (m + 1) := by
    intro k
    induction k with
    | zero =>
      intro m a b c d
      obtain rfl : m = 12 := by omega
      exact ⟨12, a, b, c, by show r ≤ cum y 13; rw [cum_end]; exact h2⟩
    | succ k ih =>
      intro m a b c d
      by_cases e : r ≤ cum y (m + 1)
      · exact ⟨m, a, b, c, e⟩
      · by_cases f : m = 12
        · subst f
          exact absurd (show r ≤ cum y 13 by rw [cum_end]; exact h2) e
        · exact ih (m + 1) (by omega) (by omega) (by omega) (by omega)
  exact key _ 1 (by omega) (by omega) (by rw [cum_one]; omega) (Nat.le_refl _)
theorem date_of (n : Int) (h1 : 1 ≤ n) (h2 : n ≤ 3652059) : ∃ y m d, Vld y m d ∧ num y m d = n := by
  obtain ⟨y, a, b, c, d⟩ := year_of n h1 h2
  rw [aheadY_succ] at d
  obtain ⟨m, e, f, g, i⟩ := month_of y (n - aheadY y) (by omega) (by omega)
  rw [cum_succ y m e f] at i
  exact ⟨y, m, n - aheadY y - cum y m, ⟨a, b, e, f, by omega, by omega⟩, by unfold num; omega⟩
end Go.Proofs.YtflklbhgjfonbaaGreatDoor.Cal

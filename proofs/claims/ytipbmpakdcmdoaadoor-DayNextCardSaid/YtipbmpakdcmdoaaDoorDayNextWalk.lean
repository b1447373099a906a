/- The law DayNext answers true: the walk, over what Of, Parts and Week compute. -/
import Derived.Test.YtipbmpakdcmdoaaDoorDay
namespace Go.Proofs.YtipbmpakdcmdoaaDoor.DayNext
open Go.RowKit Cal Day

theorem vld_first : Vld 1 1 1 := by decide
theorem num_first : num 1 1 1 = 1 := by decide
theorem num_last : num 9999 12 31 = 3652059 := by decide
/-- the next day's date -/
theorem next_date {y m d a b c : Int} (h : Vld y m d) (h' : Vld a b c) (e : num a b c = num y m d + 1) :
    (a = y ∧ b = m ∧ c = d + 1) ∨ (a = y ∧ b = m + 1 ∧ c = 1) ∨ (a = y + 1 ∧ b = 1 ∧ m = 12 ∧ c = 1) := by
  obtain ⟨h1, h2, h3, h4, h5, h6⟩ := h
  by_cases c1 : d < dim y m
  · have := Vld.unique h' (show Vld y m (d + 1) from ⟨h1, h2, h3, h4, by omega, by omega⟩) (by rw [e]; unfold num; omega)
    exact .inl this
  · by_cases c2 : m < 12
    · have db := dim_bd y (m + 1)
      have := Vld.unique h' (show Vld y (m + 1) 1 from ⟨h1, h2, by omega, by omega, by omega, by omega⟩) (by rw [e]; unfold num; rw [cum_succ y m h3 h4]; omega)
      exact .inr (.inl this)
    · obtain rfl : m = 12 := by omega
      by_cases c3 : y < 9999
      · have db := dim_bd (y + 1) 1
        have hc : cum y 13 = cum y 12 + dim y 12 := cum_succ y 12 h3 h4
        have he := cum_end y
        have := Vld.unique h' (show Vld (y + 1) 1 1 from ⟨by omega, by omega, by omega, by omega, by omega, by omega⟩) (by rw [e]; unfold num; rw [cum_one, aheadY_succ]; omega)
        exact .inr (.inr ⟨this.1, this.2.1, rfl, this.2.2⟩)
      · exfalso
        obtain rfl : y = 9999 := by omega
        have hd : dim 9999 12 = 31 := by decide
        have := h'.num_bd
        have e2 : num 9999 12 d = 3652059 := by
          have : d = 31 := by omega
          subst this; exact num_last
        omega
theorem of_first (w : World) : Calls Tryd.prog 14 #[.int .i64 1, .int .i64 1, .int .i64 1] w fun e w' => e = .returned (.tuple #[.int .i64 1, .nilIface]) ∧ w = w' := by
  have h := of_yes 1 1 1 vld_first w
  rwa [num_first] at h
set_option maxHeartbeats 1000000 in
set_option maxRecDepth 100000 in
theorem walk (n : Int) (w : World) :
    Calls Tryd.prog 3 #[.int .i64 n] w fun e w' => e = .returned (.bool true) ∧ Below w.heap.size w w' := by
  by_cases c1 : 1 ≤ n
  · have c1' : decide (n < 1) = false := by simp; omega
    by_cases c2 : n < 3652059
    · have c2' : decide (3652059 ≤ n) = false := by simp; omega
      go_enter Tryd.func3, Tryd.ntmps3
      go_wp2_with fail
      refine (of_first _).mono ?_
      rintro e w' ⟨rfl, rfl⟩
      go_wp2_with fail
      refine (parts_yes _ (by omega) (by omega) _).mono ?_
      rintro e w' ⟨y, m, d, rfl, hv, hn, rfl⟩
      subst hn
      go_wp2_with fail
      refine (parts_yes _ (by omega) (by omega) _).mono ?_
      rintro e w' ⟨a, b, c, rfl, hv', hn, rfl⟩
      have hx := Lib.hid (next_date hv hv' hn)
      clear hn
      go_wp2_with fail
      refine (of_yes _ _ _ hv _).mono ?_
      rintro e w' ⟨rfl, rfl⟩
      have hm : (m == m + 1) = false := by simp; omega
      have hm2 : (m + 1 == m) = false := by simp; omega
      have hy : (y == y + 1) = false := by simp; omega
      have hy2 : (y + 1 == y) = false := by simp; omega
      have hd31 := hv.d_le
      obtain ⟨b1, b2, b3, b4, b5, _⟩ := id hv
      rcases hx.out with ⟨rfl, rfl, rfl⟩ | ⟨rfl, rfl, rfl⟩ | ⟨rfl, rfl, rfl, rfl⟩
      all_goals
        clear hx hv hv'
        go_wp2_with (go_at_call 16; refine (week_yes _ (by omega) (by omega) _).mono ?_; rintro e w' ⟨rfl, rfl⟩)
        go_ret
        refine ⟨ret_bool ?_, Below.refl _ _⟩
        simp
        try omega
    · have c2' : decide (3652059 ≤ n) = true := by simp; omega
      go_enter Tryd.func3, Tryd.ntmps3
      go_wp2_with fail
      refine (of_first _).mono ?_
      rintro e w' ⟨rfl, rfl⟩
      go_wp2_with fail
      by_cases c3 : n = 3652059
      · refine (parts_yes _ (by omega) (by omega) _).mono ?_
        rintro e w' ⟨y, m, d, rfl, hv, hn, rfl⟩
        clear hn hv c2 c1 c1' c2'
        subst c3
        go_wp2
        go_ret
        exact ⟨rfl, Below.refl _ _⟩
      · refine (parts_no _ (by omega) _).mono ?_
        rintro e w' ⟨rfl, rfl⟩
        have c3' : (n == 3652059) = false := by simp; omega
        clear c2 c1 c1' c2' c3
        go_wp2
        go_ret
        exact ⟨rfl, Below.refl _ _⟩
  · have c1' : decide (n < 1) = true := by simp; omega
    have c3' : (n == 3652059) = false := by simp; omega
    go_enter Tryd.func3, Tryd.ntmps3
    go_wp2_with (first | (go_at_call 14; refine (of_first _).mono ?_; rintro e w' ⟨rfl, rfl⟩) | (go_at_call 15; refine (parts_no _ (by omega) _).mono ?_; rintro e w' ⟨rfl, rfl⟩))
    go_ret
    exact ⟨rfl, Below.refl _ _⟩
end Go.Proofs.YtipbmpakdcmdoaaDoor.DayNext

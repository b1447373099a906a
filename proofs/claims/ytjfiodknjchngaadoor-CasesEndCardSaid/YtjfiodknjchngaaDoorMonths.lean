/- The same date, months later: the program's Months and the document's MonthsOn. -/
import Derived.Test.YtjfiodknjchngaaDoorRefDay2
namespace Go.Proofs.YtjfiodknjchngaaDoor.RefDay
open Go.RowKit Cal Day

/-- the month's number, from year 0 on -/
def mon (y m k : Int) : Int := y * 12 + m - 1 + k
/-- the day so many months later -/
def monDay (y m d k : Int) : Int := num (mon y m k / 12) (mon y m k % 12 + 1) (min d (dim (mon y m k / 12) (mon y m k % 12 + 1)))
theorem monVld {y m d k : Int} (h : Vld y m d) (h1 : 12 ≤ mon y m k) (h2 : mon y m k ≤ 119999) : Vld (mon y m k / 12) (mon y m k % 12 + 1) (min d (dim (mon y m k / 12) (mon y m k % 12 + 1))) := by
  have := dim_bd (mon y m k / 12) (mon y m k % 12 + 1)
  unfold Vld at h ⊢
  omega

set_option maxHeartbeats 400000 in
theorem months_bad (n k : Int) (h : n < 1 ∨ 3652059 < n) (E : Value) (w : World) (hE : w.cell? ⟨1, 0, none⟩ = some E) :
    Calls Tryd.prog 82 #[.int .i64 n, .int .i64 k] w fun e w' => e = .returned (.tuple #[.int .i64 0, E]) ∧ ∃ q, w' = w.drewN q := by
  go_enter Tryd.func82, Tryd.ntmps82
  go_wp2_with (go_at_call 34; refine (good_no _ h _).mono ?_; rintro e w' ⟨rfl, rfl⟩)
  go_quiet (fail)
  go_wp2
  go_ret2
  exact ⟨rfl, nq, rfl⟩
set_option maxHeartbeats 400000 in
theorem months_err (y m d k : Int) (hv : Vld y m d) (h : mon y m k < 12 ∨ 119999 < mon y m k) (E : Value) (w : World) (hE : w.cell? ⟨1, 0, none⟩ = some E) :
    Calls Tryd.prog 82 #[.int .i64 (num y m d), .int .i64 k] w fun e w' => e = .returned (.tuple #[.int .i64 0, E]) ∧ ∃ q, w' = w.drewN q := by
  have hn := hv.num_bd
  obtain ⟨b1, b2, b3, b4, b5, _⟩ := id hv
  have hd := hv.d_le
  by_cases c1 : k ≤ 120000
  · have c1' : decide (120000 < k) = false := by simp; omega
    by_cases c2 : -120000 ≤ k
    · have c2' : decide (k < -120000) = false := by simp; omega
      unfold mon at h
      by_cases c3 : y * 12 + m - 1 + k < 12
      · have c3' : decide (y * 12 + m - 1 + k < 12) = true := by simp; omega
        clear h
        go_enter Tryd.func82, Tryd.ntmps82
        go_wp2_with (go_at_call 34; refine (good_yes _ (by omega) (by omega) _).mono ?_; rintro e w' ⟨rfl, rfl⟩)
        refine (parts_yes _ (by omega) (by omega) _).mono ?_
        rintro e w' ⟨a, b, c, rfl, hv', hn', rfl⟩
        obtain ⟨rfl, rfl, rfl⟩ := Vld.unique hv hv' hn'.symm
        clear hv hv' hn'
        go_wp2
        go_quiet (fail)
        go_wp2
        go_ret2
        exact ⟨rfl, nq, rfl⟩
      · have c3' : decide (y * 12 + m - 1 + k < 12) = false := by simp; omega
        have c4 : 9999 < (y * 12 + m - 1 + k) / 12 := by omega
        clear h
        go_enter Tryd.func82, Tryd.ntmps82
        go_wp2_with (go_at_call 34; refine (good_yes _ (by omega) (by omega) _).mono ?_; rintro e w' ⟨rfl, rfl⟩)
        refine (parts_yes _ (by omega) (by omega) _).mono ?_
        rintro e w' ⟨a, b, c, rfl, hv', hn', rfl⟩
        obtain ⟨rfl, rfl, rfl⟩ := Vld.unique hv hv' hn'.symm
        clear hv hv' hn'
        go_wp2
        go_quiet (fail)
        go_wp2
        go_ret2
        exact ⟨rfl, nq, rfl⟩
    · have c2' : decide (k < -120000) = true := by simp; omega
      clear h
      go_enter Tryd.func82, Tryd.ntmps82
      go_wp2_with (go_at_call 34; refine (good_yes _ (by omega) (by omega) _).mono ?_; rintro e w' ⟨rfl, rfl⟩)
      go_quiet (fail)
      go_wp2
      go_ret2
      exact ⟨rfl, nq, rfl⟩
  · have c1' : decide (120000 < k) = true := by simp; omega
    clear h
    go_enter Tryd.func82, Tryd.ntmps82
    go_wp2_with (go_at_call 34; refine (good_yes _ (by omega) (by omega) _).mono ?_; rintro e w' ⟨rfl, rfl⟩)
    go_quiet (fail)
    go_wp2
    go_ret2
    exact ⟨rfl, nq, rfl⟩
set_option maxHeartbeats 400000 in
theorem months_yes (y m d k : Int) (hv : Vld y m d) (h1 : 12 ≤ mon y m k) (h2 : mon y m k ≤ 119999) (w : World) :
    Calls Tryd.prog 82 #[.int .i64 (num y m d), .int .i64 k] w fun e w' => e = .returned (.tuple #[.int .i64 (monDay y m d k), .nilIface]) ∧ w = w' := by
  have hv2 := monVld hv h1 h2
  have hn := hv.num_bd
  obtain ⟨b1, b2, b3, b4, b5, _⟩ := id hv
  have hd := hv.d_le
  unfold monDay
  unfold mon at h1 h2 hv2 ⊢
  have c1' : decide (120000 < k) = false := by simp; omega
  have c2' : decide (k < -120000) = false := by simp; omega
  have c3' : decide (y * 12 + m - 1 + k < 12) = false := by simp; omega
  have hdm := dim_bd ((y * 12 + m - 1 + k) / 12) ((y * 12 + m - 1 + k) % 12 + 1)
  go_enter Tryd.func82, Tryd.ntmps82
  go_wp2_with (go_at_call 34; refine (good_yes _ (by omega) (by omega) _).mono ?_; rintro e w' ⟨rfl, rfl⟩)
  refine (parts_yes _ (by omega) (by omega) _).mono ?_
  rintro e w' ⟨a, b, c, rfl, hv', hn', rfl⟩
  obtain ⟨rfl, rfl, rfl⟩ := Vld.unique hv hv' hn'.symm
  clear hv hv' hn'
  by_cases hmin : d ≤ dim ((y * 12 + m - 1 + k) / 12) ((y * 12 + m - 1 + k) % 12 + 1)
  · rw [Int.min_eq_left hmin] at hv2
    have HF := Lib.hid (Int.min_eq_left hmin)
    go_wp2_with (go_at_call 99; refine (long_any _ _ (by omega) _).mono ?_; rintro e w' ⟨rfl, rfl⟩)
    refine (of_yes _ _ _ hv2 _).mono ?_
    rintro e w' ⟨rfl, rfl⟩
    go_wp2
    go_ret2
    exact ⟨by rw [HF.out]; rfl, rfl⟩
  · rw [Int.min_eq_right (by omega)] at hv2
    have HF := Lib.hid (Int.min_eq_right (show dim ((y * 12 + m - 1 + k) / 12) ((y * 12 + m - 1 + k) % 12 + 1) ≤ d by omega))
    go_wp2_with (go_at_call 99; refine (long_any _ _ (by omega) _).mono ?_; rintro e w' ⟨rfl, rfl⟩)
    refine (of_yes _ _ _ hv2 _).mono ?_
    rintro e w' ⟨rfl, rfl⟩
    go_wp2
    go_ret2
    exact ⟨by rw [HF.out]; rfl, rfl⟩

theorem mon_ref (y m k : Int) : ((y - 1) * 12 + m - 1 + k) / 12 + 1 = mon y m k / 12 ∧ ((y - 1) * 12 + m - 1 + k) % 12 + 1 = mon y m k % 12 + 1 := by unfold mon; omega
end Go.Proofs.YtjfiodknjchngaaDoor.RefDay

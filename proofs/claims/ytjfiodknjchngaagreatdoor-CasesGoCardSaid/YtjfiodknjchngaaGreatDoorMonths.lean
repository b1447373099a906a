/- The same date, months later: the program's Months and the document's MonthsOn. -/
import Derived.Test.YtjfiodknjchngaaGreatDoorRefDay2
namespace Go.Proofs.YtjfiodknjchngaaGreatDoor.RefDay
open Go.RowKit Cal Day

/-- the month's number, from year 0 on -/
def mon (y m k : Int) : Int := y * 12 + m - 1 + k
/-- the day so many months later -/
def monDay (y m d k : Int) : Int := num (mon y m k / 12) (mon y m k % 12 + 1) (min d (dim (mon y m k / 12) (mon y m k % 12 + 1)))
theorem monVld {y m d k : Int} (h : Vld y m d) (h1 : 12 ≤ mon y m k) (h2 : mon y m k ≤ 119999) : Vld (mon y m k / 12) (mon y m k % 12 + 1) (min d (dim (mon y m k / 12) (mon y m k % 12 + 1))) := by
  have := dim_bd (mon y m k / 12) (mon y m k % 12 + 1)
  unfold Vld at h ⊢
  omega

set_option maxHeartbeats 400000 in
theorem months_bad (n k : Int) (h : n < 1 ∨ 3652059 < n) (E : Value) (w : World) (hE : w.cell? ⟨0, 0, none⟩ = some E) :
    Calls Tryz.prog 84 #[.int .i64 n, .int .i64 k] w fun e w' => e = .returned (.tuple #[.int .i64 0, E]) ∧ ∃ q, w' = w.drewN q := by
  go_enter Tryz.func84, Tryz.ntmps84
  go_wp2_with (go_at_call 34; refine (good_no _ h _).mono ?_; rintro e w' ⟨rfl, rfl⟩)
  go_quiet (fail)
  go_wp2
  go_ret2
  exact ⟨rfl, nq, rfl⟩
set_option maxHeartbeats 400000 in
theorem months_err (y m d k : Int) (hv : Vld y m d) (h : mon y m k < 12 ∨ 119999 < mon y m k) (E : Value) (w : World) (hE : w.cell? ⟨0, 0, none⟩ = some E) :
    Calls Tryz.prog 84 #[.int .i64 (num y m d), .int .i64 k] w fun e w' => e = .returned (.tuple #[.int .i64 0, E]) ∧ ∃ q, w' = w.drewN q := by
  have hn := hv.num_bd
  obtain ⟨b1, b2, b3, b4, b5, _⟩ := id hv
  have hd := hv.d_le
  by_cases c1 : k ≤ 120000
  · have c1' : decide (120000 < k) = false := by simp; omega
    by_cases c2 : -120000 ≤ k
    · have c2' : decide (k < -120000) = false := by simp; omega
      unfold mon at h
      by_cases c3 : y * 12 + m - 1 + k < 12
      · have c3' : decide (y * 12 + m - 1 + k < 12) = true := by simp; omega
        clear h
        go_enter Tryz.func84, Tryz.ntmps84
        go_wp2_with (go_at_call 34; refine (good_yes _ (by omega) (by omega) _).mono ?_; rintro e w' ⟨rfl, rfl⟩)
        refine (parts_yes _ (by omega) (by omega) _).mono ?_
        rintro e w' ⟨a, b, c, rfl, hv', hn', rfl⟩
        obtain ⟨rfl, rfl, rfl⟩ := Vld.unique hv hv' hn'.symm
        clear hv hv' hn'
        go_wp2
        go_quiet (fail)
        go_wp2
        go_ret2
        exact ⟨rfl, nq, rfl⟩
      · have c3' : decide (y * 12 + m - 1 + k < 12) = false := by simp; omega
        have c4 : 9999 < (y * 12 + m - 1 + k) / 12 := by omega
        clear h
        go_enter Tryz.func84, Tryz.ntmps84
        go_wp2_with (go_at_call 34; refine (good_yes _ (by omega) (by omega) _).mono ?_; rintro e w' ⟨rfl, rfl⟩)
        refine (parts_yes _ (by omega) (by omega) _).mono ?_
        rintro e w' ⟨a, b, c, rfl, hv', hn', rfl⟩
        obtain ⟨rfl, rfl, rfl⟩ := Vld.unique hv hv' hn'.symm
        clear hv hv' hn'
        go_wp2
        go_quiet (fail)
        go_wp2
        go_ret2
        exact ⟨rfl, nq, rfl⟩
    · have c2' : decide (k < -120000) = true := by simp; omega
      clear h
      go_enter Tryz.func84, Tryz.ntmps84
      go_wp2_with (go_at_call 34; refine (good_yes _ (by omega) (by omega) _).mono ?_; rintro e w' ⟨rfl, rfl⟩)
      go_quiet (fail)
      go_wp2
      go_ret2
      exact ⟨rfl, nq, rfl⟩
  · have c1' : decide (120000 < k) = true := by simp; omega
    clear h
    go_enter Tryz.func84, Tryz.ntmps84
    go_wp2_with (go_at_call 34; refine (good_yes _ (by omega) (by omega) _).mono ?_; rintro e w' ⟨rfl, rfl⟩)
    go_quiet (fail)
    go_wp2
    go_ret2
    exact ⟨rfl, nq, rfl⟩
set_option maxHeartbeats 400000 in
theorem months_yes (y m d k : Int) (hv : Vld y m d) (h1 : 12 ≤ mon y m k) (h2 : mon y m k ≤ 119999) (w : World) :
    Calls Tryz.prog 84 #[.int .i64 (num y m d), .int .i64 k] w fun e w' => e = .returned (.tuple #[.int .i64 (monDay y m d k), .nilIface]) ∧ w = w' := by
  have hv2 := monVld hv h1 h2
  have hn := hv.num_bd
  obtain ⟨b1, b2, b3, b4, b5, _⟩ := id hv
  have hd := hv.d_le
  unfold monDay
  unfold mon at h1 h2 hv2 ⊢
  have c1' : decide (120000 < k) = false := by simp; omega
  have c2' : decide (k < -120000) = false := by simp; omega
  have c3' : decide (y * 12 + m - 1 + k < 12) = false := by simp; omega
  have hdm := dim_bd ((y * 12 + m - 1 + k) / 12) ((y * 12 + m - 1 + k) % 12 + 1)
  go_enter Tryz.func84, Tryz.ntmps84
  go_wp2_with (go_at_call 34; refine (good_yes _ (by omega) (by omega) _).mono ?_; rintro e w' ⟨rfl, rfl⟩)
  refine (parts_yes _ (by omega) (by omega) _).mono ?_
  rintro e w' ⟨a, b, c, rfl, hv', hn', rfl⟩
  obtain ⟨rfl, rfl, rfl⟩ := Vld.unique hv hv' hn'.symm
  clear hv hv' hn'
  by_cases hmin : d ≤ dim ((y * 12 + m - 1 + k) / 12) ((y * 12 + m - 1 + k) % 12 + 1)
  · rw [Int.min_eq_left hmin] at hv2
    have HF := Lib.hid (Int.min_eq_left hmin)
    go_wp2_with (go_at_call 107; refine (long_any _ _ (by omega) _).mono ?_; rintro e w' ⟨rfl, rfl⟩)
    refine (of_yes _ _ _ hv2 _).mono ?_
    rintro e w' ⟨rfl, rfl⟩
    go_wp2
    go_ret2
    exact ⟨by rw [HF.out]; rfl, rfl⟩
  · rw [Int.min_eq_right (by omega)] at hv2
    have HF := Lib.hid (Int.min_eq_right (show dim ((y * 12 + m - 1 + k) / 12) ((y * 12 + m - 1 + k) % 12 + 1) ≤ d by omega))
    go_wp2_with (go_at_call 107; refine (long_any _ _ (by omega) _).mono ?_; rintro e w' ⟨rfl, rfl⟩)
    refine (of_yes _ _ _ hv2 _).mono ?_
    rintro e w' ⟨rfl, rfl⟩
    go_wp2
    go_ret2
    exact ⟨by rw [HF.out]; rfl, rfl⟩

set_option maxHeartbeats 400000 in
theorem monthson_bad (n k : Int) (h : n < 1 ∨ 3652059 < n) (w : World) :
    Calls Tryz.prog 75 #[.int .i64 n, .int .i64 k] w fun e w' => e = .returned (.tuple #[.int .i64 0, .int .i64 4]) ∧ Below w.heap.size w w' := by
  go_enter Tryz.func75, Tryz.ntmps75
  go_wp2_with (go_at_call 13; refine (isday_no _ h _).mono ?_; rintro e w' ⟨rfl, rfl⟩)
  go_ret2
  exact ⟨rfl, Below.refl _ _⟩
set_option maxHeartbeats 400000 in
theorem monthson_err (y m d k : Int) (hv : Vld y m d) (h : mon y m k < 12 ∨ 119999 < mon y m k) (w : World) :
    Calls Tryz.prog 75 #[.int .i64 (num y m d), .int .i64 k] w fun e w' => e = .returned (.tuple #[.int .i64 0, .int .i64 4]) ∧ Below w.heap.size w w' := by
  have hn := hv.num_bd
  obtain ⟨b1, b2, b3, b4, b5, _⟩ := id hv
  have hd := hv.d_le
  by_cases c1 : k ≤ 200000
  · have c1' : decide (200000 < k) = false := by simp; omega
    by_cases c2 : -200000 ≤ k
    · have c2' : decide (k < -200000) = false := by simp; omega
      unfold mon at h
      by_cases c3 : (y - 1) * 12 + m - 1 + k < 0
      · have c3' : decide ((y - 1) * 12 + m - 1 + k < 0) = true := by simp; omega
        clear h
        go_enter Tryz.func75, Tryz.ntmps75
        go_wp2_with (go_at_call 13; refine (isday_yes _ (by omega) (by omega) _).mono ?_; rintro e w' ⟨rfl, rfl⟩)
        refine (partsof_yes _ (by omega) (by omega) _).mono ?_
        rintro e w' ⟨a, b, c, rfl, hv', hn', hb⟩
        obtain ⟨rfl, rfl, rfl⟩ := Vld.unique hv hv' hn'.symm
        clear hv hv' hn'
        go_wp2
        go_ret2
        exact ⟨rfl, hb⟩
      · have c3' : decide ((y - 1) * 12 + m - 1 + k < 0) = false := by simp; omega
        have c4 : 119988 ≤ (y - 1) * 12 + m - 1 + k := by omega
        clear h
        go_enter Tryz.func75, Tryz.ntmps75
        go_wp2_with (go_at_call 13; refine (isday_yes _ (by omega) (by omega) _).mono ?_; rintro e w' ⟨rfl, rfl⟩)
        refine (partsof_yes _ (by omega) (by omega) _).mono ?_
        rintro e w' ⟨a, b, c, rfl, hv', hn', hb⟩
        obtain ⟨rfl, rfl, rfl⟩ := Vld.unique hv hv' hn'.symm
        clear hv hv' hn'
        go_wp2
        go_ret2
        exact ⟨rfl, hb⟩
    · have c2' : decide (k < -200000) = true := by simp; omega
      clear h
      go_enter Tryz.func75, Tryz.ntmps75
      go_wp2_with (go_at_call 13; refine (isday_yes _ (by omega) (by omega) _).mono ?_; rintro e w' ⟨rfl, rfl⟩)
      go_ret2
      exact ⟨rfl, Below.refl _ _⟩
  · have c1' : decide (200000 < k) = true := by simp; omega
    clear h
    go_enter Tryz.func75, Tryz.ntmps75
    go_wp2_with (go_at_call 13; refine (isday_yes _ (by omega) (by omega) _).mono ?_; rintro e w' ⟨rfl, rfl⟩)
    go_ret2
    exact ⟨rfl, Below.refl _ _⟩
theorem mon_ref (y m k : Int) : ((y - 1) * 12 + m - 1 + k) / 12 + 1 = mon y m k / 12 ∧ ((y - 1) * 12 + m - 1 + k) % 12 + 1 = mon y m k % 12 + 1 := by unfold mon; omega
set_option maxHeartbeats 400000 in
theorem monthson_yes (y m d k : Int) (hv : Vld y m d) (h1 : 12 ≤ mon y m k) (h2 : mon y m k ≤ 119999) (w : World) :
    Calls Tryz.prog 75 #[.int .i64 (num y m d), .int .i64 k] w fun e w' => e = .returned (.tuple #[.int .i64 (monDay y m d k), .int .i64 0]) ∧ Below w.heap.size w w' := by
  have hv2 := monVld hv h1 h2
  have hn := hv.num_bd
  obtain ⟨b1, b2, b3, b4, b5, _⟩ := id hv
  have hd := hv.d_le
  unfold monDay
  rw [← (mon_ref y m k).1, ← (mon_ref y m k).2] at hv2 ⊢
  unfold mon at h1 h2
  have c1' : decide (200000 < k) = false := by simp; omega
  have c2' : decide (k < -200000) = false := by simp; omega
  have c3' : decide ((y - 1) * 12 + m - 1 + k < 0) = false := by simp; omega
  have c4' : decide (119988 ≤ (y - 1) * 12 + m - 1 + k) = false := by simp; omega
  go_enter Tryz.func75, Tryz.ntmps75
  go_wp2_with (go_at_call 13; refine (isday_yes _ (by omega) (by omega) _).mono ?_; rintro e w' ⟨rfl, rfl⟩)
  refine (partsof_yes _ (by omega) (by omega) _).mono ?_
  rintro e w1 ⟨a, b, c, rfl, hv', hn', hb⟩
  obtain ⟨rfl, rfl, rfl⟩ := Vld.unique hv hv' hn'.symm
  clear hv hv' hn'
  have HB := Lib.hid hb
  clear hb
  by_cases hmin : d ≤ dim (((y - 1) * 12 + m - 1 + k) / 12 + 1) (((y - 1) * 12 + m - 1 + k) % 12 + 1)
  · rw [Int.min_eq_left hmin] at hv2
    have HF := Lib.hid (Int.min_eq_left hmin)
    go_wp2_with fail
    refine (daysof_any _ _ (by omega) (by omega) (by omega) _).mono ?_
    rintro e w2 ⟨rfl, hb2⟩
    go_wp2_with fail
    refine (dayof_yes _ _ _ hv2 _).mono ?_
    rintro e w3 ⟨rfl, hb3⟩
    have HB3 := Lib.hid ((HB.out.trans (hb2.mono HB.out.size)).trans (hb3.mono (Nat.le_trans HB.out.size hb2.size)))
    clear hb2 hb3
    go_wp2
    go_ret2
    exact ⟨by rw [HF.out]; rfl, HB3.out⟩
  · rw [Int.min_eq_right (by omega)] at hv2
    have HF := Lib.hid (Int.min_eq_right (show dim (((y - 1) * 12 + m - 1 + k) / 12 + 1) (((y - 1) * 12 + m - 1 + k) % 12 + 1) ≤ d by omega))
    go_wp2_with fail
    refine (daysof_any _ _ (by omega) (by omega) (by omega) _).mono ?_
    rintro e w2 ⟨rfl, hb2⟩
    go_wp2_with fail
    refine (daysof_any _ _ (by omega) (by omega) (by omega) _).mono ?_
    rintro e w3 ⟨rfl, hb3⟩
    go_wp2_with fail
    refine (dayof_yes _ _ _ hv2 _).mono ?_
    rintro e w4 ⟨rfl, hb4⟩
    have HB3 := Lib.hid (((HB.out.trans (hb2.mono HB.out.size)).trans (hb3.mono (Nat.le_trans HB.out.size hb2.size))).trans (hb4.mono (Nat.le_trans HB.out.size (Nat.le_trans hb2.size hb3.size))))
    clear hb2 hb3 hb4
    go_wp2
    go_ret2
    exact ⟨by rw [HF.out]; rfl, HB3.out⟩
end Go.Proofs.YtjfiodknjchngaaGreatDoor.RefDay

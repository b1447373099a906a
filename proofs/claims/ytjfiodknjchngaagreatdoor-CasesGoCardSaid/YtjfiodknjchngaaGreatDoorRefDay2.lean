/- What the document's answer computes of days, on: DayOf, PartsOf. -/
import Derived.Test.YtjfiodknjchngaaGreatDoorRefDay
namespace Go.Proofs.YtjfiodknjchngaaGreatDoor.RefDay
open Go.RowKit Cal Day

theorem aheadY_400 (q : Int) : aheadY (400 * q + 1) = 146097 * q := by unfold aheadY; omega
set_option maxHeartbeats 400000 in
theorem dayof_no (y m d : Int) (h : ¬ Vld y m d) (w : World) :
    Calls Tryz.prog 102 #[.int .i64 y, .int .i64 m, .int .i64 d] w fun e w' => e = .returned (.tuple #[.int .i64 0, .int .i64 4]) ∧ Below w.heap.size w w' := by
  by_cases c1 : 1 ≤ y
  · have c1' : decide (y < 1) = false := by simp; omega
    by_cases c2 : y ≤ 9999
    · have c2' : decide (9999 < y) = false := by simp; omega
      by_cases c3 : 1 ≤ m
      · have c3' : decide (m < 1) = false := by simp; omega
        by_cases c4 : m ≤ 12
        · have c4' : decide (12 < m) = false := by simp; omega
          by_cases c5 : 1 ≤ d
          · have c5' : decide (d < 1) = false := by simp; omega
            have c6 : dim y m < d := by unfold Vld at h; omega
            clear h
            go_enter Tryz.func102, Tryz.ntmps102
            go_wp2_with (go_at_call 101; refine (daysof_any _ _ (by omega) (by omega) (by omega) _).mono ?_; rintro e w' ⟨rfl, hb⟩)
            go_ret2
            exact ⟨rfl, hb⟩
          · have c5' : decide (d < 1) = true := by simp; omega
            clear h
            go_enter Tryz.func102, Tryz.ntmps102
            go_wp2
            go_ret2
            exact ⟨rfl, Below.refl _ _⟩
        · have c4' : decide (12 < m) = true := by simp; omega
          clear h
          go_enter Tryz.func102, Tryz.ntmps102
          go_wp2
          go_ret2
          exact ⟨rfl, Below.refl _ _⟩
      · have c3' : decide (m < 1) = true := by simp; omega
        clear h
        go_enter Tryz.func102, Tryz.ntmps102
        go_wp2
        go_ret2
        exact ⟨rfl, Below.refl _ _⟩
    · have c2' : decide (9999 < y) = true := by simp; omega
      clear h
      go_enter Tryz.func102, Tryz.ntmps102
      go_wp2
      go_ret2
      exact ⟨rfl, Below.refl _ _⟩
  · have c1' : decide (y < 1) = true := by simp; omega
    clear h
    go_enter Tryz.func102, Tryz.ntmps102
    go_wp2
    go_ret2
    exact ⟨rfl, Below.refl _ _⟩
set_option maxHeartbeats 1000000 in
theorem dayof_yes (y m d : Int) (h : Vld y m d) (w : World) :
    Calls Tryz.prog 102 #[.int .i64 y, .int .i64 m, .int .i64 d] w fun e w' => e = .returned (.tuple #[.int .i64 (num y m d), .int .i64 0]) ∧ Below w.heap.size w w' := by
  obtain ⟨h1, h2, h3, h4, h5, h6⟩ := h
  have hb := aheadY_bd y h1 (by omega)
  have c1 : decide (y < 1) = false := by simp; omega
  have c2 : decide (9999 < y) = false := by simp; omega
  have c3 : decide (m < 1) = false := by simp; omega
  have c4 : decide (12 < m) = false := by simp; omega
  have c5 : decide (d < 1) = false := by simp; omega
  have c6 : decide (dim y m < d) = false := by simp; omega
  have hd := dim_bd y m
  go_enter Tryz.func102, Tryz.ntmps102
  go_wp2_with (go_at_call 101; refine (daysof_any _ _ (by omega) (by omega) (by omega) _).mono ?_; rintro e w1 ⟨rfl, hb1⟩)
  go_loop [8, 9] (fun t i => ∃ k : Int, 1 ≤ k ∧ k ≤ y ∧ i = .int .i64 k ∧ t = .int .i64 (aheadY k)) (fun _ i => (y - intOf i).toNat)
  case atStart => exact ⟨_, by omega, by omega, rfl, by rw [show (y - 1) / 400 * 400 + 1 = 400 * ((y - 1) / 400) + 1 by omega, aheadY_400]; congr 1; omega⟩
  case round =>
    obtain ⟨k, hk1, hk2, rfl, rfl⟩ := hrel
    have hkb := aheadY_bd k hk1 (by omega)
    by_cases hlt : k < y
    · have hs := Lib.hid (aheadY_succ k)
      have hl := lp_bd k
      go_wp2_with (go_at_call 132; refine (yearlong_any _ (by omega) _).mono ?_; rintro e w' ⟨rfl, rfl⟩)
      go_round
      case rel => exact ⟨k + 1, by omega, by omega, rfl, by rw [hs.out]; go_num⟩
      case measure => simp [intOf]; omega
    · obtain rfl : k = y := by omega
      go_wp2_with fail
      have HB := Lib.hid hb1
      clear hb1
      go_loopw [8, 10] (fun t i wr => Hid (Below w.heap.size w wr) ∧ ∃ j : Int, 1 ≤ j ∧ j ≤ m ∧ i = .int .i64 j ∧ t = .int .i64 (aheadY k + cum k j)) (fun _ i _ => (m - intOf i).toNat)
      case atStart => exact ⟨HB, 1, by omega, by omega, rfl, by rw [cum_one]; simp⟩
      case round =>
        obtain ⟨hB, j, hj1, hj2, rfl, rfl⟩ := hrel
        have cb := cum_bd k j hj1 (by omega)
        have cs := Lib.hid (cum_succ k j hj1 (by omega))
        by_cases hlt : j < m
        · have hdk := dim_bd k j
          go_wp2_with (go_at_call 101; refine (daysof_any _ _ (by omega) (by omega) (by omega) _).mono ?_; rintro e w2 ⟨rfl, hb2⟩)
          go_roundw
          case rel => exact ⟨hB.out.trans (hb2.mono hB.out.size), j + 1, by omega, by omega, rfl, by rw [cs.out, Int.add_assoc]⟩
          case measure => simp [intOf]; omega
        · obtain rfl : j = m := by omega
          go_wp2
          go_ret2
          exact ⟨rfl, hB.out⟩
set_option maxHeartbeats 400000 in
theorem partsof_no (n : Int) (h : n < 1 ∨ 3652059 < n) (w : World) :
    Calls Tryz.prog 100 #[.int .i64 n] w fun e w' => e = .returned (.tuple #[.int .i64 0, .int .i64 0, .int .i64 0]) ∧ Below w.heap.size w w' := by
  go_enter Tryz.func100, Tryz.ntmps100
  go_wp2_with (go_at_call 13; refine (isday_no _ h _).mono ?_; rintro e w' ⟨rfl, rfl⟩)
  go_ret3
  exact ⟨rfl, Below.refl _ _⟩
set_option maxHeartbeats 1000000 in
theorem partsof_yes (n : Int) (h1 : 1 ≤ n) (h2 : n ≤ 3652059) (w : World) :
    Calls Tryz.prog 100 #[.int .i64 n] w fun e w' => ∃ y m d : Int, e = .returned (.tuple #[.int .i64 y, .int .i64 m, .int .i64 d]) ∧ Vld y m d ∧ num y m d = n ∧ Below w.heap.size w w' := by
  go_enter Tryz.func100, Tryz.ntmps100
  go_wp2_with (go_at_call 13; refine (isday_yes _ (by omega) (by omega) _).mono ?_; rintro e w' ⟨rfl, rfl⟩)
  go_loop [6, 7] (fun r t => ∃ y : Int, 1 ≤ y ∧ y ≤ 9999 ∧ aheadY y ≤ n - 1 ∧ t = .int .i64 y ∧ r = .int .i64 (n - 1 - aheadY y)) (fun r _ => (intOf r).toNat)
  case atStart => exact ⟨_, by omega, by omega, by unfold aheadY; omega, rfl, by congr 1; unfold aheadY; omega⟩
  case round =>
    obtain ⟨y, hy1, hy2, hy3, rfl, rfl⟩ := hrel
    have hb := aheadY_bd y hy1 (by omega)
    have hl := lp_bd y
    by_cases hc : 365 + lp y ≤ n - 1 - aheadY y
    · have hs := aheadY_succ y
      have hm := aheadY_max
      have h99 : y < 9999 := by
        by_cases e : y = 9999
        · subst e; simp at hs; omega
        · omega
      have hs2 := Lib.hid hs
      clear hs hm
      go_wp2_with (go_at_call 132; refine (yearlong_any _ (by omega) _).mono ?_; rintro e w' ⟨rfl, rfl⟩)
      go_round
      case rel => exact ⟨y + 1, by omega, by omega, by have := hs2.out; omega, by go_num, by have := hs2.out; congr 1; omega⟩
      case measure => simp [intOf]; omega
    · go_wp2_with (go_at_call 132; refine (yearlong_any _ (by omega) _).mono ?_; rintro e w' ⟨rfl, rfl⟩)
      go_loopw [6, 8] (fun r k wr => Hid (Below w.heap.size w wr) ∧ ∃ m : Int, 1 ≤ m ∧ m ≤ 12 ∧ k = .int .i64 m ∧ 0 ≤ n - 1 - aheadY y - cum y m ∧ r = .int .i64 (n - 1 - aheadY y - cum y m)) (fun _ k _ => (12 - intOf k).toNat)
      case atStart => exact ⟨Below.refl _ _, 1, by omega, by omega, rfl, by rw [cum_one]; omega, by rw [cum_one]; simp⟩
      case round =>
        obtain ⟨hB, m, hm1, hm2, rfl, hr, rfl⟩ := hrel
        have cb := cum_bd y m hm1 (by omega)
        have db := dim_bd y m
        have cs := cum_succ y m hm1 hm2
        by_cases hd : dim y m ≤ n - 1 - aheadY y - cum y m
        · have hm : m < 12 := by
            by_cases e : m = 12
            · have h13 := cum_end y; subst e; simp at cs; omega
            · omega
          have cs2 := Lib.hid cs
          clear cs
          go_wp2_with (go_at_call 101; refine (daysof_any _ _ (by omega) (by omega) (by omega) _).mono ?_; rintro e w2 ⟨rfl, hb2⟩; replace hB := Lib.hid (hB.out.trans (hb2.mono hB.out.size)); clear hb2)
          go_roundw
          case rel => exact ⟨hB, m + 1, by omega, by omega, by go_num, by rw [cs2.out]; omega, by rw [cs2.out]; go_num⟩
          case measure => simp [intOf]; omega
        · clear cs
          go_wp2_with (go_at_call 101; refine (daysof_any _ _ (by omega) (by omega) (by omega) _).mono ?_; rintro e w2 ⟨rfl, hb2⟩; replace hB := Lib.hid (hB.out.trans (hb2.mono hB.out.size)); clear hb2)
          go_ret3
          exact ⟨y, m, _, rfl, ⟨hy1, hy2, hm1, hm2, by omega, by omega⟩, by unfold num; omega, hB.out⟩
end Go.Proofs.YtjfiodknjchngaaGreatDoor.RefDay

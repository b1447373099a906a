/- Floor, Round, IsWay, Small of the document; Good and Way of the program. -/
import Derived.Test.YtdfajigepchccaaGreatDoorPart
namespace Go.Proofs.YtdfajigepchccaaGreatDoor.Coin
open Go.RowKit Rnd

set_option maxHeartbeats 400000 in
theorem floor_pos (a b : Int) (h0 : 0 ≤ a) (h1 : a ≤ 4000000000000000000) (hb : 0 < b) (hb1 : b ≤ 4000000000000000000) (w : World) :
    Calls Tryz.prog 54 #[.int .i64 a, .int .i64 b] w fun e w' => e = .returned (.int .i64 (low a b)) ∧ w = w' := by
  obtain ⟨p1, p2, p3, _, p5, p6, p7⟩ := parts_of (a := a) hb (by omega)
  have hbz : (b == 0) = false := by simp; omega
  have HR := Lib.hid (show low a b = a / b by unfold low; rw [if_neg (by omega)])
  go_enter Tryz.func54, Tryz.ntmps54
  go_wp2
  go_ret
  exact ⟨ret_int (by rw [HR.out]), rfl⟩
set_option maxHeartbeats 400000 in
theorem floor_neg (c b : Int) (h0 : 0 < c) (h1 : c ≤ 4000000000000000000) (hb : 0 < b) (hb1 : b ≤ 4000000000000000000) (w : World) :
    Calls Tryz.prog 54 #[.int .i64 (-c), .int .i64 b] w fun e w' => e = .returned (.int .i64 (low (-c) b)) ∧ w = w' := by
  obtain ⟨p1, p2, p3, p4, p5, p6, p7⟩ := parts_of (a := c) hb (by omega)
  have hbz : (b == 0) = false := by simp; omega
  have P4 := Lib.hid p4
  clear p4
  have ht : c.tdiv b = c / b := Int.tdiv_eq_ediv_of_nonneg (by omega)
  have hwr : wrap64 (-(c / b) * b) = -(c / b * b) := by rw [Int.neg_mul]; unfold wrap64; omega
  have HR := Lib.hid (show low (-c) b = if c % b = 0 then -(c / b) else -(c / b) - 1 by unfold low; rw [if_pos (by omega), Int.neg_neg])
  go_enter Tryz.func54, Tryz.ntmps54
  go_wp2
  all_goals
    go_ret
    refine ⟨ret_int ?_, rfl⟩
    rw [HR.out]
    have p4 := P4.out
    split <;> omega
theorem floor_any (a b : Int) (h0 : -4000000000000000000 ≤ a) (h1 : a ≤ 4000000000000000000) (hb : 0 < b) (hb1 : b ≤ 4000000000000000000) (w : World) :
    Calls Tryz.prog 54 #[.int .i64 a, .int .i64 b] w fun e w' => e = .returned (.int .i64 (low a b)) ∧ w = w' := by
  by_cases h : a < 0
  · have := floor_neg (-a) b (by omega) (by omega) hb hb1 w
    rwa [Int.neg_neg] at this
  · exact floor_pos a b (by omega) h1 hb hb1 w
theorem low_bd (a b : Int) (hb : 0 < b) : low a b * b ≤ a ∧ a < low a b * b + b ∧ (0 ≤ a → 0 ≤ low a b ∧ low a b ≤ a) ∧ (a < 0 → a ≤ low a b ∧ low a b < 0) := by
  unfold low
  by_cases h : a < 0
  · obtain ⟨p1, p2, p3, p4, p5, p6, p7⟩ := parts_of (a := -a) hb (by omega)
    rw [if_pos h]
    generalize -a / b = q at *
    generalize -a % b = r at *
    by_cases hr : r = 0
    · rw [if_pos hr, Int.neg_mul]
      subst hr
      refine ⟨by omega, by omega, by omega, fun _ => ⟨by omega, ?_⟩⟩
      by_cases hq : q = 0
      · subst hq; simp at p4; omega
      · omega
    · rw [if_neg hr, Rnd.neg_mul_sub]
      refine ⟨by omega, by omega, by omega, fun _ => ⟨?_, by omega⟩⟩
      have : q * 1 ≤ q * b := Int.mul_le_mul_of_nonneg_left (by omega) p1
      omega
  · obtain ⟨p1, p2, p3, p4, p5, p6, p7⟩ := parts_of (a := a) hb (by omega)
    rw [if_neg h]
    exact ⟨by omega, by omega, fun _ => ⟨p1, p5⟩, by omega⟩
theorem tmod2 (x : Int) : x.tmod 2 = 0 ↔ x % 2 = 0 := by rw [← Int.dvd_iff_tmod_eq_zero, Int.dvd_iff_emod_eq_zero]
set_option maxHeartbeats 1000000 in
theorem round_any (a b way : Int) (h0 : -4000000000000000000 ≤ a) (h1 : a ≤ 4000000000000000000) (hb : 0 < b) (hb1 : b ≤ 4000000000000000000) (hw0 : 0 ≤ way) (hw5 : way ≤ 5) (w : World) :
    Calls Tryz.prog 33 #[.int .i64 a, .int .i64 b, .int .i64 way] w fun e w' => e = .returned (.int .i64 (rnd a b way)) ∧ w = w' := by
  have HQ := Lib.hid (rnd_eq a b way hb hw0 hw5)
  obtain ⟨l1, l2, l3, l4⟩ := low_bd a b hb
  have hl : -4000000000000000000 ≤ low a b ∧ low a b ≤ 4000000000000000000 := by
    by_cases h : a < 0
    · have := l4 h; omega
    · have := l3 (by omega); omega
  obtain ⟨l5, l6⟩ := hl
  clear l3 l4
  have hwc : way = 0 ∨ way = 1 ∨ way = 2 ∨ way = 3 ∨ way = 4 ∨ way = 5 := by omega
  clear hw0 hw5
  by_cases hr : a - low a b * b = 0
  · have hr' : (a - low a b * b == 0) = true := by simp; omega
    have HR := Lib.hid hr
    clear hr
    go_enter Tryz.func33, Tryz.ntmps33
    go_wp2_with (go_at_call 54; refine (floor_any _ _ (by omega) (by omega) (by omega) (by omega) _).mono ?_; rintro e w' ⟨rfl, rfl⟩)
    go_ret
    exact ⟨ret_int (by rw [← HQ.out]; unfold rndR; rw [if_pos HR.out]), rfl⟩
  · have hr' : (a - low a b * b == 0) = false := by simp; omega
    have HR := Lib.hid hr
    clear hr
    by_cases hm : low a b % 2 = 0
    · have hm' : ((low a b).tmod 2 == 0) = true := by simp [tmod2, hm]
      have HM := Lib.hid hm
      clear hm
      rcases hwc with rfl | rfl | rfl | rfl | rfl | rfl
      all_goals
        go_enter Tryz.func33, Tryz.ntmps33
        go_wp2_with (go_at_call 54; refine (floor_any _ _ (by omega) (by omega) (by omega) (by omega) _).mono ?_; rintro e w' ⟨rfl, rfl⟩)
        all_goals
          go_ret
          refine ⟨ret_int ?_, rfl⟩
          rw [← HQ.out]
          unfold rndR
          rw [if_neg HR.out]
          have hm := HM.out
          simp
          repeat' split
          all_goals omega
    · have hm' : ((low a b).tmod 2 == 0) = false := by simp [tmod2]; omega
      have HM := Lib.hid hm
      clear hm
      rcases hwc with rfl | rfl | rfl | rfl | rfl | rfl
      all_goals
        go_enter Tryz.func33, Tryz.ntmps33
        go_wp2_with (go_at_call 54; refine (floor_any _ _ (by omega) (by omega) (by omega) (by omega) _).mono ?_; rintro e w' ⟨rfl, rfl⟩)
        all_goals
          go_ret
          refine ⟨ret_int ?_, rfl⟩
          rw [← HQ.out]
          unfold rndR
          rw [if_neg HR.out]
          have hm := HM.out
          simp
          repeat' split
          all_goals omega
end Go.Proofs.YtdfajigepchccaaGreatDoor.Coin

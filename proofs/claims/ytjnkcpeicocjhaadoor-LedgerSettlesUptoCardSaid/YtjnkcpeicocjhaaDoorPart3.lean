/- Parts of amounts: Way, Good, Part of the program; IsWay, Small, Part of the document. -/
import Derived.Test.YtjnkcpeicocjhaaDoorPart2
namespace Go.Proofs.YtjnkcpeicocjhaaDoor.Coin
open Go.RowKit Rnd

set_option maxHeartbeats 400000 in
theorem good_yes (n : Int) (h1 : -1000000000000 ≤ n) (h2 : n ≤ 1000000000000) (w : World) :
    Calls Tryd.prog 39 #[.int .i64 n] w fun e w' => e = .returned (.bool true) ∧ w = w' := by
  go_enter Tryd.func39, Tryd.ntmps39
  go_wp2
  go_ret
  exact ⟨ret_bool (by simp; try omega), rfl⟩
set_option maxHeartbeats 400000 in
theorem good_no (n : Int) (h : n < -1000000000000 ∨ 1000000000000 < n) (w : World) :
    Calls Tryd.prog 39 #[.int .i64 n] w fun e w' => e = .returned (.bool false) ∧ w = w' := by
  by_cases h1 : n ≤ 1000000000000
  · have h2 : n < -1000000000000 := by omega
    clear h
    go_enter Tryd.func39, Tryd.ntmps39
    go_wp2
    go_ret
    exact ⟨ret_bool (by simp; try omega), rfl⟩
  · clear h
    go_enter Tryd.func39, Tryd.ntmps39
    go_wp2
    go_ret
    exact ⟨ret_bool (by simp; try omega), rfl⟩
set_option maxHeartbeats 400000 in
theorem small_yes (n : Int) (h1 : -1000000000000 ≤ n) (h2 : n ≤ 1000000000000) (w : World) :
    Calls Tryd.prog 44 #[.int .i64 n] w fun e w' => e = .returned (.bool true) ∧ w = w' := by
  go_enter Tryd.func44, Tryd.ntmps44
  go_wp2
  go_ret
  exact ⟨ret_bool (by simp; try omega), rfl⟩
set_option maxHeartbeats 400000 in
theorem small_no (n : Int) (h : n < -1000000000000 ∨ 1000000000000 < n) (w : World) :
    Calls Tryd.prog 44 #[.int .i64 n] w fun e w' => e = .returned (.bool false) ∧ w = w' := by
  by_cases h1 : n ≤ 1000000000000
  · have h2 : n < -1000000000000 := by omega
    clear h
    go_enter Tryd.func44, Tryd.ntmps44
    go_wp2
    go_ret
    exact ⟨ret_bool (by simp; try omega), rfl⟩
  · clear h
    go_enter Tryd.func44, Tryd.ntmps44
    go_wp2
    go_ret
    exact ⟨ret_bool (by simp; try omega), rfl⟩
set_option maxHeartbeats 400000 in
theorem way_yes (n : Int) (h1 : 0 ≤ n) (h2 : n ≤ 5) (w : World) :
    Calls Tryd.prog 70 #[.int .i64 n] w fun e w' => e = .returned (.bool true) ∧ w = w' := by
  go_enter Tryd.func70, Tryd.ntmps70
  go_wp2
  go_ret
  exact ⟨ret_bool (by simp; try omega), rfl⟩
set_option maxHeartbeats 400000 in
theorem way_no (n : Int) (h : n < 0 ∨ 5 < n) (w : World) :
    Calls Tryd.prog 70 #[.int .i64 n] w fun e w' => e = .returned (.bool false) ∧ w = w' := by
  by_cases h1 : 0 ≤ n
  · have h2 : 5 < n := by omega
    clear h
    go_enter Tryd.func70, Tryd.ntmps70
    go_wp2
    go_ret
    exact ⟨ret_bool (by simp; try omega), rfl⟩
  · clear h
    go_enter Tryd.func70, Tryd.ntmps70
    go_wp2
    go_ret
    exact ⟨ret_bool (by simp; try omega), rfl⟩
set_option maxHeartbeats 400000 in
theorem isway_yes (n : Int) (h1 : 0 ≤ n) (h2 : n ≤ 5) (w : World) :
    Calls Tryd.prog 73 #[.int .i64 n] w fun e w' => e = .returned (.bool true) ∧ w = w' := by
  have hwc : n = 0 ∨ n = 1 ∨ n = 2 ∨ n = 3 ∨ n = 4 ∨ n = 5 := by omega
  clear h1 h2
  rcases hwc with rfl | rfl | rfl | rfl | rfl | rfl
  all_goals
    go_enter Tryd.func73, Tryd.ntmps73
    go_wp2
    go_ret
    exact ⟨rfl, rfl⟩
set_option maxHeartbeats 400000 in
theorem isway_no (n : Int) (h : n < 0 ∨ 5 < n) (w : World) :
    Calls Tryd.prog 73 #[.int .i64 n] w fun e w' => e = .returned (.bool false) ∧ w = w' := by
  have h0 : (n == 0) = false := by simp; omega
  have h1 : (n == 1) = false := by simp; omega
  have h2 : (n == 2) = false := by simp; omega
  have h3 : (n == 3) = false := by simp; omega
  have h4 : (n == 4) = false := by simp; omega
  have h5 : (n == 5) = false := by simp; omega
  clear h
  go_enter Tryd.func73, Tryd.ntmps73
  go_wp2
  go_ret
  exact ⟨rfl, rfl⟩

/-- what both Parts come to: the number and the error's number -/
def partV (amount rate way : Int) : Int × Nat :=
  if way < 0 ∨ 5 < way then (0, 9)
  else if amount < -1000000000000 ∨ 1000000000000 < amount ∨ 1000000 < rate ∨ rate < -1000000 then (0, 3)
  else if rnd (amount * rate) 10000 way < -1000000000000 ∨ 1000000000000 < rnd (amount * rate) 10000 way then (0, 3)
  else (rnd (amount * rate) 10000 way, 0)
/-- the error of such a number -/
def partE (c : Nat) (EC EK : Value) : Value := if c = 0 then .nilIface else if c = 3 then EC else EK
theorem partV_high {amount rate way : Int} (c1 : ¬ (way < 0 ∨ 5 < way)) (nb : ¬ (amount < -1000000000000 ∨ 1000000000000 < amount ∨ 1000000 < rate ∨ rate < -1000000))
    (c6 : rnd (amount * rate) 10000 way < -1000000000000 ∨ 1000000000000 < rnd (amount * rate) 10000 way) : partV amount rate way = (0, 3) := by
  unfold partV
  generalize rnd (amount * rate) 10000 way = r at *
  rw [if_neg c1, if_neg nb, if_pos c6]
theorem partV_ok {amount rate way : Int} (c1 : ¬ (way < 0 ∨ 5 < way)) (nb : ¬ (amount < -1000000000000 ∨ 1000000000000 < amount ∨ 1000000 < rate ∨ rate < -1000000))
    (c6 : ¬ (rnd (amount * rate) 10000 way < -1000000000000 ∨ 1000000000000 < rnd (amount * rate) 10000 way)) : partV amount rate way = (rnd (amount * rate) 10000 way, 0) := by
  unfold partV
  generalize rnd (amount * rate) 10000 way = r at *
  rw [if_neg c1, if_neg nb, if_neg c6]
theorem prod_bd {a r : Int} (h1 : -1000000000000 ≤ a) (h2 : a ≤ 1000000000000) (h3 : -1000000 ≤ r) (h4 : r ≤ 1000000) : -1000000000000000000 ≤ a * r ∧ a * r ≤ 1000000000000000000 := by
  have e1 : (1000000000000 - a) * (1000000 - r) ≥ 0 := Int.mul_nonneg (by omega) (by omega)
  have e2 : (1000000000000 + a) * (1000000 + r) ≥ 0 := Int.mul_nonneg (by omega) (by omega)
  have e3 : (1000000000000 - a) * (1000000 + r) ≥ 0 := Int.mul_nonneg (by omega) (by omega)
  have e4 : (1000000000000 + a) * (1000000 - r) ≥ 0 := Int.mul_nonneg (by omega) (by omega)
  simp only [Int.sub_mul, Int.add_mul, Int.mul_sub, Int.mul_add] at e1 e2 e3 e4
  omega

set_option maxHeartbeats 1000000 in
theorem part_any (amount rate way : Int) (EC EK : Value) (w : World) (hC : w.cell? ⟨0, 0, none⟩ = some EC) (hK : w.cell? ⟨3, 0, none⟩ = some EK) :
    Calls Tryd.prog 41 #[.int .i64 amount, .int .i64 rate, .int .i64 way] w fun e w' =>
      e = .returned (.tuple #[.int .i64 (partV amount rate way).1, partE (partV amount rate way).2 EC EK]) ∧ ∃ n, w' = w.drewN n := by
  by_cases c1 : way < 0 ∨ 5 < way
  · have HP := Lib.hid (show partV amount rate way = (0, 9) by unfold partV; rw [if_pos c1])
    go_enter Tryd.func41, Tryd.ntmps41
    go_wp2_with (go_at_call 70; refine (way_no _ c1 _).mono ?_; rintro e w' ⟨rfl, rfl⟩)
    go_quiet (fail)
    go_wp2
    go_ret2
    exact ⟨by rw [HP.out]; rfl, nq, rfl⟩
  · by_cases c2 : amount < -1000000000000 ∨ 1000000000000 < amount
    · have HP := Lib.hid (show partV amount rate way = (0, 3) by unfold partV; rw [if_neg c1, if_pos (by omega)])
      have c1a : 0 ≤ way := by omega
      have c1b : way ≤ 5 := by omega
      clear c1
      go_enter Tryd.func41, Tryd.ntmps41
      go_wp2_with (first | (go_at_call 70; refine (way_yes _ c1a c1b _).mono ?_; rintro e w' ⟨rfl, rfl⟩) | (go_at_call 39; refine (good_no _ c2 _).mono ?_; rintro e w' ⟨rfl, rfl⟩))
      go_quiet (fail)
      go_wp2
      go_ret2
      exact ⟨by rw [HP.out]; rfl, nq, rfl⟩
    · have c1a : 0 ≤ way := by omega
      have c1b : way ≤ 5 := by omega
      have c2a : -1000000000000 ≤ amount := by omega
      have c2b : amount ≤ 1000000000000 := by omega
      by_cases c3 : 1000000 < rate ∨ rate < -1000000
      · have HP := Lib.hid (show partV amount rate way = (0, 3) by unfold partV; rw [if_neg c1, if_pos (by omega)])
        clear c1 c2
        by_cases c4 : 1000000 < rate
        · have c4' : decide (1000000 < rate) = true := by simp; omega
          clear c3
          go_enter Tryd.func41, Tryd.ntmps41
          go_wp2_with (first | (go_at_call 70; refine (way_yes _ c1a c1b _).mono ?_; rintro e w' ⟨rfl, rfl⟩) | (go_at_call 39; refine (good_yes _ c2a c2b _).mono ?_; rintro e w' ⟨rfl, rfl⟩))
          go_quiet (fail)
          go_wp2
          go_ret2
          exact ⟨by rw [HP.out]; rfl, nq, rfl⟩
        · have c4' : decide (1000000 < rate) = false := by simp; omega
          have c5 : rate < -1000000 := by omega
          have c5' : decide (rate < -1000000) = true := by simp; omega
          clear c3
          go_enter Tryd.func41, Tryd.ntmps41
          go_wp2_with (first | (go_at_call 70; refine (way_yes _ c1a c1b _).mono ?_; rintro e w' ⟨rfl, rfl⟩) | (go_at_call 39; refine (good_yes _ c2a c2b _).mono ?_; rintro e w' ⟨rfl, rfl⟩))
          go_quiet (fail)
          go_wp2
          go_ret2
          exact ⟨by rw [HP.out]; rfl, nq, rfl⟩
      · have c3a : rate ≤ 1000000 := by omega
        have c3b : -1000000 ≤ rate := by omega
        have c3a' : decide (1000000 < rate) = false := by simp; omega
        have c3b' : decide (rate < -1000000) = false := by simp; omega
        have nb : ¬ (amount < -1000000000000 ∨ 1000000000000 < amount ∨ 1000000 < rate ∨ rate < -1000000) := by omega
        obtain ⟨pb1, pb2⟩ := prod_bd c2a c2b c3b c3a
        by_cases c6 : rnd (amount * rate) 10000 way < -1000000000000 ∨ 1000000000000 < rnd (amount * rate) 10000 way
        · have HP := Lib.hid (partV_high c1 nb c6)
          clear c1 c2 c3 nb
          go_enter Tryd.func41, Tryd.ntmps41
          go_wp2_with fail
          refine (way_yes _ c1a c1b _).mono ?_
          rintro e w' ⟨rfl, rfl⟩
          go_wp2_with fail
          refine (good_yes _ c2a c2b _).mono ?_
          rintro e w' ⟨rfl, rfl⟩
          go_wp2_with fail
          refine (rounded_any _ _ _ (by omega) (by omega) (by omega) (by omega) c1a c1b _).mono ?_
          rintro e w' ⟨rfl, q, rfl⟩
          go_wp2_with fail
          refine (good_no _ c6 _).mono ?_
          rintro e w' ⟨rfl, rfl⟩
          go_wp2
          go_quiet (fail)
          go_wp2
          go_ret2
          exact ⟨by rw [HP.out]; rfl, _, World.drewN_drewN _ _ _⟩
        · have HP := Lib.hid (partV_ok c1 nb c6)
          have c6a : -1000000000000 ≤ rnd (amount * rate) 10000 way := by omega
          have c6b : rnd (amount * rate) 10000 way ≤ 1000000000000 := by omega
          clear c1 c2 c3 c6 nb
          go_enter Tryd.func41, Tryd.ntmps41
          go_wp2_with (first | (go_at_call 70; refine (way_yes _ c1a c1b _).mono ?_; rintro e w' ⟨rfl, rfl⟩) | (go_at_call 39; refine (good_yes _ (by omega) (by omega) _).mono ?_; rintro e w' ⟨rfl, rfl⟩) | (go_at_call 71; refine (rounded_any _ _ _ (by omega) (by omega) (by omega) (by omega) c1a c1b _).mono ?_; rintro e w' ⟨rfl, q, rfl⟩))
          go_ret2
          exact ⟨by rw [HP.out]; rfl, _, rfl⟩
set_option maxHeartbeats 1000000 in
theorem refpart_any (amount rate way : Int) (w : World) :
    Calls Tryd.prog 45 #[.int .i64 amount, .int .i64 rate, .int .i64 way] w fun e w' =>
      e = .returned (.tuple #[.int .i64 (partV amount rate way).1, .int .i64 ((partV amount rate way).2 : Int)]) ∧ w = w' := by
  by_cases c1 : way < 0 ∨ 5 < way
  · have HP := Lib.hid (show partV amount rate way = (0, 9) by unfold partV; rw [if_pos c1])
    go_enter Tryd.func45, Tryd.ntmps45
    go_wp2_with (go_at_call 73; refine (isway_no _ c1 _).mono ?_; rintro e w' ⟨rfl, rfl⟩)
    go_ret2
    exact ⟨by rw [HP.out]; rfl, rfl⟩
  · by_cases c2 : amount < -1000000000000 ∨ 1000000000000 < amount
    · have HP := Lib.hid (show partV amount rate way = (0, 3) by unfold partV; rw [if_neg c1, if_pos (by omega)])
      have c1a : 0 ≤ way := by omega
      have c1b : way ≤ 5 := by omega
      clear c1
      go_enter Tryd.func45, Tryd.ntmps45
      go_wp2_with (first | (go_at_call 73; refine (isway_yes _ c1a c1b _).mono ?_; rintro e w' ⟨rfl, rfl⟩) | (go_at_call 44; refine (small_no _ c2 _).mono ?_; rintro e w' ⟨rfl, rfl⟩))
      go_ret2
      exact ⟨by rw [HP.out]; rfl, rfl⟩
    · have c1a : 0 ≤ way := by omega
      have c1b : way ≤ 5 := by omega
      have c2a : -1000000000000 ≤ amount := by omega
      have c2b : amount ≤ 1000000000000 := by omega
      by_cases c3 : 1000000 < rate ∨ rate < -1000000
      · have HP := Lib.hid (show partV amount rate way = (0, 3) by unfold partV; rw [if_neg c1, if_pos (by omega)])
        clear c1 c2
        by_cases c4 : 1000000 < rate
        · have c4' : decide (1000000 < rate) = true := by simp; omega
          clear c3
          go_enter Tryd.func45, Tryd.ntmps45
          go_wp2_with (first | (go_at_call 73; refine (isway_yes _ c1a c1b _).mono ?_; rintro e w' ⟨rfl, rfl⟩) | (go_at_call 44; refine (small_yes _ c2a c2b _).mono ?_; rintro e w' ⟨rfl, rfl⟩))
          go_ret2
          exact ⟨by rw [HP.out]; rfl, rfl⟩
        · have c4' : decide (1000000 < rate) = false := by simp; omega
          have c5' : decide (rate < -1000000) = true := by simp; omega
          clear c3
          go_enter Tryd.func45, Tryd.ntmps45
          go_wp2_with (first | (go_at_call 73; refine (isway_yes _ c1a c1b _).mono ?_; rintro e w' ⟨rfl, rfl⟩) | (go_at_call 44; refine (small_yes _ c2a c2b _).mono ?_; rintro e w' ⟨rfl, rfl⟩))
          go_ret2
          exact ⟨by rw [HP.out]; rfl, rfl⟩
      · have c3a : rate ≤ 1000000 := by omega
        have c3b : -1000000 ≤ rate := by omega
        have c3a' : decide (1000000 < rate) = false := by simp; omega
        have c3b' : decide (rate < -1000000) = false := by simp; omega
        have nb : ¬ (amount < -1000000000000 ∨ 1000000000000 < amount ∨ 1000000 < rate ∨ rate < -1000000) := by omega
        obtain ⟨pb1, pb2⟩ := prod_bd c2a c2b c3b c3a
        by_cases c6 : rnd (amount * rate) 10000 way < -1000000000000 ∨ 1000000000000 < rnd (amount * rate) 10000 way
        · have HP := Lib.hid (partV_high c1 nb c6)
          clear c1 c2 c3 nb
          go_enter Tryd.func45, Tryd.ntmps45
          go_wp2_with fail
          refine (isway_yes _ c1a c1b _).mono ?_
          rintro e w' ⟨rfl, rfl⟩
          go_wp2_with fail
          refine (small_yes _ c2a c2b _).mono ?_
          rintro e w' ⟨rfl, rfl⟩
          go_wp2_with fail
          refine (round_any _ _ _ (by omega) (by omega) (by omega) (by omega) c1a c1b _).mono ?_
          rintro e w' ⟨rfl, rfl⟩
          go_wp2_with fail
          refine (small_no _ c6 _).mono ?_
          rintro e w' ⟨rfl, rfl⟩
          go_wp2
          go_ret2
          exact ⟨by rw [HP.out]; rfl, rfl⟩
        · have HP := Lib.hid (partV_ok c1 nb c6)
          have c6a : -1000000000000 ≤ rnd (amount * rate) 10000 way := by omega
          have c6b : rnd (amount * rate) 10000 way ≤ 1000000000000 := by omega
          clear c1 c2 c3 c6 nb
          go_enter Tryd.func45, Tryd.ntmps45
          go_wp2_with (first | (go_at_call 73; refine (isway_yes _ c1a c1b _).mono ?_; rintro e w' ⟨rfl, rfl⟩) | (go_at_call 44; refine (small_yes _ (by omega) (by omega) _).mono ?_; rintro e w' ⟨rfl, rfl⟩) | (go_at_call 74; refine (round_any _ _ _ (by omega) (by omega) (by omega) (by omega) c1a c1b _).mono ?_; rintro e w' ⟨rfl, rfl⟩))
          go_ret2
          exact ⟨by rw [HP.out]; rfl, rfl⟩
end Go.Proofs.YtjnkcpeicocjhaaDoor.Coin

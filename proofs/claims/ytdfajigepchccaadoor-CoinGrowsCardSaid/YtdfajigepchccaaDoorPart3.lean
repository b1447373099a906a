/- Parts of amounts: Way, Good, Part of the program; IsWay, Small, Part of the document. -/
import Derived.Test.YtdfajigepchccaaDoorPart2
namespace Go.Proofs.YtdfajigepchccaaDoor.Coin
open Go.RowKit Rnd

set_option maxHeartbeats 400000 in
theorem good_yes (n : Int) (h1 : -1000000000000 ≤ n) (h2 : n ≤ 1000000000000) (w : World) :
    Calls Tryd.prog 69 #[.int .i64 n] w fun e w' => e = .returned (.bool true) ∧ w = w' := by
  go_enter Tryd.func69, Tryd.ntmps69
  go_wp2
  go_ret
  exact ⟨ret_bool (by simp; try omega), rfl⟩
set_option maxHeartbeats 400000 in
theorem good_no (n : Int) (h : n < -1000000000000 ∨ 1000000000000 < n) (w : World) :
    Calls Tryd.prog 69 #[.int .i64 n] w fun e w' => e = .returned (.bool false) ∧ w = w' := by
  by_cases h1 : n ≤ 1000000000000
  · have h2 : n < -1000000000000 := by omega
    clear h
    go_enter Tryd.func69, Tryd.ntmps69
    go_wp2
    go_ret
    exact ⟨ret_bool (by simp; try omega), rfl⟩
  · clear h
    go_enter Tryd.func69, Tryd.ntmps69
    go_wp2
    go_ret
    exact ⟨ret_bool (by simp; try omega), rfl⟩
set_option maxHeartbeats 400000 in
theorem small_yes (n : Int) (h1 : -1000000000000 ≤ n) (h2 : n ≤ 1000000000000) (w : World) :
    Calls Tryd.prog 28 #[.int .i64 n] w fun e w' => e = .returned (.bool true) ∧ w = w' := by
  go_enter Tryd.func28, Tryd.ntmps28
  go_wp2
  go_ret
  exact ⟨ret_bool (by simp; try omega), rfl⟩
set_option maxHeartbeats 400000 in
theorem small_no (n : Int) (h : n < -1000000000000 ∨ 1000000000000 < n) (w : World) :
    Calls Tryd.prog 28 #[.int .i64 n] w fun e w' => e = .returned (.bool false) ∧ w = w' := by
  by_cases h1 : n ≤ 1000000000000
  · have h2 : n < -1000000000000 := by omega
    clear h
    go_enter Tryd.func28, Tryd.ntmps28
    go_wp2
    go_ret
    exact ⟨ret_bool (by simp; try omega), rfl⟩
  · clear h
    go_enter Tryd.func28, Tryd.ntmps28
    go_wp2
    go_ret
    exact ⟨ret_bool (by simp; try omega), rfl⟩
set_option maxHeartbeats 400000 in
theorem way_yes (n : Int) (h1 : 0 ≤ n) (h2 : n ≤ 5) (w : World) :
    Calls Tryd.prog 70 #[.int .i64 n] w fun e w' => e = .returned (.bool true) ∧ w = w' := by
  go_enter Tryd.func70, Tryd.ntmps70
  go_wp2
  go_ret
  exact ⟨ret_bool (by simp; try omega), rfl⟩
set_option maxHeartbeats 400000 in
theorem way_no (n : Int) (h : n < 0 ∨ 5 < n) (w : World) :
    Calls Tryd.prog 70 #[.int .i64 n] w fun e w' => e = .returned (.bool false) ∧ w = w' := by
  by_cases h1 : 0 ≤ n
  · have h2 : 5 < n := by omega
    clear h
    go_enter Tryd.func70, Tryd.ntmps70
    go_wp2
    go_ret
    exact ⟨ret_bool (by simp; try omega), rfl⟩
  · clear h
    go_enter Tryd.func70, Tryd.ntmps70
    go_wp2
    go_ret
    exact ⟨ret_bool (by simp; try omega), rfl⟩
/-- what both Parts come to: the number and the error's number -/
def partV (amount rate way : Int) : Int × Nat :=
  if way < 0 ∨ 5 < way then (0, 9)
  else if amount < -1000000000000 ∨ 1000000000000 < amount ∨ 1000000 < rate ∨ rate < -1000000 then (0, 3)
  else if rnd (amount * rate) 10000 way < -1000000000000 ∨ 1000000000000 < rnd (amount * rate) 10000 way then (0, 3)
  else (rnd (amount * rate) 10000 way, 0)
/-- the error of such a number -/
def partE (c : Nat) (EC EK : Value) : Value := if c = 0 then .nilIface else if c = 3 then EC else EK
theorem partV_high {amount rate way : Int} (c1 : ¬ (way < 0 ∨ 5 < way)) (nb : ¬ (amount < -1000000000000 ∨ 1000000000000 < amount ∨ 1000000 < rate ∨ rate < -1000000))
    (c6 : rnd (amount * rate) 10000 way < -1000000000000 ∨ 1000000000000 < rnd (amount * rate) 10000 way) : partV amount rate way = (0, 3) := by
  unfold partV
  generalize rnd (amount * rate) 10000 way = r at *
  rw [if_neg c1, if_neg nb, if_pos c6]
theorem partV_ok {amount rate way : Int} (c1 : ¬ (way < 0 ∨ 5 < way)) (nb : ¬ (amount < -1000000000000 ∨ 1000000000000 < amount ∨ 1000000 < rate ∨ rate < -1000000))
    (c6 : ¬ (rnd (amount * rate) 10000 way < -1000000000000 ∨ 1000000000000 < rnd (amount * rate) 10000 way)) : partV amount rate way = (rnd (amount * rate) 10000 way, 0) := by
  unfold partV
  generalize rnd (amount * rate) 10000 way = r at *
  rw [if_neg c1, if_neg nb, if_neg c6]
theorem prod_bd {a r : Int} (h1 : -1000000000000 ≤ a) (h2 : a ≤ 1000000000000) (h3 : -1000000 ≤ r) (h4 : r ≤ 1000000) : -1000000000000000000 ≤ a * r ∧ a * r ≤ 1000000000000000000 := by
  have e1 : (1000000000000 - a) * (1000000 - r) ≥ 0 := Int.mul_nonneg (by omega) (by omega)
  have e2 : (1000000000000 + a) * (1000000 + r) ≥ 0 := Int.mul_nonneg (by omega) (by omega)
  have e3 : (1000000000000 - a) * (1000000 + r) ≥ 0 := Int.mul_nonneg (by omega) (by omega)
  have e4 : (1000000000000 + a) * (1000000 - r) ≥ 0 := Int.mul_nonneg (by omega) (by omega)
  simp only [Int.sub_mul, Int.add_mul, Int.mul_sub, Int.mul_add] at e1 e2 e3 e4
  omega

end Go.Proofs.YtdfajigepchccaaDoor.Coin

/- sums.Months where it hands back an error, or nothing. -/
import Derived.Test.YtnbpdknmbjkfeaaDoorSums2
namespace Go.Proofs.YtnbpdknmbjkfeaaDoor.Sums
open Go.RowKit Cal Day Mem Pays Rnd

set_option maxHeartbeats 400000 in
theorem months_way (xs : List Int) (f way : Int) (A : Option Addr) (c : Nat) (h : way < 0 ∨ 5 < way) (E : Value) (w : World) (hE : w.cell? ⟨0, 0, none⟩ = some E) :
    Calls Tryd.prog 28 #[.slice A xs.length c, .int .i64 f, .int .i64 way] w fun e w' => e = .returned (.tuple #[.slice none 0 0, E]) ∧ ∃ n, w' = w.drewN n := by
  go_enter Tryd.func28, Tryd.ntmps28
  go_wp2_with fail
  refine (Coin.way_no _ h _).mono ?_
  rintro e w' ⟨rfl, rfl⟩
  clear h
  go_wp2_with fail
  go_quiet (fail)
  go_wp2_with fail
  go_ret2
  exact ⟨rfl, nq, rfl⟩
set_option maxHeartbeats 400000 in
theorem months_long (xs : List Int) (f way : Int) (A : Option Addr) (c : Nat) (w0 : 0 ≤ way) (w5 : way ≤ 5) (h : 4000 < xs.length) (E : Value) (w : World) (hE : w.cell? ⟨2, 0, none⟩ = some E) :
    Calls Tryd.prog 28 #[.slice A xs.length c, .int .i64 f, .int .i64 way] w fun e w' => e = .returned (.tuple #[.slice none 0 0, E]) ∧ ∃ n, w' = w.drewN n := by
  have h' : decide (4000 < (xs.length : Int)) = true := by simp; omega
  go_enter Tryd.func28, Tryd.ntmps28
  go_wp2_with fail
  refine (Coin.way_yes _ w0 w5 _).mono ?_
  rintro e w' ⟨rfl, rfl⟩
  go_wp2_with fail
  go_quiet (fail)
  go_wp2_with fail
  go_ret2
  exact ⟨rfl, nq, rfl⟩
set_option maxHeartbeats 400000 in
theorem months_none (f way : Int) (A : Option Addr) (c : Nat) (w0 : 0 ≤ way) (w5 : way ≤ 5) (w : World) :
    Calls Tryd.prog 28 #[.slice A 0 c, .int .i64 f, .int .i64 way] w fun e w' => e = .returned (.tuple #[.slice none 0 0, .nilIface]) ∧ w = w' := by
  go_enter Tryd.func28, Tryd.ntmps28
  go_wp2_with fail
  refine (Coin.way_yes _ w0 w5 _).mono ?_
  rintro e w' ⟨rfl, rfl⟩
  go_wp2_with fail
  go_ret2
  exact ⟨rfl, rfl⟩
set_option maxHeartbeats 400000 in
theorem months_day (xs : List Int) (f way : Int) (A : Option Addr) (c : Nat) (w0 : 0 ≤ way) (w5 : way ≤ 5) (hl : xs.length ≤ 4000) (hx : xs ≠ []) (h : f < 1 ∨ 3652060 < f + xs.length) (E : Value) (w : World) (hE : w.cell? ⟨1, 0, none⟩ = some E) :
    Calls Tryd.prog 28 #[.slice A xs.length c, .int .i64 f, .int .i64 way] w fun e w' => e = .returned (.tuple #[.slice none 0 0, E]) ∧ ∃ n, w' = w.drewN n := by
  have hpos : 0 < xs.length := List.length_pos_iff.2 hx
  have l0 : ((xs.length : Int) == 0) = false := by rw [beq_eq_false_iff_ne]; omega
  have l0' : decide (4000 < (xs.length : Int)) = false := by simp; omega
  clear hx
  by_cases h1 : f < 1 ∨ 3652059 < f
  · clear h
    go_enter Tryd.func28, Tryd.ntmps28
    go_wp2_with fail
    refine (Coin.way_yes _ w0 w5 _).mono ?_
    rintro e w' ⟨rfl, rfl⟩
    go_wp2_with fail
    refine (good_no _ h1 _).mono ?_
    rintro e w' ⟨rfl, rfl⟩
    clear h1
    go_wp2_with fail
    go_quiet (fail)
    go_wp2_with fail
    go_ret2
    exact ⟨rfl, nq, rfl⟩
  · have h2 : 1 ≤ f := by omega
    have h3 : f ≤ 3652059 := by omega
    have h4 : 3652060 < f + xs.length := by omega
    clear h h1
    go_enter Tryd.func28, Tryd.ntmps28
    go_wp2_with fail
    refine (Coin.way_yes _ w0 w5 _).mono ?_
    rintro e w' ⟨rfl, rfl⟩
    go_wp2_with fail
    refine (good_yes _ h2 h3 _).mono ?_
    rintro e w' ⟨rfl, rfl⟩
    go_wp2_with fail
    refine (good_no _ (by omega) _).mono ?_
    rintro e w' ⟨rfl, rfl⟩
    go_wp2_with fail
    go_quiet (fail)
    go_wp2_with fail
    go_ret2
    exact ⟨rfl, nq, rfl⟩
set_option maxHeartbeats 400000 in
theorem months_coin (xs : List Int) (f way : Int) (A : Option Addr) (c : Nat) (w0 : 0 ≤ way) (w5 : way ≤ 5) (hl : xs.length ≤ 4000) (hx : xs ≠ []) (f1 : 1 ≤ f) (hlast : f + xs.length ≤ 3652060) (hb : xs.any bad = true)
    (E : Value) (w : World) (hr : Rd w A (ints xs)) (hE : w.cell? ⟨3, 0, none⟩ = some E) :
    Calls Tryd.prog 28 #[.slice A xs.length c, .int .i64 f, .int .i64 way] w fun e w' => e = .returned (.tuple #[.slice none 0 0, E]) ∧ ∃ n, w' = w.drewN n := by
  have hpos : 0 < xs.length := List.length_pos_iff.2 hx
  have l0 : ((xs.length : Int) == 0) = false := by rw [beq_eq_false_iff_ne]; omega
  have l0' : decide (4000 < (xs.length : Int)) = false := by simp; omega
  have HN := Lib.hid hb
  have HR := Lib.hid hr
  clear hx hb hr
  go_enter Tryd.func28, Tryd.ntmps28
  go_wp2_with fail
  refine (Coin.way_yes _ w0 w5 _).mono ?_
  rintro e w' ⟨rfl, rfl⟩
  go_wp2_with fail
  refine (good_yes _ (by omega) (by omega) _).mono ?_
  rintro e w' ⟨rfl, rfl⟩
  go_wp2_with fail
  refine (good_yes _ (by omega) (by omega) _).mono ?_
  rintro e w' ⟨rfl, rfl⟩
  go_wp2_with fail
  refine (containsfunc_any xs A c (by omega) w HR.out).mono ?_
  rw [HN.out]
  rintro e w' ⟨rfl, rfl⟩
  go_wp2_with fail
  go_quiet (fail)
  go_wp2_with fail
  go_ret2
  exact ⟨rfl, nq, rfl⟩
end Go.Proofs.YtnbpdknmbjkfeaaDoor.Sums

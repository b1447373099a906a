/- The law SumsSplit answers true: the walk. -/
import Derived.Test.YtipbmpakdcmdoaaDoorSums3
import Derived.Test.YtipbmpakdcmdoaaDoorMonths
import Derived.Test.YtipbmpakdcmdoaaDoorCal2
import Derived.Deep.Quiet
namespace Go.Proofs.YtipbmpakdcmdoaaDoor.SumsSplit
open Go.RowKit Cal Day Mem Pays Rnd Sums RefDay

/-! ### plain -/
theorem pays_plain : MonthsR [(1, 3, 20)] [310, 310] 1 4 := ⟨1, 1, 1, by decide, by decide, by simp, by decide, show List.drop (span [310, 310] 1 1 1) [310, 310] = [] by decide⟩
theorem rnd_whole (a b : Int) (hb : 0 < b) : rnd (a * b) b 4 = a := by
  unfold rnd
  by_cases h : a * b < 0
  · rw [if_pos h, ← Int.neg_mul, Int.mul_ediv_cancel _ (Int.ne_of_gt hb), Int.mul_emod_left]
    unfold upB
    simp
    omega
  · rw [if_neg h, Int.mul_ediv_cancel _ (Int.ne_of_gt hb), Int.mul_emod_left]
    unfold upB
    simp
    omega
theorem sumL_rep (a : Int) : ∀ n : Nat, sumL (List.replicate n a) = a * n
  | 0 => by simp [sumL]
  | n + 1 => by
    have := sumL_rep a n
    simp only [sumL, List.replicate_succ, List.foldr_cons] at this ⊢
    rw [this, Int.natCast_add, Int.mul_add]
    simp
    omega
/-- the same amount on each day of a month -/
theorem same_plain (a : Int) {y m : Int} (hv : Vld y m 1) : MonthsR [(num y m 1, num y m 1 + dim y m, a)] (List.replicate (dim y m).toNat a) (num y m 1) 4 := by
  have hd := dim_bd y m
  have hs : span (List.replicate (dim y m).toNat a) y m 1 = (dim y m).toNat := by unfold span; rw [List.length_replicate]; omega
  refine ⟨y, m, 1, hv, rfl, ?_, ?_, ?_⟩
  · intro e
    have := congrArg List.length e
    simp at this
    omega
  · rw [hs, List.take_of_length_le (by simp), sumL_rep, show (((dim y m).toNat : Nat) : Int) = dim y m by omega, rnd_whole _ _ (by omega)]
  · rw [hs]
    simp [MonthsR]
/-- the first month stands by itself -/
theorem split_plain {all : List Pay} {xs : List Int} {way : Int} {y m : Int} (hv : Vld y m 1) (hl : (dim y m).toNat ≤ xs.length) (h : MonthsR all xs (num y m 1) way) :
    ∃ p rest, all = p :: rest ∧ MonthsR [p] (xs.take (dim y m).toNat) (num y m 1) way ∧ MonthsR rest (xs.drop (dim y m).toNat) (num y m 1 + dim y m) way := by
  have hd := dim_bd y m
  have hs : span xs y m 1 = (dim y m).toNat := by unfold span; omega
  match all, h with
  | [], h => 
    have h' : xs = [] := h
    subst h'
    simp at hl
    omega
  | p :: rest, h =>
    obtain ⟨y', m', d', hv', hn', hx, hp, hr⟩ := h
    obtain ⟨rfl, rfl, rfl⟩ := Vld.unique hv hv' hn'.symm
    rw [hs] at hp hr
    have hs2 : span (xs.take (dim y m).toNat) y m 1 = (dim y m).toNat := by unfold span; rw [List.length_take]; omega
    refine ⟨p, rest, rfl, ⟨y, m, 1, hv, rfl, ?_, ?_, ?_⟩, ?_⟩
    · intro e
      have := congrArg List.length e
      rw [List.length_take, List.length_nil] at this
      omega
    · rw [hs2, List.take_take, Nat.min_self]; exact hp
    · rw [hs2]
      simp [MonthsR]
    · rw [show (((dim y m).toNat : Nat) : Int) = dim y m by omega] at hr
      exact hr

/-! ### the walks -/
theorem one_row {w : World} {A : Option Addr} {p : Pay} {ps : List Pay} (h : Rd w A ((p :: ps).flatMap payCells)) :
    ∃ b o, A = some ⟨b, o, none⟩ ∧ w.cell? ⟨b, o, none⟩ = some (.int .i64 p.1) ∧ w.cell? ⟨b, o + 1, none⟩ = some (.int .i64 p.2.1) ∧ w.cell? ⟨b, o + 2, none⟩ = some (.int .i64 p.2.2) := by
  obtain ⟨b, o, e, hc⟩ := h.row payCells_len (k := 0) (by simp) (by omega)
  exact ⟨b, o, e, by simpa using hc 0 _ rfl, by simpa using hc 1 _ rfl, by simpa using hc 2 _ rfl⟩
set_option maxHeartbeats 1000000 in
theorem pays_any (w : World) : Calls Tryd.prog 23 #[] w fun e w' => e = .returned (.bool true) ∧ Below w.heap.size w w' := by
  have hr : Rd (w.alloc (.cells #[.int .i64 310, .int .i64 310] 3)) (some ⟨w.heap.size, 0, none⟩) (ints [310, 310]) := fun j u hj => by
    refine ⟨w.heap.size, 0, rfl, ?_⟩
    rw [World.cell?_alloc_at _ _ _ _ rfl]
    simpa [ints] using hj
  have HM := Lib.hid (months_ok [310, 310] 1 4 (some ⟨w.heap.size, 0, none⟩) 2 (by simp) (by simp) ⟨by omega, by omega, by simp, by omega, by simp, by simp⟩ _ hr)
  clear hr
  go_enter Tryd.func23, Tryd.ntmps23
  go_wp2_with fail
  refine HM.out.mono ?_
  rintro e w' ⟨ps, A', c', rfl, hm, hr, hc, hb⟩
  have e1 := MonthsR.unique hm pays_plain
  subst e1
  obtain ⟨b, o, rfl, _, _, c2⟩ := one_row hr
  have HB := Lib.hid ((ext_alloc w _).trans (hb.mono (by simp)))
  have hc1 : 1 ≤ c' := hc
  clear hm hr hc hb
  go_wp2_with fail
  go_ret
  exact ⟨ret_bool (by simp), HB.out⟩
/-! ### results of which only the form matters -/
theorem of_some (y m d : Int) (E : Value) (w : World) (hE : w.cell? ⟨3, 0, none⟩ = some E) :
    Calls Tryd.prog 14 #[.int .i64 y, .int .i64 m, .int .i64 d] w fun e w' => ∃ (n : Int) (v : Value) (q : Nat), e = .returned (.tuple #[.int .i64 n, v]) ∧ w' = w.drewN q := by
  by_cases h : Vld y m d
  · exact (of_yes y m d h w).mono fun e w' ⟨he, hw⟩ => ⟨_, _, 0, he, hw ▸ rfl⟩
  · exact (of_no y m d h E w hE).mono fun e w' ⟨he, q, hw⟩ => ⟨_, _, q, he, hw⟩
theorem months_some (n k : Int) (E : Value) (w : World) (hE : w.cell? ⟨3, 0, none⟩ = some E) :
    Calls Tryd.prog 25 #[.int .i64 n, .int .i64 k] w fun e w' => ∃ (r : Int) (v : Value) (q : Nat), e = .returned (.tuple #[.int .i64 r, v]) ∧ w' = w.drewN q := by
  by_cases h : 1 ≤ n ∧ n ≤ 3652059
  · obtain ⟨y, m, d, hv, rfl⟩ := date_of n h.1 h.2
    by_cases c : 12 ≤ mon y m k ∧ mon y m k ≤ 119999
    · exact (months_yes y m d k hv c.1 c.2 w).mono fun e w' ⟨he, hw⟩ => ⟨_, _, 0, he, hw ▸ rfl⟩
    · exact (months_err y m d k hv (by omega) E w hE).mono fun e w' ⟨he, q, hw⟩ => ⟨_, _, q, he, hw⟩
  · exact (months_bad n k (by omega) E w hE).mono fun e w' ⟨he, q, hw⟩ => ⟨_, _, q, he, hw⟩
theorem next_month {y m : Int} (hv : Vld y m 1) (h : mon y m 1 ≤ 119999) : monDay y m 1 1 = num y m 1 + dim y m ∧ 12 ≤ mon y m 1 := by
  obtain ⟨h1, h2, h3, h4, _, _⟩ := hv
  unfold monDay mon at *
  refine ⟨?_, by omega⟩
  have hd := dim_bd ((y * 12 + m - 1 + 1) / 12) ((y * 12 + m - 1 + 1) % 12 + 1)
  rw [Int.min_eq_left (by omega)]
  by_cases c : m = 12
  · subst c
    rw [show (y * 12 + 12 - 1 + 1) / 12 = y + 1 by omega, show (y * 12 + 12 - 1 + 1) % 12 + 1 = 1 by omega]
    have := cum_succ y 12 h3 h4
    have e13 := cum_end y
    rw [show (12 : Int) + 1 = 13 by omega] at this
    unfold num
    rw [aheadY_succ, cum_one]
    omega
  · rw [show (y * 12 + m - 1 + 1) / 12 = y by omega, show (y * 12 + m - 1 + 1) % 12 + 1 = m + 1 by omega]
    unfold num
    rw [cum_succ y m h3 h4]
    omega

/-- the sentinels that the law's road reads -/
structure Four (w : World) (aD aB aC aK : Addr) : Prop where
  d : w.cell? ⟨3, 0, none⟩ = some (.iface 191 (.pointer (some aD)))
  b : w.cell? ⟨1, 0, none⟩ = some (.iface 191 (.pointer (some aB)))
  c : w.cell? ⟨2, 0, none⟩ = some (.iface 191 (.pointer (some aC)))
  k : w.cell? ⟨8, 0, none⟩ = some (.iface 191 (.pointer (some aK)))
theorem Four.ext {w w' : World} {aD aB aC aK : Addr} (h : Four w aD aB aC aK) (hb : Below w.heap.size w w') : Four w' aD aB aC aK :=
  ⟨cell_ext hb h.d, cell_ext hb h.b, cell_ext hb h.c, cell_ext hb h.k⟩

set_option maxRecDepth 100000 in
set_option maxHeartbeats 1000000 in
/-- what is not claimed: the amount too great -/
theorem walk_big (a y m : Int) (xs : List Int) (A : Option Addr) (c : Nat) (aD aB aC aK : Addr) (w : World) (hF : Four w aD aB aC aK) (ha : a < -1000000000000 ∨ 1000000000000 < a) :
    Calls Tryd.prog 5 #[.int .i64 a, .slice A xs.length c, .int .i64 y, .int .i64 m] w fun e w' => e = .returned (.bool true) ∧ Below w.heap.size w w' := by
  have HF := Lib.hid hF
  clear hF
  go_enter Tryd.func5, Tryd.ntmps5
  go_wp2_with fail
  refine (pays_any _).mono ?_
  rintro e w1 ⟨rfl, hb1⟩
  have HB := Lib.hid hb1
  clear hb1
  go_wp2_with fail
  refine (Coin.small_no _ ha _).mono ?_
  rintro e w' ⟨rfl, rfl⟩
  clear ha
  go_wp2_with fail
  refine (of_some _ _ _ _ _ (HF.out.ext HB.out).d).mono ?_
  rintro e w' ⟨n, v, q, rfl, rfl⟩
  go_wp2_with fail
  refine (months_some _ _ _ _ (HF.out.ext (ext_trans HB.out (ext_drewN _ q))).d).mono ?_
  rintro e w' ⟨n2, v2, q2, rfl, rfl⟩
  go_wp2_with fail
  go_ret
  exact ⟨rfl, by simpa using ext_trans HB.out (ext_drewN _ (q + q2))⟩
set_option maxRecDepth 100000 in
set_option maxHeartbeats 1000000 in
/-- no such month -/
theorem walk_nomonth (a y m : Int) (xs : List Int) (A : Option Addr) (c : Nat) (aD aB aC aK : Addr) (w : World) (hF : Four w aD aB aC aK) (ha : -1000000000000 ≤ a) (ha' : a ≤ 1000000000000) (hv : ¬ Vld y m 1) :
    Calls Tryd.prog 5 #[.int .i64 a, .slice A xs.length c, .int .i64 y, .int .i64 m] w fun e w' => e = .returned (.bool true) ∧ Below w.heap.size w w' := by
  have HF := Lib.hid hF
  have HV := Lib.hid hv
  clear hF hv
  go_enter Tryd.func5, Tryd.ntmps5
  go_wp2_with fail
  refine (pays_any _).mono ?_
  rintro e w1 ⟨rfl, hb1⟩
  have HB := Lib.hid hb1
  clear hb1
  go_wp2_with fail
  refine (Coin.small_yes _ ha ha' _).mono ?_
  rintro e w' ⟨rfl, rfl⟩
  go_wp2_with fail
  refine (of_no _ _ _ HV.out _ _ (HF.out.ext HB.out).d).mono ?_
  rintro e w' ⟨rfl, q, rfl⟩
  go_wp2_with fail
  refine (months_some _ _ _ _ (HF.out.ext (ext_trans HB.out (ext_drewN _ q))).d).mono ?_
  rintro e w' ⟨n2, v2, q2, rfl, rfl⟩
  go_wp2_with fail
  go_ret
  exact ⟨rfl, by simpa using ext_trans HB.out (ext_drewN _ (q + q2))⟩
set_option maxRecDepth 100000 in
set_option maxHeartbeats 1000000 in
/-- the last month there is -/
theorem walk_last (a y m : Int) (xs : List Int) (A : Option Addr) (c : Nat) (aD aB aC aK : Addr) (w : World) (hF : Four w aD aB aC aK) (ha : -1000000000000 ≤ a) (ha' : a ≤ 1000000000000) (hv : Vld y m 1) (hm : 119999 < mon y m 1) :
    Calls Tryd.prog 5 #[.int .i64 a, .slice A xs.length c, .int .i64 y, .int .i64 m] w fun e w' => e = .returned (.bool true) ∧ Below w.heap.size w w' := by
  have HF := Lib.hid hF
  have HV := Lib.hid hv
  have HM := Lib.hid hm
  clear hF hv hm
  go_enter Tryd.func5, Tryd.ntmps5
  go_wp2_with fail
  refine (pays_any _).mono ?_
  rintro e w1 ⟨rfl, hb1⟩
  have HB := Lib.hid hb1
  clear hb1
  go_wp2_with fail
  refine (Coin.small_yes _ ha ha' _).mono ?_
  rintro e w' ⟨rfl, rfl⟩
  go_wp2_with fail
  refine (of_yes _ _ _ HV.out _).mono ?_
  rintro e w' ⟨rfl, rfl⟩
  go_wp2_with fail
  refine (months_err _ _ _ _ HV.out (.inr HM.out) _ _ (HF.out.ext HB.out).d).mono ?_
  rintro e w' ⟨rfl, q, rfl⟩
  go_wp2_with fail
  go_ret
  exact ⟨rfl, ext_trans HB.out (ext_drewN _ q)⟩
end Go.Proofs.YtipbmpakdcmdoaaDoor.SumsSplit

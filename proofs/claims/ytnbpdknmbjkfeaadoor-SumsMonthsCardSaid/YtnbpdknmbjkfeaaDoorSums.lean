/- sums.Months and what it calls, first part: IndexFunc and ContainsFunc over ints with a plain function, the test on coins, day.Long. -/
import Derived.Test.YtnbpdknmbjkfeaaDoorMem
import Derived.Test.YtnbpdknmbjkfeaaDoorDay
import Derived.Test.YtnbpdknmbjkfeaaDoorPart3
namespace Go.Proofs.YtnbpdknmbjkfeaaDoor.Sums
open Go.RowKit Cal Day Mem

/-- not an amount -/
def bad (n : Int) : Bool := decide (n < -1000000000000) || decide (1000000000000 < n)
set_option maxHeartbeats 400000 in
theorem bad_any (n : Int) (w : World) : Calls Tryd.prog 73 #[.int .i64 n] w fun e w' => e = .returned (.bool (bad n)) ∧ w = w' := by
  by_cases h : n < -1000000000000 ∨ 1000000000000 < n
  · have HB := Lib.hid (show bad n = true by unfold bad; simp; omega)
    go_enter Tryd.func73, Tryd.ntmps73
    go_wp2_with fail
    refine (Coin.good_no n h _).mono ?_
    rintro e w' ⟨rfl, rfl⟩
    clear h
    go_wp2_with fail
    go_ret
    exact ⟨ret_bool HB.out.symm, rfl⟩
  · have HB := Lib.hid (show bad n = false by unfold bad; simp; omega)
    go_enter Tryd.func73, Tryd.ntmps73
    go_wp2_with fail
    refine (Coin.good_yes n (by omega) (by omega) _).mono ?_
    rintro e w' ⟨rfl, rfl⟩
    clear h
    go_wp2_with fail
    go_ret
    exact ⟨ret_bool HB.out.symm, rfl⟩
/-- a place of the first one that the test takes, or a negative number -/
def FoundAt (p : Int → Bool) (zs : List Int) (r : Int) : Prop := (0 ≤ r ↔ ∃ x ∈ zs, p x = true)
set_option maxHeartbeats 400000 in
theorem indexfunc_any (zs : List Int) (A : Option Addr) (c : Nat) (hm : zs.length ≤ 9223372036854775807) (w : World) (hr : Rd w A (ints zs)) :
    Calls Tryd.prog 116 #[.slice A zs.length c, .func (.func 73) #[] #[]] w fun e w' => ∃ r : Int, e = .returned (.int .i64 r) ∧ FoundAt bad zs r ∧ w = w' := by
  have HR := Lib.hid hr
  clear hr
  go_enter Tryd.func116, Tryd.ntmps116
  go_wp2_with fail
  go_loop [8] (fun i => ∃ k : Nat, k ≤ zs.length ∧ i = .int .i64 k ∧ Hid (∀ j (h : j < zs.length), j < k → bad zs[j] = false)) (fun i => zs.length - (intOf i).toNat)
  case atStart => exact ⟨0, Nat.zero_le _, rfl, fun j _ hj => absurd hj (by omega)⟩
  case round =>
    obtain ⟨k, hk, rfl, hno⟩ := hrel
    by_cases hlt : k < zs.length
    · obtain ⟨b, o, rfl, hc⟩ := HR.out.int hlt
      go_wp2_with fail
      refine (bad_any _ _).mono ?_
      rintro e w' ⟨rfl, rfl⟩
      cases hpx : bad zs[k] with
      | true =>
        have Hpx := Lib.hid hpx
        clear hpx
        go_wp2_with fail
        go_ret
        exact ⟨_, rfl, ⟨fun _ => ⟨_, List.getElem_mem hlt, Hpx.out⟩, fun _ => by omega⟩, rfl⟩
      | false =>
        have Hpx := Lib.hid hpx
        clear hpx
        go_wp2_with fail
        go_round
        case rel =>
          refine ⟨k + 1, by omega, by go_num, fun j h hj => ?_⟩
          by_cases e : j = k
          · subst e; exact Hpx.out
          · exact hno.out j h (by omega)
        case measure => simp [intOf]; omega
    · go_wp2_with fail
      go_ret
      refine ⟨_, rfl, ⟨fun h => absurd h (by omega), ?_⟩, rfl⟩
      rintro ⟨x, hx, hpx⟩
      obtain ⟨j, hj, rfl⟩ := List.mem_iff_getElem.1 hx
      rw [hno.out j hj (by omega)] at hpx
      cases hpx
set_option maxHeartbeats 400000 in
theorem containsfunc_any (zs : List Int) (A : Option Addr) (c : Nat) (hm : zs.length ≤ 9223372036854775807) (w : World) (hr : Rd w A (ints zs)) :
    Calls Tryd.prog 72 #[.slice A zs.length c, .func (.func 73) #[] #[]] w fun e w' => e = .returned (.bool (zs.any bad)) ∧ w = w' := by
  have HI := Lib.hid (indexfunc_any zs A c hm w hr)
  clear hr
  go_enter Tryd.func72, Tryd.ntmps72
  go_wp2_with fail
  refine HI.out.mono ?_
  rintro e w' ⟨r, rfl, hf, rfl⟩
  have HF := Lib.hid hf
  clear hf
  go_wp2_with fail
  go_ret
  refine ⟨ret_bool ?_, rfl⟩
  have := HF.out
  unfold FoundAt at this
  rw [Bool.eq_iff_iff, List.any_eq_true]
  simpa using this
set_option maxHeartbeats 400000 in
theorem daylong_yes (y m d : Int) (hv : Vld y m d) (w : World) :
    Calls Tryd.prog 76 #[.int .i64 (num y m d)] w fun e w' => e = .returned (.int .i64 (dim y m)) ∧ w = w' := by
  have hn := hv.num_bd
  have b1 : 0 ≤ y := by unfold Vld at hv; omega
  go_enter Tryd.func76, Tryd.ntmps76
  go_wp2_with fail
  refine (parts_yes _ hn.1 hn.2 _).mono ?_
  rintro e w' ⟨a, b, c, rfl, hv', hn', rfl⟩
  obtain ⟨rfl, rfl, rfl⟩ := Vld.unique hv hv' hn'.symm
  clear hv' hn'
  go_wp2_with fail
  refine (long_any _ _ b1 _).mono ?_
  rintro e w' ⟨rfl, rfl⟩
  go_wp2_with fail
  go_ret
  exact ⟨rfl, rfl⟩
end Go.Proofs.YtnbpdknmbjkfeaaDoor.Sums

/- The law DayOf answers true: the walk. -/
import Derived.Test.YtipbmpakdcmdoaaDoorMonths
import Derived.Test.YtipbmpakdcmdoaaDoorCoded1
namespace Go.Proofs.YtipbmpakdcmdoaaDoor.DayOf
open Go.RowKit Cal Day RefDay Err

theorem vld_first : Vld 2026 11 15 := by decide
theorem num_first : num 2026 11 15 = 739935 := by decide
theorem of_first (w : World) : Calls Tryd.prog 14 #[.int .i64 2026, .int .i64 11, .int .i64 15] w fun e w' => e = .returned (.tuple #[.int .i64 739935, .nilIface]) ∧ w = w' := by
  have h := of_yes 2026 11 15 vld_first w
  rwa [num_first] at h
/-- a day's parts, whatever the number -/
def partsIs (n a b c : Int) : Prop := (1 ≤ n ∧ n ≤ 3652059 ∧ Vld a b c ∧ num a b c = n) ∨ ((n < 1 ∨ 3652059 < n) ∧ a = 0 ∧ b = 0 ∧ c = 0)
theorem partsIs.unique {n a b c a' b' c' : Int} (h : partsIs n a b c) (h' : partsIs n a' b' c') : a' = a ∧ b' = b ∧ c' = c := by
  rcases h with ⟨h1, h2, hv, hn⟩ | ⟨h1, rfl, rfl, rfl⟩ <;> rcases h' with ⟨h1', h2', hv', hn'⟩ | ⟨h1', rfl, rfl, rfl⟩
  · exact Vld.unique hv' hv (hn'.trans hn.symm)
  · omega
  · omega
  · exact ⟨rfl, rfl, rfl⟩
theorem parts_any (n : Int) (w : World) :
    Calls Tryd.prog 15 #[.int .i64 n] w fun e w' => ∃ a b c : Int, e = .returned (.tuple #[.int .i64 a, .int .i64 b, .int .i64 c]) ∧ partsIs n a b c ∧ w = w' := by
  by_cases h : 1 ≤ n ∧ n ≤ 3652059
  · exact (parts_yes n h.1 h.2 w).mono fun e w' ⟨a, b, c, he, hv, hn, hw⟩ => ⟨a, b, c, he, .inl ⟨h.1, h.2, hv, hn⟩, hw⟩
  · exact (parts_no n (by omega) w).mono fun e w' ⟨he, hw⟩ => ⟨0, 0, 0, he, .inr ⟨by omega, rfl, rfl, rfl⟩, hw⟩
theorem partsof_any (n : Int) (w : World) :
    Calls Tryd.prog 46 #[.int .i64 n] w fun e w' => ∃ a b c : Int, e = .returned (.tuple #[.int .i64 a, .int .i64 b, .int .i64 c]) ∧ partsIs n a b c ∧ Below w.heap.size w w' := by
  by_cases h : 1 ≤ n ∧ n ≤ 3652059
  · exact (partsof_yes n h.1 h.2 w).mono fun e w' ⟨a, b, c, he, hv, hn, hw⟩ => ⟨a, b, c, he, .inl ⟨h.1, h.2, hv, hn⟩, hw⟩
  · exact (partsof_no n (by omega) w).mono fun e w' ⟨he, hw⟩ => ⟨0, 0, 0, he, .inr ⟨by omega, rfl, rfl, rfl⟩, hw⟩
/-- a day's day of the week -/
def wk (n : Int) : Int := if 1 ≤ n ∧ n ≤ 3652059 then (n - 1) % 7 else -1
theorem week_any (n : Int) (w : World) : Calls Tryd.prog 16 #[.int .i64 n] w fun e w' => e = .returned (.int .i64 (wk n)) ∧ w = w' := by
  by_cases h : 1 ≤ n ∧ n ≤ 3652059
  · have := week_yes n h.1 h.2 w
    rwa [show wk n = (n - 1) % 7 from if_pos h]
  · have := week_no n (by omega) w
    rwa [show wk n = -1 from if_neg h]
theorem weekof_any (n : Int) (w : World) : Calls Tryd.prog 47 #[.int .i64 n] w fun e w' => e = .returned (.int .i64 (wk n)) ∧ w = w' := by
  by_cases h : 1 ≤ n ∧ n ≤ 3652059
  · have := weekof_yes n h.1 h.2 w
    rwa [show wk n = (n - 1) % 7 from if_pos h]
  · have := weekof_no n (by omega) w
    rwa [show wk n = -1 from if_neg h]
theorem week_first (w : World) : Calls Tryd.prog 16 #[.int .i64 739935] w fun e w' => e = .returned (.int .i64 6) ∧ w = w' := by
  have := week_yes 739935 (by omega) (by omega) w
  simpa using this

set_option maxRecDepth 100000 in
set_option maxHeartbeats 1000000 in
theorem walk (y m d n : Int) (A : Nat → Addr) (w : World) (hE : Errs w A) :
    Calls Tryd.prog 12 #[.int .i64 y, .int .i64 m, .int .i64 d, .int .i64 n] w fun e w' => e = .returned (.bool true) ∧ Below w.heap.size w w' := by
  have HE := Lib.hid hE
  clear hE
  by_cases hv : Vld y m d
  · go_enter Tryd.func12, Tryd.ntmps12
    go_wp2_with fail
    refine (of_first _).mono ?_
    rintro e w' ⟨rfl, rfl⟩
    go_wp2_with fail
    refine (week_first _).mono ?_
    rintro e w' ⟨rfl, rfl⟩
    go_wp2_with fail
    refine (of_yes _ _ _ hv _).mono ?_
    rintro e w' ⟨rfl, rfl⟩
    go_wp2_with fail
    refine (dayof_yes _ _ _ hv _).mono ?_
    rintro e w1 ⟨rfl, hb1⟩
    have HB := Lib.hid hb1
    clear hb1
    go_wp2_with fail
    refine (coded_nil _ _).mono ?_
    rintro e w' ⟨rfl, rfl⟩
    go_wp2_with fail
    refine (parts_any _ _).mono ?_
    rintro e w' ⟨a, b, c, rfl, hp, rfl⟩
    go_wp2_with fail
    refine (partsof_any _ _).mono ?_
    rintro e w2 ⟨a', b', c', rfl, hp', hb2⟩
    obtain ⟨rfl, rfl, rfl⟩ := hp.unique hp'
    have HB2 := Lib.hid (HB.out.trans (hb2.mono HB.out.size))
    clear hb2 hp hp'
    go_wp2_with (first | (go_at_call 16; refine (week_any _ _).mono ?_; rintro e w' ⟨rfl, rfl⟩) | (go_at_call 47; refine (weekof_any _ _).mono ?_; rintro e w' ⟨rfl, rfl⟩))
    go_ret
    exact ⟨ret_bool (by simp), HB2.out⟩
  · have hd := HE.out.v3
    go_enter Tryd.func12, Tryd.ntmps12
    go_wp2_with fail
    refine (of_first _).mono ?_
    rintro e w' ⟨rfl, rfl⟩
    go_wp2_with fail
    refine (week_first _).mono ?_
    rintro e w' ⟨rfl, rfl⟩
    go_wp2_with fail
    refine (of_no _ _ _ hv _ _ hd).mono ?_
    rintro e w' ⟨rfl, q, rfl⟩
    clear hd
    go_wp2_with fail
    refine (dayof_no _ _ _ hv _).mono ?_
    rintro e w1 ⟨rfl, hb1⟩
    have HB := Lib.hid ((below_drewN (Below.refl w.heap.size w) q).trans hb1)
    clear hb1
    go_wp2_with fail
    refine (coded_sent 3 (by omega) _ A _ (HE.out.below HB.out)).mono ?_
    rintro e w2 ⟨rfl, hb2⟩
    have HB2 := Lib.hid (HB.out.trans (hb2.mono HB.out.size))
    clear hb2
    go_wp2_with fail
    refine (parts_any _ _).mono ?_
    rintro e w' ⟨a, b, c, rfl, hp, rfl⟩
    go_wp2_with fail
    refine (partsof_any _ _).mono ?_
    rintro e w3 ⟨a', b', c', rfl, hp', hb3⟩
    obtain ⟨rfl, rfl, rfl⟩ := hp.unique hp'
    have HB3 := Lib.hid (HB2.out.trans (hb3.mono HB2.out.size))
    clear hb3 hp hp'
    go_wp2_with (first | (go_at_call 16; refine (week_any _ _).mono ?_; rintro e w' ⟨rfl, rfl⟩) | (go_at_call 47; refine (weekof_any _ _).mono ?_; rintro e w' ⟨rfl, rfl⟩))
    go_ret
    exact ⟨ret_bool (by simp), HB3.out⟩
end Go.Proofs.YtipbmpakdcmdoaaDoor.DayOf

/- The law DayMonths answers true: the walk. -/
import Derived.Test.YtipbmpakdcmdoaaDoorMonths
import Derived.Test.YtipbmpakdcmdoaaDoorCoded1
import Derived.Test.YtipbmpakdcmdoaaDoorCal2
namespace Go.Proofs.YtipbmpakdcmdoaaDoor.DayMonths
open Go.RowKit Cal Day RefDay Err

theorem vld_first : Vld 1 1 31 := by decide
theorem num_first : num 1 1 31 = 31 := by decide
theorem months_first (w : World) : Calls Tryd.prog 25 #[.int .i64 31, .int .i64 1] w fun e w' => e = .returned (.tuple #[.int .i64 59, .nilIface]) ∧ w = w' := by
  have h := months_yes 1 1 31 1 vld_first (by decide) (by decide) w
  rwa [num_first, show monDay 1 1 31 1 = 59 from by decide] at h

/-- what both sides come to -/
def Good (n k r : Int) : Prop := ∃ y m d, Vld y m d ∧ num y m d = n ∧ 12 ≤ mon y m k ∧ mon y m k ≤ 119999 ∧ r = monDay y m d k
theorem cases (n k : Int) : (∃ r, Good n k r) ∨ (n < 1 ∨ 3652059 < n) ∨ ∃ y m d, Vld y m d ∧ num y m d = n ∧ (mon y m k < 12 ∨ 119999 < mon y m k) := by
  by_cases h : 1 ≤ n ∧ n ≤ 3652059
  · obtain ⟨y, m, d, hv, hn⟩ := date_of n h.1 h.2
    by_cases c : 12 ≤ mon y m k ∧ mon y m k ≤ 119999
    · exact .inl ⟨_, y, m, d, hv, hn, c.1, c.2, rfl⟩
    · exact .inr (.inr ⟨y, m, d, hv, hn, by omega⟩)
  · exact .inr (.inl (by omega))
theorem months_good (n k r : Int) (h : Good n k r) (w : World) :
    Calls Tryd.prog 25 #[.int .i64 n, .int .i64 k] w fun e w' => e = .returned (.tuple #[.int .i64 r, .nilIface]) ∧ w = w' := by
  obtain ⟨y, m, d, hv, rfl, h1, h2, rfl⟩ := h
  exact months_yes y m d k hv h1 h2 w
theorem monthson_good (n k r : Int) (h : Good n k r) (w : World) :
    Calls Tryd.prog 48 #[.int .i64 n, .int .i64 k] w fun e w' => e = .returned (.tuple #[.int .i64 r, .int .i64 0]) ∧ Below w.heap.size w w' := by
  obtain ⟨y, m, d, hv, rfl, h1, h2, rfl⟩ := h
  exact monthson_yes y m d k hv h1 h2 w
theorem months_no (n k : Int) (h : (n < 1 ∨ 3652059 < n) ∨ ∃ y m d, Vld y m d ∧ num y m d = n ∧ (mon y m k < 12 ∨ 119999 < mon y m k)) (E : Value) (w : World) (hE : w.cell? ⟨3, 0, none⟩ = some E) :
    Calls Tryd.prog 25 #[.int .i64 n, .int .i64 k] w fun e w' => e = .returned (.tuple #[.int .i64 0, E]) ∧ ∃ q, w' = w.drewN q := by
  rcases h with h | ⟨y, m, d, hv, rfl, h⟩
  · exact months_bad n k h E w hE
  · exact months_err y m d k hv h E w hE
theorem monthson_no (n k : Int) (h : (n < 1 ∨ 3652059 < n) ∨ ∃ y m d, Vld y m d ∧ num y m d = n ∧ (mon y m k < 12 ∨ 119999 < mon y m k)) (w : World) :
    Calls Tryd.prog 48 #[.int .i64 n, .int .i64 k] w fun e w' => e = .returned (.tuple #[.int .i64 0, .int .i64 4]) ∧ Below w.heap.size w w' := by
  rcases h with h | ⟨y, m, d, hv, rfl, h⟩
  · exact monthson_bad n k h w
  · exact monthson_err y m d k hv h w

set_option maxRecDepth 100000 in
set_option maxHeartbeats 1000000 in
theorem walk (n k : Int) (A : Nat → Addr) (w : World) (hE : Errs w A) :
    Calls Tryd.prog 13 #[.int .i64 n, .int .i64 k] w fun e w' => e = .returned (.bool true) ∧ Below w.heap.size w w' := by
  have HE := Lib.hid hE
  clear hE
  rcases cases n k with ⟨r, hg⟩ | hbad
  · go_enter Tryd.func13, Tryd.ntmps13
    go_wp2_with fail
    refine (months_first _).mono ?_
    rintro e w' ⟨rfl, rfl⟩
    go_wp2_with fail
    refine (months_good n k r hg _).mono ?_
    rintro e w' ⟨rfl, rfl⟩
    go_wp2_with fail
    refine (monthson_good n k r hg _).mono ?_
    rintro e w1 ⟨rfl, hb1⟩
    have HB := Lib.hid hb1
    clear hb1 hg
    go_wp2_with fail
    refine (coded_nil _ _).mono ?_
    rintro e w' ⟨rfl, rfl⟩
    go_wp2_with fail
    go_ret
    exact ⟨ret_bool (by simp), HB.out⟩
  · have hd := HE.out.v3
    have HH := Lib.hid hbad
    clear hbad
    go_enter Tryd.func13, Tryd.ntmps13
    go_wp2_with fail
    refine (months_first _).mono ?_
    rintro e w' ⟨rfl, rfl⟩
    go_wp2_with fail
    refine (months_no n k HH.out _ _ hd).mono ?_
    rintro e w' ⟨rfl, q, rfl⟩
    clear hd
    go_wp2_with fail
    refine (monthson_no n k HH.out _).mono ?_
    rintro e w1 ⟨rfl, hb1⟩
    have HB := Lib.hid ((below_drewN (Below.refl w.heap.size w) q).trans hb1)
    clear hb1
    go_wp2_with fail
    refine (coded_sent 3 (by omega) _ A _ (HE.out.below HB.out)).mono ?_
    rintro e w2 ⟨rfl, hb2⟩
    have HB2 := Lib.hid (HB.out.trans (hb2.mono HB.out.size))
    clear hb2
    go_wp2_with fail
    go_ret
    exact ⟨ret_bool (by simp), HB2.out⟩
end Go.Proofs.YtipbmpakdcmdoaaDoor.DayMonths

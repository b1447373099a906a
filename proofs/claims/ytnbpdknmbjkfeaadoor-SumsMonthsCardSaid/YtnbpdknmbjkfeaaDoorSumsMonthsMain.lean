/- The law SumsMonths answers true: the walk of the law. -/
import Derived.Test.YtnbpdknmbjkfeaaDoorSumsRef
import Derived.Test.YtnbpdknmbjkfeaaDoorPaysW
import Derived.Test.YtnbpdknmbjkfeaaDoorCoded5
import Derived.BigQuiet
namespace Go.Proofs.YtnbpdknmbjkfeaaDoor.SumsMonths
open Go.RowKit Cal Day Mem Pays Rnd Sums RefDay Nest SumsRef Err SumsSplit

def BoolT (w : World) (e : Ending) (w' : World) : Prop := e = .returned (.bool true) ∧ Below w.heap.size w w'
set_option maxHeartbeats 1000000 in
theorem same_any (ps : List Pay) (A1 A2 : Option Addr) (c1 c2 : Nat) (hm : ps.length ≤ 1048576) (w : World) (h1 : Rd w A1 (ps.flatMap payCells)) (h2 : Rd w A2 (ps.flatMap payCells)) :
    Calls Tryd.prog 31 #[.slice A1 ps.length c1, .slice A2 ps.length c2] w fun e w' => e = .returned (.bool true) ∧ ∃ n, w' = w.drewN n := by
  have H1 := Lib.hid h1
  have H2 := Lib.hid h2
  clear h1 h2
  go_enter Tryd.func31, Tryd.ntmps31
  go_wp2_with fail
  go_loopw [5] (fun t5 wr => ∃ i : Nat, t5 = .int .i64 i ∧ i ≤ ps.length ∧ Hid (∃ n, wr = w.drewN n)) (fun t5 _ => ps.length - (intOf t5).toNat)
  case atStart => exact ⟨0, rfl, Nat.zero_le _, 0, rfl⟩
  case round =>
    obtain ⟨i, rfl, hi, HW⟩ := hrel
    have HXt := Lib.hid (show Below w.heap.size w wr by obtain ⟨n, hn⟩ := HW.out; rw [hn]; exact ext_drewN w n)
    by_cases hlt : i < ps.length
    · obtain ⟨b1, o1, rfl, p0, p1, p2⟩ := pay_at (H1.out.ext HXt.out) hlt
      obtain ⟨b2, o2, rfl, q0, q1, q2⟩ := pay_at (H2.out.ext HXt.out) hlt
      generalize ps[i] = x at *
      obtain ⟨xa, xb, xc⟩ := x
      simp only at p0 p1 p2 q0 q1 q2
      go_wp2_with fail
      go_quiet (fail)
      go_wp2_with fail
      go_roundw
      case rel => exact ⟨i + 1, by go_num, by omega, by obtain ⟨n, hn⟩ := HW.out; exact ⟨n + nq, by rw [hn, World.drewN_drewN]⟩⟩
      case measure => simp [intOf]; omega
    · go_wp2_with fail
      go_ret
      exact ⟨rfl, HW.out⟩
set_option maxRecDepth 100000 in
set_option maxHeartbeats 1000000 in
theorem walk_err (k : Nat) (hk : k < 11) (xs : List Int) (f way : Int) (A0 : Option Addr) (c : Nat) (hl : xs.length ≤ 4002) (A : Nat → Addr) (w : World) (hE : Errs w A) (hr : Rd w A0 (ints xs))
    (HP : ∀ w, Errs w A → Rd w A0 (ints xs) → Calls Tryd.prog 28 #[.slice A0 xs.length c, .int .i64 f, .int .i64 way] w fun e w' => e = .returned (.tuple #[.slice none 0 0, sentV (A k)]) ∧ ∃ n, w' = w.drewN n)
    (HQ : ∀ w, Rd w A0 (ints xs) → Calls Tryd.prog 29 #[.slice A0 xs.length c, .int .i64 f, .int .i64 way] w fun e w' => e = .returned (.tuple #[.slice none 0 0, .int .i64 ((k : Int) + 1)]) ∧ Below w.heap.size w w') :
    Calls Tryd.prog 6 #[.slice A0 xs.length c, .int .i64 f, .int .i64 way] w (BoolT w) := by
  have hl' : decide (4002 < (xs.length : Int)) = false := by simp; omega
  have HE := Lib.hid hE
  have HR := Lib.hid hr
  have HPh := Lib.hid HP
  have HQh := Lib.hid HQ
  have HC := Lib.hid (fun w (h : Errs w A) => coded5_sent k hk ((k : Int) + 1) A w h)
  have HD := Lib.hid (show decide ((k : Int) + 1 = (k : Int) + 1) = true by simp)
  clear hE hr HP HQ
  generalize (k : Int) + 1 = kc at *
  unfold sentV at HPh HC
  go_enter Tryd.func6, Tryd.ntmps6
  go_wp2_with fail
  refine (pays_any _).mono ?_
  rintro e w1 ⟨rfl, hb⟩
  have HB1 := Lib.hid hb
  clear hb
  go_wp2_with fail
  refine (HPh.out _ (HE.out.below HB1.out) (HR.out.ext HB1.out)).mono ?_
  rintro e w2 ⟨rfl, n, rfl⟩
  have HB2 := Lib.hid (ext_trans HB1.out (ext_drewN w1 n))
  go_wp2_with fail
  refine (HQh.out _ (HR.out.ext HB2.out)).mono ?_
  rintro e w3 ⟨rfl, hb⟩
  have HB3 := Lib.hid (ext_trans HB2.out hb)
  clear hb
  go_wp2_with fail
  refine (HC.out _ (HE.out.below HB3.out)).mono ?_
  rintro e w4 ⟨rfl, hb⟩
  have HB4 := Lib.hid (ext_trans HB3.out hb)
  clear hb
  rw [HD.out]
  go_wp2_with fail
  refine (same_any [] none none 0 0 (by simp) _ Rd.nil Rd.nil).mono ?_
  rintro e w5 ⟨rfl, n5, rfl⟩
  go_wp2_with fail
  go_ret
  exact ⟨rfl, ext_trans HB4.out (ext_drewN _ _)⟩
set_option maxRecDepth 100000 in
set_option maxHeartbeats 1000000 in
theorem walk_ok (xs : List Int) (f way : Int) (A0 : Option Addr) (c : Nat) (hl : xs.length ≤ 4002) (w : World) (hr : Rd w A0 (ints xs))
    (HP : ∀ w, Rd w A0 (ints xs) → Calls Tryd.prog 28 #[.slice A0 xs.length c, .int .i64 f, .int .i64 way] w fun e w' => ∃ (ps : List Pay) (A' : Option Addr) (c' : Nat), e = .returned (.tuple #[.slice A' ps.length c', .nilIface]) ∧ MonthsR ps xs f way ∧ Rd w' A' (ps.flatMap payCells) ∧ Below w.heap.size w w')
    (HQ : ∀ w, Rd w A0 (ints xs) → Calls Tryd.prog 29 #[.slice A0 xs.length c, .int .i64 f, .int .i64 way] w fun e w' => ∃ (ps : List Pay) (A' : Option Addr) (c' : Nat), e = .returned (.tuple #[.slice A' ps.length c', .int .i64 0]) ∧ MonthsR ps xs f way ∧ Rd w' A' (ps.flatMap payCells) ∧ Below w.heap.size w w') :
    Calls Tryd.prog 6 #[.slice A0 xs.length c, .int .i64 f, .int .i64 way] w (BoolT w) := by
  have hl' : decide (4002 < (xs.length : Int)) = false := by simp; omega
  have HR := Lib.hid hr
  have HPh := Lib.hid HP
  have HQh := Lib.hid HQ
  clear hr HP HQ
  go_enter Tryd.func6, Tryd.ntmps6
  go_wp2_with fail
  refine (pays_any _).mono ?_
  rintro e w1 ⟨rfl, hb⟩
  have HB1 := Lib.hid hb
  clear hb
  go_wp2_with fail
  refine (HPh.out _ (HR.out.ext HB1.out)).mono ?_
  rintro e w2 ⟨ps, A1, c1, rfl, hm, h1, hb⟩
  have HM := Lib.hid hm
  have H1 := Lib.hid h1
  have HB2 := Lib.hid (ext_trans HB1.out hb)
  clear hb hm h1
  go_wp2_with fail
  refine (HQh.out _ (HR.out.ext HB2.out)).mono ?_
  rintro e w3 ⟨ps2, A2, c2, rfl, hm, h2, hb⟩
  obtain rfl := MonthsR.unique HM.out hm
  have H2 := Lib.hid h2
  have H1' := Lib.hid (H1.out.ext hb)
  have HB3 := Lib.hid (ext_trans HB2.out hb)
  have hpl := Lib.hid (months_len HM.out)
  clear hb hm h2
  go_wp2_with fail
  refine (coded5_nil 0 _).mono ?_
  rintro e w4 ⟨rfl, rfl⟩
  simp only [decide_true]
  go_wp2_with fail
  refine (same_any ps A1 A2 c1 c2 (by have := hpl.out; omega) _ H1'.out H2.out).mono ?_
  rintro e w5 ⟨rfl, n5, rfl⟩
  go_wp2_with fail
  go_ret
  exact ⟨rfl, ext_trans HB3.out (ext_drewN _ _)⟩
set_option maxHeartbeats 1000000 in
theorem walk_long (xs : List Int) (f way : Int) (A0 : Option Addr) (c : Nat) (hl : 4002 < xs.length) (w : World) :
    Calls Tryd.prog 6 #[.slice A0 xs.length c, .int .i64 f, .int .i64 way] w (BoolT w) := by
  have hl' : decide (4002 < (xs.length : Int)) = true := by simp; omega
  go_enter Tryd.func6, Tryd.ntmps6
  go_wp2_with fail
  refine (pays_any _).mono ?_
  rintro e w1 ⟨rfl, hb⟩
  have HB1 := Lib.hid hb
  clear hb
  go_wp2_with fail
  go_ret
  exact ⟨rfl, HB1.out⟩
theorem mo_at {xs : List Int} {f way : Int} {w : World} {e : Ending} {w' : World} (h : MoPost xs f way w e w') :
    Below w.heap.size w w' ∧ ((way < 0 ∨ 5 < way) → e = .returned (.tuple #[.slice none 0 0, .int .i64 9])) ∧
    ((0 ≤ way ∧ way ≤ 5) → 4000 < xs.length → e = .returned (.tuple #[.slice none 0 0, .int .i64 2])) ∧
    ((0 ≤ way ∧ way ≤ 5) → xs.length ≤ 4000 → xs ≠ [] → (f < 1 ∨ 3652060 < f + xs.length) → e = .returned (.tuple #[.slice none 0 0, .int .i64 4])) ∧
    ((0 ≤ way ∧ way ≤ 5) → xs.length ≤ 4000 → (1 ≤ f ∧ f + xs.length ≤ 3652060) → (∃ x ∈ xs, ¬ GdC x) → e = .returned (.tuple #[.slice none 0 0, .int .i64 3])) ∧
    ((0 ≤ way ∧ way ≤ 5) → xs.length ≤ 4000 → (xs = [] ∨ (1 ≤ f ∧ f + xs.length ≤ 3652060)) → (∀ x ∈ xs, GdC x) → ∃ (ps : List Pay) (A' : Option Addr) (c' : Nat), e = .returned (.tuple #[.slice A' ps.length c', .int .i64 0]) ∧ MonthsR ps xs f way ∧ Rd w' A' (ps.flatMap payCells)) := by
  obtain ⟨hb, h⟩ := h
  refine ⟨hb, ?_⟩
  rcases h with ⟨h1, e1⟩ | ⟨h1, h2, e1⟩ | ⟨h1, h2, h3, h4, e1⟩ | ⟨h1, h2, h3, h4, ⟨x, hx, hg⟩, e1⟩ | ⟨h1, h2, h3, h4, ps, A', c', e1, e2, e3, _⟩
  · exact ⟨fun _ => e1, fun g => by omega, fun g => by omega, fun g => by omega, fun g => by omega⟩
  · exact ⟨fun g => by omega, fun _ _ => e1, fun _ g => by omega, fun _ g => by omega, fun _ g => by omega⟩
  · exact ⟨fun g => by omega, fun _ g => by omega, fun _ _ _ _ => e1, fun _ _ g => by omega, fun _ _ g => g.elim (fun g => absurd g h3) fun g => by omega⟩
  · exact ⟨fun g => by omega, fun _ g => by omega, fun _ _ _ g => by omega, fun _ _ _ _ => e1, fun _ _ _ g => absurd (g x hx) hg⟩
  · exact ⟨fun g => by omega, fun _ g => by omega, fun _ _ g g2 => h3.elim (fun h => absurd h g) fun h => by omega, fun _ _ _ ⟨x, hx, hg⟩ => absurd (h4 x hx) hg, fun _ _ _ _ => ⟨ps, A', c', e1, e2, e3⟩⟩
theorem mo_any (xs : List Int) (f way : Int) (A : Option Addr) (c : Nat) (w : World) (hr : Rd w A (ints xs)) :
    Calls Tryd.prog 29 #[.slice A xs.length c, .int .i64 f, .int .i64 way] w (MoPost xs f way w) := by
  by_cases h1 : way < 0 ∨ 5 < way
  · exact mo_way xs f way A c h1 w
  by_cases h2 : 4000 < xs.length
  · exact mo_long xs f way A c (by omega) (by omega) h2 w
  by_cases h3 : xs = []
  · subst h3
    exact mo_nil f way A c (by omega) (by omega) w
  by_cases h4 : f < 1 ∨ 3652060 < f + xs.length
  · exact mo_day xs f way A c (by omega) (by omega) (by omega) h3 h4 w
  · exact mo_ok xs f way A c (by omega) (by omega) (by omega) h3 (by omega) (by omega) w hr
theorem walk (xs : List Int) (f way : Int) (A0 : Option Addr) (c : Nat) (hc : xs.length ≤ c) (A : Nat → Addr) (w : World) (hE : Errs w A) (hr : Rd w A0 (ints xs)) :
    Calls Tryd.prog 6 #[.slice A0 xs.length c, .int .i64 f, .int .i64 way] w (BoolT w) := by
  by_cases h0 : 4002 < xs.length
  · exact walk_long xs f way A0 c h0 w
  by_cases h1 : way < 0 ∨ 5 < way
  · exact walk_err 8 (by omega) xs f way A0 c (by omega) A w hE hr (fun w hE _ => months_way xs f way A0 c h1 _ w hE.v8) (fun w hr => (mo_any xs f way A0 c w hr).mono fun e w' h => ⟨(mo_at h).2.1 h1, h.1⟩)
  have hw : 0 ≤ way ∧ way ≤ 5 := by omega
  by_cases h2 : 4000 < xs.length
  · exact walk_err 1 (by omega) xs f way A0 c (by omega) A w hE hr (fun w hE _ => months_long xs f way A0 c hw.1 hw.2 h2 _ w hE.v1) (fun w hr => (mo_any xs f way A0 c w hr).mono fun e w' h => ⟨(mo_at h).2.2.1 hw h2, h.1⟩)
  by_cases h3 : xs = []
  · subst h3
    refine walk_ok [] f way A0 c (by simp) w hr (fun w _ => (months_none f way A0 c hw.1 hw.2 w).mono fun e w' ⟨he, hw'⟩ => ⟨[], none, 0, he, rfl, Rd.nil, hw' ▸ Below.refl _ _⟩) (fun w hr => (mo_any [] f way A0 c w hr).mono fun e w' h => ?_)
    obtain ⟨ps, A', c', a, b, d⟩ := (mo_at h).2.2.2.2.2 hw (by simp) (.inl rfl) (by simp)
    exact ⟨ps, A', c', a, b, d, h.1⟩
  by_cases h4 : f < 1 ∨ 3652060 < f + xs.length
  · exact walk_err 3 (by omega) xs f way A0 c (by omega) A w hE hr (fun w hE _ => months_day xs f way A0 c hw.1 hw.2 (by omega) h3 h4 _ w hE.v3) (fun w hr => (mo_any xs f way A0 c w hr).mono fun e w' h => ⟨(mo_at h).2.2.2.1 hw (by omega) h3 h4, h.1⟩)
  by_cases h5 : ∀ x ∈ xs, GdC x
  · refine walk_ok xs f way A0 c (by omega) w hr (fun w hr => (months_ok xs f way A0 c hc h3 ⟨hw.1, hw.2, by omega, by omega, by omega, h5⟩ w hr).mono fun e w' ⟨ps, A', c', a, b, d, _, g⟩ => ⟨ps, A', c', a, b, d, g⟩) (fun w hr => (mo_any xs f way A0 c w hr).mono fun e w' h => ?_)
    obtain ⟨ps, A', c', a, b, d⟩ := (mo_at h).2.2.2.2.2 hw (by omega) (.inr (by omega)) h5
    exact ⟨ps, A', c', a, b, d, h.1⟩
  · have h6 : ∃ x ∈ xs, ¬ GdC x := Classical.byContradiction fun h => h5 fun x hx => Classical.byContradiction fun hg => h ⟨x, hx, hg⟩
    have h7 : xs.any bad = true := by
      obtain ⟨x, hx, hg⟩ := h6
      rw [List.any_eq_true]
      refine ⟨x, hx, ?_⟩
      unfold GdC at hg
      unfold bad
      simp
      omega
    exact walk_err 2 (by omega) xs f way A0 c (by omega) A w hE hr (fun w hE hr => months_coin xs f way A0 c hw.1 hw.2 (by omega) h3 (by omega) (by omega) h7 _ w hr hE.v2) (fun w hr => (mo_any xs f way A0 c w hr).mono fun e w' h => ⟨(mo_at h).2.2.2.2.1 hw (by omega) (by omega) h6, h.1⟩)
end Go.Proofs.YtnbpdknmbjkfeaaDoor.SumsMonths

/- The law ScriptLess answers true: the walk of the law. -/
import Derived.Test.YtjnkcpeicocjhaaDoorLabM
namespace Go.Proofs.YtjnkcpeicocjhaaDoor.ScriptLess
open Go.RowKit Mem Lab

theorem two_ten : less (lab [50]) (lab [49, 48, 65]) = true := by
  have h1 : lab [50] = some (2, [], []) := lab_some ⟨[50], [], rfl, ⟨by simp, by simp, by simp, by simp⟩, .inl ⟨by simp [dig], by simp, by simp [val]⟩⟩
  have h2 : lab [49, 48, 65] = some (10, [], [65]) := lab_some ⟨[49, 48], [65], rfl, ⟨by simp, by simp, by simp, by simp [big]⟩, .inl ⟨by simp [dig], by simp, by simp [val]⟩⟩
  rw [h1, h2]
  decide
set_option maxRecDepth 100000 in
set_option maxHeartbeats 4000000 in
theorem walk (a b c : List UInt8) (w : World) (ha : a.length ≤ 9223372036854775807) (hb : b.length ≤ 9223372036854775807) (hc : c.length ≤ 9223372036854775807) :
    Calls Tryd.prog 6 #[.string ⟨a.toArray⟩, .string ⟨b.toArray⟩, .string ⟨c.toArray⟩] w fun e w' => e = .returned (.bool true) ∧ Below w.heap.size w w' := by
  have H0 := Lib.hid (less_any [50] [49, 48, 65] (by simp) (by simp) w)
  rw [two_ten] at H0
  go_enter Tryd.func6, Tryd.ntmps6
  go_wp2_with fail
  refine H0.out.mono ?_
  rintro e w1 ⟨rfl, hb1⟩
  have HB1 := Lib.hid hb1
  clear hb1 H0
  by_cases la : 3000 < a.length
  · have la2 : (3000 : Int) < (a.length : Int) := by omega
    go_wp2_with fail
    go_ret
    exact ⟨rfl, HB1.out⟩
  have la2 : ¬ (3000 : Int) < (a.length : Int) := by omega
  by_cases lb : 3000 < b.length
  · have lb2 : (3000 : Int) < (b.length : Int) := by omega
    go_wp2_with fail
    go_ret
    exact ⟨rfl, HB1.out⟩
  have lb2 : ¬ (3000 : Int) < (b.length : Int) := by omega
  by_cases lc : 3000 < c.length
  · have lc2 : (3000 : Int) < (c.length : Int) := by omega
    go_wp2_with fail
    go_ret
    exact ⟨rfl, HB1.out⟩
  have lc2 : ¬ (3000 : Int) < (c.length : Int) := by omega
  have HXY := Lib.hid (less_asymm (lab a) (lab b))
  have HTR := Lib.hid (fun h h' => less_trans (a := lab a) (b := lab b) (c := lab c) h h')
  have HTO := Lib.hid (fun (p q : Key) (h : lab a = some p) (h' : lab b = some q) => less_total h h')
  have C1 := Lib.hid (fun w => less_any a b (by omega) (by omega) w)
  have C2 := Lib.hid (fun w => less_any b a (by omega) (by omega) w)
  have C3 := Lib.hid (fun w => less_any b c (by omega) (by omega) w)
  have C4 := Lib.hid (fun w => less_any a c (by omega) (by omega) w)
  have C5 := Lib.hid (fun w => rless_any a b (by omega) (by omega) w)
  have C6 := Lib.hid (fun w => labelof_any a (by omega) w)
  have C7 := Lib.hid (fun w => labelof_any b (by omega) w)
  generalize hx : less (lab a) (lab b) = x at *
  generalize hy : less (lab b) (lab a) = y at *
  generalize hz : less (lab b) (lab c) = z at *
  generalize hu : less (lab a) (lab c) = u at *
  clear hx hy hz hu la lb lc
  go_wp2_with fail
  refine (C1.out _).mono ?_
  rintro e w2 ⟨rfl, hb2⟩
  have HB2 := Lib.hid (ext_trans HB1.out hb2)
  clear hb2
  go_wp2_with fail
  refine (C2.out _).mono ?_
  rintro e w3 ⟨rfl, hb3⟩
  have HB3 := Lib.hid (ext_trans HB2.out hb3)
  clear hb3
  go_wp2_with fail
  refine (C3.out _).mono ?_
  rintro e w4 ⟨rfl, hb4⟩
  have HB4 := Lib.hid (ext_trans HB3.out hb4)
  clear hb4
  go_wp2_with fail
  refine (C4.out _).mono ?_
  rintro e w5 ⟨rfl, hb5⟩
  have HB5 := Lib.hid (ext_trans HB4.out hb5)
  clear hb5
  go_wp2_with fail
  refine (C5.out _).mono ?_
  rintro e w6 ⟨rfl, hb6⟩
  have HB6 := Lib.hid (ext_trans HB5.out hb6)
  clear hb6
  have hxx : (x != x) = false := by simp
  have hxy : ¬ (x = true ∧ y = true) := HXY.out
  have htr : x = true → z = true → u = true := HTR.out
  have go_on : ∀ (x y z u : Bool), ¬ (x = true ∧ y = true) → (x = true → z = true → u = true) → (x = false ∨ (y = false ∧ (z = false ∨ u = true))) := by decide
  have hg := go_on x y z u hxy htr
  clear hxy htr go_on HXY HTR C1 C2 C3 C4 C5
  cases x
  · cases y
    · clear hg
      go_wp2_with fail
      refine (C6.out _).mono ?_
      rintro e w7 ⟨ok1, n1, lo1, hi1, rfl, hb7, k1⟩
      have HB7 := Lib.hid (ext_trans (ext_trans HB6.out hb7) (ext_alloc w7 (.cells #[.int .i64 n1, .string ⟨lo1.toArray⟩, .string ⟨hi1.toArray⟩] 91)))
      clear hb7
      go_wp2_with fail
      refine (C7.out _).mono ?_
      rintro e w8 ⟨ok2, n2, lo2, hi2, rfl, hb8, k2⟩
      have HB8 := Lib.hid (ext_trans (ext_trans HB7.out hb8) (ext_alloc w8 (.cells #[.int .i64 n2, .string ⟨lo2.toArray⟩, .string ⟨hi2.toArray⟩] 91)))
      clear hb8
      rcases k1 with ⟨rfl, k1⟩ | ⟨rfl, k1⟩
      · rcases k2 with ⟨rfl, k2⟩ | ⟨rfl, k2⟩
        · have hab : a = b := HTO.out _ _ k1 k2 (by simp) (by simp)
          subst hab
          have hq : (a == a) = true := by simp
          clear k1 k2 HTO C6 C7
          go_wp2_with fail
          go_ret
          exact ⟨by first | rfl | simp, HB8.out⟩
        · clear k1 k2
          go_wp2_with fail
          go_ret
          exact ⟨by first | rfl | simp, HB8.out⟩
      · clear k1 k2
        go_wp2_with fail
        go_ret
        exact ⟨by first | rfl | simp, HB8.out⟩
    · clear hg
      go_wp2_with fail
      refine (C6.out _).mono ?_
      rintro e w7 ⟨ok1, n1, lo1, hi1, rfl, hb7, k1⟩
      have HB7 := Lib.hid (ext_trans (ext_trans HB6.out hb7) (ext_alloc w7 (.cells #[.int .i64 n1, .string ⟨lo1.toArray⟩, .string ⟨hi1.toArray⟩] 91)))
      clear hb7
      go_wp2_with fail
      refine (C7.out _).mono ?_
      rintro e w8 ⟨ok2, n2, lo2, hi2, rfl, hb8, k2⟩
      have HB8 := Lib.hid (ext_trans (ext_trans HB7.out hb8) (ext_alloc w8 (.cells #[.int .i64 n2, .string ⟨lo2.toArray⟩, .string ⟨hi2.toArray⟩] 91)))
      clear hb8
      clear k1 k2 HTO C6 C7
      obtain ⟨q, hq⟩ : ∃ q, (a == b) = q := ⟨_, rfl⟩
      cases ok1 <;> cases ok2 <;> cases q <;> (go_wp2_with fail; go_ret; exact ⟨by first | rfl | simp, HB8.out⟩)
  · obtain ⟨rfl, hg⟩ : y = false ∧ (z = false ∨ u = true) := by simpa using hg
    cases z
    · clear hg
      go_wp2_with fail
      refine (C6.out _).mono ?_
      rintro e w7 ⟨ok1, n1, lo1, hi1, rfl, hb7, k1⟩
      have HB7 := Lib.hid (ext_trans (ext_trans HB6.out hb7) (ext_alloc w7 (.cells #[.int .i64 n1, .string ⟨lo1.toArray⟩, .string ⟨hi1.toArray⟩] 91)))
      clear hb7
      go_wp2_with fail
      refine (C7.out _).mono ?_
      rintro e w8 ⟨ok2, n2, lo2, hi2, rfl, hb8, k2⟩
      have HB8 := Lib.hid (ext_trans (ext_trans HB7.out hb8) (ext_alloc w8 (.cells #[.int .i64 n2, .string ⟨lo2.toArray⟩, .string ⟨hi2.toArray⟩] 91)))
      clear hb8
      clear k1 k2 HTO C6 C7
      obtain ⟨q, hq⟩ : ∃ q, (a == b) = q := ⟨_, rfl⟩
      cases ok1 <;> cases ok2 <;> cases q <;> (go_wp2_with fail; go_ret; exact ⟨by first | rfl | simp, HB8.out⟩)
    · obtain rfl : u = true := by simpa using hg
      clear hg
      go_wp2_with fail
      refine (C6.out _).mono ?_
      rintro e w7 ⟨ok1, n1, lo1, hi1, rfl, hb7, k1⟩
      have HB7 := Lib.hid (ext_trans (ext_trans HB6.out hb7) (ext_alloc w7 (.cells #[.int .i64 n1, .string ⟨lo1.toArray⟩, .string ⟨hi1.toArray⟩] 91)))
      clear hb7
      go_wp2_with fail
      refine (C7.out _).mono ?_
      rintro e w8 ⟨ok2, n2, lo2, hi2, rfl, hb8, k2⟩
      have HB8 := Lib.hid (ext_trans (ext_trans HB7.out hb8) (ext_alloc w8 (.cells #[.int .i64 n2, .string ⟨lo2.toArray⟩, .string ⟨hi2.toArray⟩] 91)))
      clear hb8
      clear k1 k2 HTO C6 C7
      obtain ⟨q, hq⟩ : ∃ q, (a == b) = q := ⟨_, rfl⟩
      cases ok1 <;> cases ok2 <;> cases q <;> (go_wp2_with fail; go_ret; exact ⟨by first | rfl | simp, HB8.out⟩)
end Go.Proofs.YtjnkcpeicocjhaaDoor.ScriptLess

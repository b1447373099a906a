/- The document's LessLabel walked. -/
import Derived.Test.YtjnkcpeicocjhaaDoorLabR
import Derived.Test.YtjnkcpeicocjhaaDoorLabL
import Derived.Laws.Cover1
namespace Go.Proofs.YtjnkcpeicocjhaaDoor.Lab
open Go.RowKit Go.Sort Mem

def shr (a b : List UInt8) : Int := if a.length ≠ b.length then (if a.length < b.length then -1 else 1) else if a < b then -1 else if a = b then 0 else 1
theorem shorter_any (a b : List UInt8) (w : World) : Calls Tryd.prog 61 #[.string ⟨a.toArray⟩, .string ⟨b.toArray⟩] w fun e w' => e = .returned (.int .i64 (shr a b)) ∧ w = w' := by
  obtain ⟨R, hR⟩ : ∃ R, R = shr a b := ⟨_, rfl⟩
  rw [← hR]
  have HR := Lib.hid hR
  clear hR
  by_cases h1 : a.length = b.length
  · have q1 : ((a.length : Int) == (b.length : Int)) = true := by rw [h1]; simp
    have q1n : (a.length : Int) = (b.length : Int) := by omega
    by_cases h2 : a < b
    · have e : R = -1 := by rw [HR.out]; simp [shr, h1, h2]
      have q2 : Op.bytesLess a b = true := by rw [bytesLess_eq]; simpa using h2
      subst e
      go_enter Tryd.func61, Tryd.ntmps61
      go_wp2_with fail
      go_ret
      exact ⟨by first | trivial | rfl, by first | trivial | rfl⟩
    · have q2 : Op.bytesLess a b = false := by rw [bytesLess_eq]; simpa using h2
      by_cases h3 : a = b
      · have e : R = 0 := by rw [HR.out]; subst h3; simp [shr, h2]
        subst e
        subst h3
        have q3 : (a == a) = true := by simp
        clear h1 q1 q1n
        go_enter Tryd.func61, Tryd.ntmps61
        go_wp2_with fail
        go_ret
        exact ⟨by first | trivial | rfl, by first | trivial | rfl⟩
      · have e : R = 1 := by rw [HR.out]; simp [shr, h1, h2, h3]
        subst e
        have q3 : (a == b) = false := by simp [h3]
        go_enter Tryd.func61, Tryd.ntmps61
        go_wp2_with fail
        go_ret
        exact ⟨by first | trivial | rfl, by first | trivial | rfl⟩
  · have q1 : ((a.length : Int) == (b.length : Int)) = false := by rw [beq_eq_false_iff_ne]; omega
    have q1n : ¬ (a.length : Int) = (b.length : Int) := by omega
    by_cases h2 : a.length < b.length
    · have q2 : (a.length : Int) < (b.length : Int) := by omega
      have e : R = -1 := by rw [HR.out]; simp [shr, h1, h2]
      subst e
      go_enter Tryd.func61, Tryd.ntmps61
      go_wp2_with fail
      go_ret
      exact ⟨by first | trivial | rfl, by first | trivial | rfl⟩
    · have q2 : ¬ (a.length : Int) < (b.length : Int) := by omega
      have e : R = 1 := by rw [HR.out]; simp [shr, h1, h2]
      subst e
      go_enter Tryd.func61, Tryd.ntmps61
      go_wp2_with fail
      go_ret
      exact ⟨by first | trivial | rfl, by first | trivial | rfl⟩
theorem shr_zero (a b : List UInt8) : shr a b = 0 ↔ a = b := by
  unfold shr
  by_cases h1 : a.length = b.length
  · by_cases h2 : a < b
    · have h3 : a ≠ b := fun e => by subst e; exact lt_irrefl' _ h2
      simp [h1, h2, h3]
    · by_cases h3 : a = b <;> simp [h1, h2, h3]
  · have h3 : a ≠ b := fun e => h1 (by rw [e])
    by_cases h2 : a.length < b.length <;> simp [h1, h2, h3]
theorem shr_neg (a b : List UInt8) : decide (shr a b < 0) = (if a.length ≠ b.length then decide (a.length < b.length) else decide (a < b)) := by
  unfold shr
  by_cases h1 : a.length = b.length
  · by_cases h2 : a < b
    · simp [h1, h2]
    · by_cases h3 : a = b
      · subst h3
        simp [lt_irrefl']
      · simp [h1, h2, h3]
  · by_cases h2 : a.length < b.length <;> simp [h1, h2]
theorem key_eq (n : Int) (lo hi lo2 hi2 : List UInt8) : keyLess (n, lo, hi) (n, lo2, hi2) = (if shr lo lo2 = 0 then decide (shr hi hi2 < 0) else decide (shr lo lo2 < 0)) := by
  rw [shr_neg, shr_neg]
  simp only [shr_zero]
  unfold keyLess
  simp only
  by_cases h : lo = lo2
  · subst h
    simp
  · by_cases h1 : lo.length = lo2.length <;> simp [h, h1]
set_option maxRecDepth 100000 in
set_option maxHeartbeats 4000000 in
theorem rless_any (l m : List UInt8) (hl : l.length ≤ 1000000) (hm : m.length ≤ 1000000) (w : World) :
    Calls Tryd.prog 33 #[.string ⟨l.toArray⟩, .string ⟨m.toArray⟩] w fun e w' => e = .returned (.bool (less (lab l) (lab m))) ∧ Below w.heap.size w w' := by
  obtain ⟨R, hR⟩ : ∃ R, R = less (lab l) (lab m) := ⟨_, rfl⟩
  rw [← hR]
  have HR := Lib.hid hR
  clear hR
  go_enter Tryd.func33, Tryd.ntmps33
  go_wp2_with fail
  refine (labelof_any l hl _).mono ?_
  rintro e w1 ⟨ok1, n, lo, hi, rfl, hb1, h1⟩
  have HB1 := Lib.hid (ext_trans hb1 (ext_alloc w1 (.cells #[.int .i64 n, .string ⟨lo.toArray⟩, .string ⟨hi.toArray⟩] 91)))
  have HX := Lib.hid (Nest.Blk.new w1 91 [.int .i64 n, .string ⟨lo.toArray⟩, .string ⟨hi.toArray⟩])
  clear hb1
  go_wp2_with fail
  refine (labelof_any m hm _).mono ?_
  rintro e w2 ⟨ok2, n2, lo2, hi2, rfl, hb2, h2⟩
  have hal := ext_alloc w2 (.cells #[.int .i64 n2, .string ⟨lo2.toArray⟩, .string ⟨hi2.toArray⟩] 91)
  have HB2 := Lib.hid (ext_trans (ext_trans HB1.out hb2) hal)
  have HX2 := Lib.hid (Sol.blk_ext (Sol.blk_ext HX.out hb2) hal)
  have HY2 := Lib.hid (Nest.Blk.new w2 91 [.int .i64 n2, .string ⟨lo2.toArray⟩, .string ⟨hi2.toArray⟩])
  clear hb2 hal
  rcases h1 with ⟨rfl, h1⟩ | ⟨rfl, h1⟩
  · rcases h2 with ⟨rfl, h2⟩ | ⟨rfl, h2⟩
    · have HK := Lib.hid (show R = keyLess (n, lo, hi) (n2, lo2, hi2) by rw [HR.out, h1, h2]; rfl)
      have b1 := (lab_of h1).bd
      have b2 := (lab_of h2).bd
      simp only at b1 b2
      obtain ⟨b11, b12, _⟩ := b1
      obtain ⟨b21, b22, _⟩ := b2
      have x0 := HX2.out.cell 0 rfl
      have x1 := HX2.out.cell 1 rfl
      have x2 := HX2.out.cell 2 rfl
      have y0 := HY2.out.cell 0 rfl
      have y1 := HY2.out.cell 1 rfl
      have y2 := HY2.out.cell 2 rfl
      clear h1 h2
      by_cases p1 : 0 < n
      · by_cases p2 : 0 < n2
        · have q2 : (n2 == 0) = false := by rw [beq_eq_false_iff_ne]; omega
          have q1 : (n == 0) = false := by rw [beq_eq_false_iff_ne]; omega
          have e1 : decide (0 < n) = true := by simp [p1]
          have e2 : decide (0 < n2) = true := by simp [p2]
          by_cases p3 : n = n2
          · subst p3
            have q3 : (n != n) = false := by simp
            have HKE := Lib.hid (HK.out.trans (key_eq _ lo hi lo2 hi2))
            have HSL := Lib.hid (shorter_any lo lo2)
            have HSH := Lib.hid (shorter_any hi hi2)
            go_wp2_with fail
            refine (HSL.out _).mono ?_
            rintro e w' ⟨rfl, rfl⟩
            generalize shr lo lo2 = c at *
            generalize shr hi hi2 = d at *
            by_cases hc : c = 0
            · have hcb : (c == 0) = true := by simp [hc]
              have HRd := Lib.hid (show R = decide (d < 0) by rw [HKE.out, if_pos hc])
              clear HKE
              subst hc
              go_wp2_with fail
              refine (HSH.out _).mono ?_
              rintro e w' ⟨rfl, rfl⟩
              go_wp2_with fail
              go_ret
              exact ⟨by rw [HRd.out]; rfl, HB2.out⟩
            · have hcb : (c == 0) = false := by simp [hc]
              have HRc := Lib.hid (show R = decide (c < 0) by rw [HKE.out, if_neg hc])
              go_wp2_with fail
              go_ret
              exact ⟨by rw [HRc.out]; rfl, HB2.out⟩
          · have q3 : (n != n2) = true := by simp [p3]
            go_wp2_with fail
            go_ret
            exact ⟨by rw [HK.out]; unfold keyLess; simp only [e1, e2]; simp [p3], HB2.out⟩
        · obtain rfl : n2 = 0 := by omega
          have e1 : decide (0 < n) = true := by simp [p1]
          go_wp2_with fail
          go_ret
          exact ⟨by rw [HK.out]; unfold keyLess; simp only [e1]; simp, HB2.out⟩
      · obtain rfl : n = 0 := by omega
        by_cases p2 : 0 < n2
        · have e2 : decide (0 < n2) = true := by simp [p2]
          go_wp2_with fail
          go_ret
          exact ⟨by rw [HK.out]; unfold keyLess; simp only [e2]; simp, HB2.out⟩
        · obtain rfl : n2 = 0 := by omega
          have HKE := Lib.hid (HK.out.trans (key_eq _ lo hi lo2 hi2))
          have HSL := Lib.hid (shorter_any lo lo2)
          have HSH := Lib.hid (shorter_any hi hi2)
          go_wp2_with fail
          refine (HSL.out _).mono ?_
          rintro e w' ⟨rfl, rfl⟩
          generalize shr lo lo2 = c at *
          generalize shr hi hi2 = d at *
          by_cases hc : c = 0
          · have hcb : (c == 0) = true := by simp [hc]
            have HRd := Lib.hid (show R = decide (d < 0) by rw [HKE.out, if_pos hc])
            clear HKE
            subst hc
            go_wp2_with fail
            refine (HSH.out _).mono ?_
            rintro e w' ⟨rfl, rfl⟩
            go_wp2_with fail
            go_ret
            exact ⟨by rw [HRd.out]; rfl, HB2.out⟩
          · have hcb : (c == 0) = false := by simp [hc]
            have HRc := Lib.hid (show R = decide (c < 0) by rw [HKE.out, if_neg hc])
            go_wp2_with fail
            go_ret
            exact ⟨by rw [HRc.out]; rfl, HB2.out⟩
    · obtain rfl : R = false := by rw [HR.out, h1, h2]; rfl
      clear h1 h2
      go_wp2_with fail
      go_ret
      exact ⟨rfl, HB2.out⟩
  · obtain rfl : R = false := by rw [HR.out, h1]; rfl
    clear h1 h2
    go_wp2_with fail
    go_ret
    exact ⟨rfl, HB2.out⟩
end Go.Proofs.YtjnkcpeicocjhaaDoor.Lab

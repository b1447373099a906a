/- script.Less walked. -/
import Derived.Test.YtjnkcpeicocjhaaDoorLabW2
namespace Go.Proofs.YtjnkcpeicocjhaaDoor.Lab
open Go.RowKit Go.Sort Mem

set_option maxRecDepth 100000 in
set_option maxHeartbeats 4000000 in
theorem less_any (l m : List UInt8) (hl : l.length ≤ 1000000) (hm : m.length ≤ 1000000) (w : World) :
    Calls Tryd.prog 32 #[.string ⟨l.toArray⟩, .string ⟨m.toArray⟩] w fun e w' => e = .returned (.bool (less (lab l) (lab m))) ∧ Below w.heap.size w w' := by
  obtain ⟨R, hR⟩ : ∃ R, R = less (lab l) (lab m) := ⟨_, rfl⟩
  rw [← hR]
  have HR := Lib.hid hR
  clear hR
  go_enter Tryd.func32, Tryd.ntmps32
  go_wp2_with fail
  refine (label_any l hl _).mono ?_
  rintro e w1 ⟨ok1, n, lo, hi, rfl, hb1, h1⟩
  have HB1 := Lib.hid hb1
  clear hb1
  go_wp2_with fail
  refine (label_any m hm _).mono ?_
  rintro e w2 ⟨ok2, n2, lo2, hi2, rfl, hb2, h2⟩
  have HB2 := Lib.hid (ext_trans HB1.out hb2)
  clear hb2
  rcases h1 with ⟨rfl, h1⟩ | ⟨rfl, h1⟩
  · rcases h2 with ⟨rfl, h2⟩ | ⟨rfl, h2⟩
    · have HK := Lib.hid (show R = keyLess (n, lo, hi) (n2, lo2, hi2) by rw [HR.out, h1, h2]; rfl)
      have b1 := (lab_of h1).bd
      have b2 := (lab_of h2).bd
      simp only at b1 b2
      obtain ⟨b11, b12, b13, b14⟩ := b1
      obtain ⟨b21, b22, b23, b24⟩ := b2
      have c13 : (lo.length : Int) ≤ 4 := by omega
      have c23 : (lo2.length : Int) ≤ 4 := by omega
      have c14 : (hi.length : Int) ≤ 2 := by omega
      have c24 : (hi2.length : Int) ≤ 2 := by omega
      clear h1 h2
      by_cases p1 : 0 < n
      · have e1 : decide (0 < n) = true := by simp [p1]
        by_cases p2 : 0 < n2
        · have e2 : decide (0 < n2) = true := by simp [p2]
          by_cases p3 : n = n2
          · subst p3
            have q3 : (n == n) = true := by simp
            by_cases p4 : lo.length = lo2.length
            · have q4 : ((lo.length : Int) == (lo2.length : Int)) = true := by rw [p4]; simp
              have q4n : (lo.length : Int) = (lo2.length : Int) := by omega
              by_cases p5 : lo = lo2
              · subst p5
                have q5 : (lo == lo) = true := by simp
                by_cases p6 : hi.length = hi2.length
                · have q6 : ((hi.length : Int) == (hi2.length : Int)) = true := by rw [p6]; simp
                  have q6n : (hi.length : Int) = (hi2.length : Int) := by omega
                  have q7 := bytesLess_eq hi hi2
                  go_wp2_with fail
                  go_ret
                  exact ⟨by rw [HK.out]; simp [keyLess, p6], HB2.out⟩
                · have q6 : ((hi.length : Int) == (hi2.length : Int)) = false := by rw [beq_eq_false_iff_ne]; omega
                  have q6n : ¬ (hi.length : Int) = (hi2.length : Int) := by omega
                  go_wp2_with fail
                  go_ret
                  exact ⟨by rw [HK.out]; simp [keyLess, p6], HB2.out⟩
              · have q5 : (lo == lo2) = false := by rw [beq_eq_false_iff_ne]; exact p5
                have q7 := bytesLess_eq lo lo2
                go_wp2_with fail
                go_ret
                exact ⟨by rw [HK.out]; simp [keyLess, p4, p5], HB2.out⟩
            · have q4 : ((lo.length : Int) == (lo2.length : Int)) = false := by rw [beq_eq_false_iff_ne]; omega
              have q4n : ¬ (lo.length : Int) = (lo2.length : Int) := by omega
              go_wp2_with fail
              go_ret
              exact ⟨by rw [HK.out]; simp [keyLess, p4], HB2.out⟩
          · have q3 : (n == n2) = false := by rw [beq_eq_false_iff_ne]; exact p3
            have q3' : (n != n2) = true := by simp [p3]
            go_wp2_with fail
            go_ret
            exact ⟨by rw [HK.out]; unfold keyLess; simp only [e1, e2]; simp [p3], HB2.out⟩
        · have e2 : decide (0 < n2) = false := by simp [p2]
          go_wp2_with fail
          go_ret
          exact ⟨by rw [HK.out]; simp [keyLess, p1, p2], HB2.out⟩
      · have e1 : decide (0 < n) = false := by simp [p1]
        by_cases p2 : 0 < n2
        · have e2 : decide (0 < n2) = true := by simp [p2]
          go_wp2_with fail
          go_ret
          exact ⟨by rw [HK.out]; simp [keyLess, p1, p2], HB2.out⟩
        · have e2 : decide (0 < n2) = false := by simp [p2]
          by_cases p3 : n = n2
          · subst p3
            have q3 : (n == n) = true := by simp
            by_cases p4 : lo.length = lo2.length
            · have q4 : ((lo.length : Int) == (lo2.length : Int)) = true := by rw [p4]; simp
              have q4n : (lo.length : Int) = (lo2.length : Int) := by omega
              by_cases p5 : lo = lo2
              · subst p5
                have q5 : (lo == lo) = true := by simp
                by_cases p6 : hi.length = hi2.length
                · have q6 : ((hi.length : Int) == (hi2.length : Int)) = true := by rw [p6]; simp
                  have q6n : (hi.length : Int) = (hi2.length : Int) := by omega
                  have q7 := bytesLess_eq hi hi2
                  go_wp2_with fail
                  go_ret
                  exact ⟨by rw [HK.out]; simp [keyLess, p6], HB2.out⟩
                · have q6 : ((hi.length : Int) == (hi2.length : Int)) = false := by rw [beq_eq_false_iff_ne]; omega
                  have q6n : ¬ (hi.length : Int) = (hi2.length : Int) := by omega
                  go_wp2_with fail
                  go_ret
                  exact ⟨by rw [HK.out]; simp [keyLess, p6], HB2.out⟩
              · have q5 : (lo == lo2) = false := by rw [beq_eq_false_iff_ne]; exact p5
                have q7 := bytesLess_eq lo lo2
                go_wp2_with fail
                go_ret
                exact ⟨by rw [HK.out]; simp [keyLess, p4, p5], HB2.out⟩
            · have q4 : ((lo.length : Int) == (lo2.length : Int)) = false := by rw [beq_eq_false_iff_ne]; omega
              have q4n : ¬ (lo.length : Int) = (lo2.length : Int) := by omega
              go_wp2_with fail
              go_ret
              exact ⟨by rw [HK.out]; simp [keyLess, p4], HB2.out⟩
          · have q3 : (n == n2) = false := by rw [beq_eq_false_iff_ne]; exact p3
            have q3' : (n != n2) = true := by simp [p3]
            go_wp2_with fail
            go_ret
            exact ⟨by rw [HK.out]; unfold keyLess; simp only [e1, e2]; simp [p3], HB2.out⟩
    · obtain rfl : R = false := by rw [HR.out, h1, h2]; rfl
      clear h1 h2
      go_wp2_with fail
      go_ret
      exact ⟨rfl, HB2.out⟩
  · obtain rfl : R = false := by rw [HR.out, h1]; rfl
    clear h1 h2
    go_wp2_with fail
    go_ret
    exact ⟨rfl, HB2.out⟩
end Go.Proofs.YtjnkcpeicocjhaaDoor.Lab

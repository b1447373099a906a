/- Facts: small functions of both sides that only test: letters, words, people, amounts, days. -/
import Derived.Test.YtdnhfcphmbhloaaGreatDoorFkP
import Derived.Test.YtdnhfcphmbhloaaGreatDoorErr
import Derived.Test.YtdnhfcphmbhloaaGreatDoorNest
import Derived.WalkKit
import Derived.WalkSpells
import Derived.WalkSmall
import Derived.BigQuiet
namespace Go.Proofs.YtdnhfcphmbhloaaGreatDoor.Fk
open Go.RowKit Mem Nest

def smallI (n : Int) : Bool := decide (97 ≤ n ∧ n ≤ 122)
def digitI (n : Int) : Bool := decide (48 ≤ n ∧ n ≤ 57)
def inI (n : Int) : Bool := smallI n || digitI n || n == 95
def inW (c : UInt8) : Bool := inI (c.toNat : Int)
def wordB : List UInt8 → Bool
  | [] => false
  | c :: t => decide ((c :: t).length ≤ 24) && smallI (c.toNat : Int) && t.all inW
def bodyB (n : Int) : Bool := decide (0 ≤ n ∧ n < 40)
def coinB (n : Int) : Bool := decide (-1000000000000 ≤ n ∧ n ≤ 1000000000000)
def dayB (n : Int) : Bool := decide (1 ≤ n ∧ n ≤ 3652059)
def RetB (b : Bool) (w : World) (e : Ending) (w' : World) : Prop := e = .returned (.bool b) ∧ w = w'
theorem retb {a b : Bool} (w : World) (h : a = b) : RetB b w (.returned (.bool a)) w := ⟨by rw [h], rfl⟩

theorem small_any (n : Int) (w : World) : Calls Tryz.prog 92 #[.int .u8 n] w (RetB (smallI n) w) := by
  by_cases h1 : 97 ≤ n <;> by_cases h2 : n ≤ 122
  all_goals
    go_enter Tryz.func92, Tryz.ntmps92
    go_wp2_with fail
    go_ret
    all_goals exact retb _ (by simp [smallI]; try omega)
theorem digit_any (n : Int) (w : World) : Calls Tryz.prog 93 #[.int .u8 n] w (RetB (digitI n) w) := by
  by_cases h1 : 48 ≤ n <;> by_cases h2 : n ≤ 57
  all_goals
    go_enter Tryz.func93, Tryz.ntmps93
    go_wp2_with fail
    go_ret
    all_goals exact retb _ (by simp [digitI]; try omega)
theorem low_any (n : Int) (w : World) : Calls Tryz.prog 94 #[.int .u8 n] w (RetB (smallI n) w) := by
  by_cases h1 : 97 ≤ n <;> by_cases h2 : n ≤ 122
  all_goals
    go_enter Tryz.func94, Tryz.ntmps94
    go_wp2_with fail
    go_ret
    all_goals exact retb _ (by simp [smallI]; try omega)
theorem coin_any (n : Int) (w : World) : Calls Tryz.prog 46 #[.int .i64 n] w (RetB (coinB n) w) := by
  by_cases h1 : -1000000000000 ≤ n <;> by_cases h2 : n ≤ 1000000000000
  all_goals
    go_enter Tryz.func46, Tryz.ntmps46
    go_wp2_with fail
    go_ret
    all_goals exact retb _ (by simp [coinB]; try omega)
theorem rsmall_any (n : Int) (w : World) : Calls Tryz.prog 51 #[.int .i64 n] w (RetB (coinB n) w) := by
  by_cases h1 : -1000000000000 ≤ n <;> by_cases h2 : n ≤ 1000000000000
  all_goals
    go_enter Tryz.func51, Tryz.ntmps51
    go_wp2_with fail
    go_ret
    all_goals exact retb _ (by simp [coinB]; try omega)
theorem day_any (n : Int) (w : World) : Calls Tryz.prog 41 #[.int .i64 n] w (RetB (dayB n) w) := by
  by_cases h1 : 1 ≤ n <;> by_cases h2 : n ≤ 3652059
  all_goals
    go_enter Tryz.func41, Tryz.ntmps41
    go_wp2_with fail
    go_ret
    all_goals exact retb _ (by simp [dayB]; try omega)
theorem isday_any (n : Int) (w : World) : Calls Tryz.prog 48 #[.int .i64 n] w (RetB (dayB n) w) := by
  by_cases h1 : 1 ≤ n
  · by_cases h2 : n ≤ 3652059
    all_goals
      go_enter Tryz.func48, Tryz.ntmps48
      go_wp2_with fail
      go_ret
      all_goals exact retb _ (by simp [dayB]; try omega)
  · have h2 : n ≤ 3652059 := by omega
    go_enter Tryz.func48, Tryz.ntmps48
    go_wp2_with fail
    go_ret
    all_goals exact retb _ (by simp [dayB]; try omega)
theorem word_all {s : List UInt8} (hlp : 0 < s.length) (h24 : s.length ≤ 24) (h0 : smallI (s[0].toNat : Int) = true) (h : ∀ j (h : j < s.length), inW s[j] = true) : wordB s = true := by
  cases s with
  | nil => simp at hlp
  | cons c t =>
    rw [wordB]
    rw [decide_eq_true h24]
    simp only [List.getElem_cons_zero] at h0
    rw [h0]
    simp only [Bool.true_and, List.all_eq_true]
    intro x hx
    obtain ⟨j, hj, e⟩ := List.getElem_of_mem hx
    have := h (j + 1) (by simp; omega)
    simpa [e] using this
theorem word_len {s : List UInt8} (h : s.length = 0 ∨ 24 < s.length) : wordB s = false := by
  cases s with
  | nil => rfl
  | cons c t =>
    rw [wordB]
    rw [decide_eq_false (by simp at h ⊢; omega)]
    rfl
theorem word_first {s : List UInt8} (hlp : 0 < s.length) (h0 : smallI (s[0].toNat : Int) = false) : wordB s = false := by
  cases s with
  | nil => rfl
  | cons c t =>
    rw [wordB]
    simp only [List.getElem_cons_zero] at h0
    rw [h0]
    simp
theorem word_bad {s : List UInt8} {j : Nat} (hj : j < s.length) (h : inW s[j] = false) : wordB s = false := by
  cases s with
  | nil => rfl
  | cons c t =>
    cases j with
    | zero =>
      simp only [List.getElem_cons_zero] at h
      have : smallI (c.toNat : Int) = false := by
        unfold inW inI at h
        simp only [Bool.or_eq_false_iff] at h
        exact h.1.1
      rw [wordB]
      rw [this]
      simp
    | succ j =>
      simp only [List.getElem_cons_succ] at h
      have : t.all inW = false := by
        rw [Bool.eq_false_iff]
        intro hh
        rw [List.all_eq_true] at hh
        rw [hh _ (List.getElem_mem (by simpa using hj))] at h
        cases h
      rw [wordB]
      rw [this]
      simp
theorem in_small {n : Int} (h : smallI n = true) : inI n = true := by unfold inI; rw [h]; rfl
theorem in_digit {n : Int} (h : digitI n = true) : inI n = true := by unfold inI; rw [h]; simp
theorem in_under {n : Int} (h : n = 95) : inI n = true := by unfold inI; simp [h]
theorem in_no {n : Int} (h1 : smallI n = false) (h2 : digitI n = false) (h3 : ¬ n = 95) : inI n = false := by unfold inI; rw [h1, h2]; simp [h3]
set_option maxRecDepth 20000 in
set_option maxHeartbeats 1000000 in
theorem pword_any (s : List UInt8) (hl : s.length ≤ 9223372036854775807) (w : World) : Calls Tryz.prog 45 #[.string ⟨s.toArray⟩] w (RetB (wordB s) w) := by
  by_cases h0 : s = []
  · subst h0
    go_enter Tryz.func45, Tryz.ntmps45
    go_wp2_with fail
    go_ret
    exact retb _ rfl
  · have he : s.isEmpty = false := by cases s with
      | nil => exact absurd rfl h0
      | cons _ _ => rfl
    have hlp : 0 < s.length := by cases s with
      | nil => exact absurd rfl h0
      | cons _ _ => simp
    clear h0
    by_cases h24 : 24 < s.length
    · have h24c : (24 : Int) < (s.length : Int) := by omega
      go_enter Tryz.func45, Tryz.ntmps45
      go_wp2_with fail
      go_ret
      exact retb _ (word_len (.inr h24)).symm
    · have h24c : ¬ (24 : Int) < (s.length : Int) := by omega
      have hsz : 0 < (ByteArray.mk s.toArray).size := hlp
      have hlpc : (0 : Int) < (s.length : Int) := by omega
      obtain ⟨c, hc⟩ : ∃ c : Int, (((ByteArray.mk s.toArray)[0]'hsz).toNat : Int) = c := ⟨_, rfl⟩
      have HC := Lib.hid (show (s[0].toNat : Int) = c from hc)
      go_enter Tryz.func45, Tryz.ntmps45
      go_wp2_with fail
      refine (small_any c _).mono ?_
      obtain ⟨b, hb⟩ : ∃ b, b = smallI c := ⟨_, rfl⟩
      rw [← hb]
      have HBs := Lib.hid hb
      clear hb
      rintro e w1 ⟨rfl, rfl⟩
      cases b with
      | false =>
        go_wp2_with fail
        go_ret
        exact retb _ (word_first hlp (by rw [HC.out]; exact HBs.out.symm)).symm
      | true =>
        clear hc
        go_wp2_with fail
        go_loop [19] (fun t19 => ∃ k : Nat, t19 = .int .i64 k ∧ k ≤ s.length ∧ Hid (∀ j (h : j < s.length), j < k → inW s[j] = true)) (fun t19 => s.length - (intOf t19).toNat)
        case atStart => exact ⟨0, rfl, Nat.zero_le _, fun j h hj => absurd hj (by omega)⟩
        case round =>
          obtain ⟨k, rfl, hk, HL⟩ := hrel
          by_cases hkl : k < s.length
          · have hkc : (k : Int) < (s.length : Int) := by omega
            have hsz : k < (ByteArray.mk s.toArray).size := hkl
            obtain ⟨c2, hc2⟩ : ∃ c : Int, (((ByteArray.mk s.toArray)[k]'hsz).toNat : Int) = c := ⟨_, rfl⟩
            have HC2 := Lib.hid (show (s[k].toNat : Int) = c2 from hc2)
            have HK := Lib.hid (fun (hl : inI c2 = true) j (h : j < s.length) (hj : j < k + 1) => by
              by_cases e : j = k
              · subst e; show inI (s[j].toNat : Int) = true; rw [HC2.out]; exact hl
              · exact HL.out j h (by omega) : inI c2 = true → ∀ j (h : j < s.length), j < k + 1 → inW s[j] = true)
            have HN := Lib.hid (fun (hl : inI c2 = false) => word_bad hkl (show inI (s[k].toNat : Int) = false by rw [HC2.out]; exact hl))
            go_wp2_with fail
            refine (small_any c2 _).mono ?_
            obtain ⟨b, hb⟩ : ∃ b, b = smallI c2 := ⟨_, rfl⟩
            rw [← hb]
            have HS2 := Lib.hid hb
            clear hb
            rintro e w1 ⟨rfl, rfl⟩
            cases b with
            | true =>
              go_wp2_with fail
              go_round
              case rel => exact ⟨k + 1, by go_num, by omega, HK.out (in_small HS2.out.symm)⟩
              case measure => simp [intOf]; omega
            | false =>
              go_wp2_with fail
              refine (digit_any c2 _).mono ?_
              obtain ⟨b, hb⟩ : ∃ b, b = digitI c2 := ⟨_, rfl⟩
              rw [← hb]
              have HD2 := Lib.hid hb
              clear hb
              rintro e w1 ⟨rfl, rfl⟩
              cases b with
              | true =>
                go_wp2_with fail
                go_round
                case rel => exact ⟨k + 1, by go_num, by omega, HK.out (in_digit HD2.out.symm)⟩
                case measure => simp [intOf]; omega
              | false =>
                by_cases h95 : c2 = 95
                · have hq : (c2 == 95) = true := by simp [h95]
                  have H95 := Lib.hid h95
                  clear h95
                  go_wp2_with fail
                  go_round
                  case rel => exact ⟨k + 1, by go_num, by omega, HK.out (in_under H95.out)⟩
                  case measure => simp [intOf]; omega
                · have hq : (c2 == 95) = false := by simp [h95]
                  have H95 := Lib.hid h95
                  clear h95
                  go_wp2_with fail
                  go_ret
                  exact retb _ (HN.out (in_no HS2.out.symm HD2.out.symm H95.out)).symm
          · obtain rfl : s.length = k := by omega
            have hkc : ¬ (s.length : Int) < (s.length : Int) := by omega
            go_wp2_with fail
            go_ret
            exact retb _ (word_all hlp (by omega) (by rw [HC.out]; exact HBs.out.symm) (fun j h => HL.out j h h)).symm
theorem inword_any (n : Int) (w : World) : Calls Tryz.prog 95 #[.int .u8 n] w (RetB (inI n) w) := by
  go_enter Tryz.func95, Tryz.ntmps95
  go_wp2_with fail
  refine (low_any n _).mono ?_
  obtain ⟨b, hb⟩ : ∃ b, b = smallI n := ⟨_, rfl⟩
  rw [← hb]
  have HS := Lib.hid hb
  clear hb
  rintro e w1 ⟨rfl, rfl⟩
  cases b with
  | true =>
    go_wp2_with fail
    go_ret
    exact retb _ (in_small HS.out.symm).symm
  | false =>
    by_cases h1 : 48 ≤ n
    · by_cases h2 : n ≤ 57
      · go_wp2_with fail
        go_ret
        exact retb _ (in_digit (by simp [digitI]; omega)).symm
      · by_cases h3 : n = 95
        · have hq : (n == 95) = true := by simp [h3]
          have H3 := Lib.hid h3
          clear h3
          go_wp2_with fail
          go_ret
          exact retb _ (in_under H3.out).symm
        · have hq : (n == 95) = false := by simp [h3]
          have HF := Lib.hid (in_no HS.out.symm (show digitI n = false by simp [digitI]; omega) h3)
          clear h3
          go_wp2_with fail
          go_ret
          exact retb _ (by rw [HF.out]; simp; omega)
    · have hq : (n == 95) = false := by rw [beq_eq_false_iff_ne]; omega
      have HF := Lib.hid (in_no HS.out.symm (show digitI n = false by simp [digitI]; omega) (by omega))
      go_wp2_with fail
      go_ret
      exact retb _ HF.out.symm
set_option maxRecDepth 20000 in
set_option maxHeartbeats 1000000 in
theorem rword_any (s : List UInt8) (hl : s.length ≤ 9223372036854775807) (w : World) : Calls Tryz.prog 50 #[.string ⟨s.toArray⟩] w (RetB (wordB s) w) := by
  by_cases h0 : s.length = 0
  · have hz : ((s.length : Int) == 0) = true := by rw [beq_iff_eq]; omega
    have HF := Lib.hid (word_len (s := s) (.inl h0))
    clear h0
    go_enter Tryz.func50, Tryz.ntmps50
    go_wp2_with fail
    go_ret
    exact retb _ HF.out.symm
  · have hz : ((s.length : Int) == 0) = false := by rw [beq_eq_false_iff_ne]; omega
    have hlp : 0 < s.length := by omega
    by_cases h24 : 24 < s.length
    · have h24c : (24 : Int) < (s.length : Int) := by omega
      go_enter Tryz.func50, Tryz.ntmps50
      go_wp2_with fail
      go_ret
      exact retb _ (word_len (.inr h24)).symm
    · have h24c : ¬ (24 : Int) < (s.length : Int) := by omega
      have hsz : 0 < (ByteArray.mk s.toArray).size := hlp
      have hlpc : (0 : Int) < (s.length : Int) := by omega
      obtain ⟨c, hc⟩ : ∃ c : Int, (((ByteArray.mk s.toArray)[0]'hsz).toNat : Int) = c := ⟨_, rfl⟩
      have HC := Lib.hid (show (s[0].toNat : Int) = c from hc)
      go_enter Tryz.func50, Tryz.ntmps50
      go_wp2_with fail
      refine (low_any c _).mono ?_
      obtain ⟨b, hb⟩ : ∃ b, b = smallI c := ⟨_, rfl⟩
      rw [← hb]
      have HBs := Lib.hid hb
      clear hb
      rintro e w1 ⟨rfl, rfl⟩
      cases b with
      | false =>
        go_wp2_with fail
        go_ret
        exact retb _ (word_first hlp (by rw [HC.out]; exact HBs.out.symm)).symm
      | true =>
        clear hc
        go_wp2_with fail
        go_loop [4] (fun t4 => ∃ k : Nat, t4 = .int .i64 k ∧ k ≤ s.length ∧ Hid (∀ j (h : j < s.length), j < k → inW s[j] = true)) (fun t4 => s.length - (intOf t4).toNat)
        case atStart => exact ⟨1, rfl, by omega, fun j h hj => by
          obtain rfl : j = 0 := by omega
          show inI (s[0].toNat : Int) = true
          rw [HC.out]
          exact in_small HBs.out.symm⟩
        case round =>
          obtain ⟨k, rfl, hk, HL⟩ := hrel
          by_cases hkl : k < s.length
          · have hkc : (k : Int) < (s.length : Int) := by omega
            have hsz : k < (ByteArray.mk s.toArray).size := hkl
            obtain ⟨c2, hc2⟩ : ∃ c : Int, (((ByteArray.mk s.toArray)[k]'hsz).toNat : Int) = c := ⟨_, rfl⟩
            have HC2 := Lib.hid (show (s[k].toNat : Int) = c2 from hc2)
            have HK := Lib.hid (fun (hl : inI c2 = true) j (h : j < s.length) (hj : j < k + 1) => by
              by_cases e : j = k
              · subst e; show inI (s[j].toNat : Int) = true; rw [HC2.out]; exact hl
              · exact HL.out j h (by omega) : inI c2 = true → ∀ j (h : j < s.length), j < k + 1 → inW s[j] = true)
            have HN := Lib.hid (fun (hl : inI c2 = false) => word_bad hkl (show inI (s[k].toNat : Int) = false by rw [HC2.out]; exact hl))
            go_wp2_with fail
            refine (inword_any c2 _).mono ?_
            obtain ⟨b, hb⟩ : ∃ b, b = inI c2 := ⟨_, rfl⟩
            rw [← hb]
            have HS2 := Lib.hid hb
            clear hb
            rintro e w1 ⟨rfl, rfl⟩
            cases b with
            | true =>
              go_wp2_with fail
              go_round
              case rel => exact ⟨k + 1, by go_num, by omega, HK.out HS2.out.symm⟩
              case measure => simp [intOf]; omega
            | false =>
              go_wp2_with fail
              go_ret
              exact retb _ (HN.out HS2.out.symm).symm
          · obtain rfl : s.length = k := by omega
            have hkc : ¬ (s.length : Int) < (s.length : Int) := by omega
            go_wp2_with fail
            go_ret
            exact retb _ (word_all hlp (by omega) (by rw [HC.out]; exact HBs.out.symm) (fun j h => HL.out j h h)).symm
end Go.Proofs.YtdnhfcphmbhloaaGreatDoor.Fk

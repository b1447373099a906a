/- Gaps: lines of print, by the program and by the document. -/
import Derived.Test.YtflklbhgjfonbaaGreatDoorGpM
import Derived.Test.YtflklbhgjfonbaaGreatDoorErr
import Derived.Test.YtflklbhgjfonbaaGreatDoorShelfT
namespace Go.Proofs.YtflklbhgjfonbaaGreatDoor.Gp
open Go.RowKit Mem Nest Fk Err

def prnI (n : Int) : Bool := decide (32 ≤ n) && decide (n ≤ 126)
def prnB (s : List UInt8) : Bool := s.all fun c => prnI (c.toNat : Int)
def edgeB (s : List UInt8) : Bool := !(s.head? == some 32) && !(s.getLast? == some 32)
def lineB (s : List UInt8) : Bool := decide (s.length ≤ 300) && prnB s && edgeB s
/-- the document's number of a line's fault -/
def lineC (s : List UInt8) : Int := if 300 < s.length then 2 else if (prnB s && edgeB s) = true then 0 else 1
theorem lineC_pos (s : List UInt8) : decide (0 < lineC s) = !lineB s := by
  unfold lineC lineB
  by_cases h : 300 < s.length
  · have : ¬ s.length ≤ 300 := by omega
    simp [h, this]
  · have : s.length ≤ 300 := by omega
    rw [if_neg h]
    cases hp : (prnB s && edgeB s)
    · simp [this, hp]
    · simp [this, hp]
theorem prn_all {s : List UInt8} (h : ∀ j (h : j < s.length), prnI (s[j].toNat : Int) = true) : prnB s = true := by
  unfold prnB
  rw [List.all_eq_true]
  intro c hc
  obtain ⟨j, hj, rfl⟩ := List.mem_iff_getElem.1 hc
  exact h j hj
theorem prn_bad {s : List UInt8} {j : Nat} (hj : j < s.length) (h : prnI (s[j].toNat : Int) = false) : prnB s = false := by
  rw [Bool.eq_false_iff]
  intro hh
  unfold prnB at hh
  rw [List.all_eq_true] at hh
  have := hh _ (List.getElem_mem hj)
  rw [h] at this
  cases this
set_option maxRecDepth 20000 in
set_option maxHeartbeats 1000000 in
theorem pprinted_any (s : List UInt8) (hl : s.length ≤ 9223372036854775807) (w : World) : Calls Tryz.prog 21 #[.string ⟨s.toArray⟩] w (RetB (prnB s) w) := by
  go_enter Tryz.func21, Tryz.ntmps21
  go_wp2_with fail
  go_loop [6] (fun t6 => ∃ k : Nat, t6 = .int .i64 k ∧ k ≤ s.length ∧ Hid (∀ j (h : j < s.length), j < k → prnI (s[j].toNat : Int) = true)) (fun t6 => s.length - (intOf t6).toNat)
  case atStart => exact ⟨0, rfl, Nat.zero_le _, fun j h hj => absurd hj (by omega)⟩
  case round =>
    obtain ⟨k, rfl, hk, HL⟩ := hrel
    by_cases hkl : k < s.length
    · have hkc : (k : Int) < (s.length : Int) := by omega
      have hsz : k < (ByteArray.mk s.toArray).size := hkl
      obtain ⟨c2, hc2⟩ : ∃ c : Int, (((ByteArray.mk s.toArray)[k]'hsz).toNat : Int) = c := ⟨_, rfl⟩
      have HC2 := Lib.hid (show (s[k].toNat : Int) = c2 from hc2)
      have HK := Lib.hid (fun (hl : prnI c2 = true) j (h : j < s.length) (hj : j < k + 1) => by
        by_cases e : j = k
        · subst e; rw [HC2.out]; exact hl
        · exact HL.out j h (by omega) : prnI c2 = true → ∀ j (h : j < s.length), j < k + 1 → prnI (s[j].toNat : Int) = true)
      have HN := Lib.hid (fun (hl : prnI c2 = false) => prn_bad hkl (by rw [HC2.out]; exact hl))
      by_cases h1 : c2 < 32
      · have HF := Lib.hid (HN.out (by unfold prnI; rw [decide_eq_false (by omega : ¬ (32 : Int) ≤ c2)]; rfl))
        go_wp2_with fail
        go_ret
        exact retb _ HF.out.symm
      · by_cases h2 : 126 < c2
        · have HF := Lib.hid (HN.out (by unfold prnI; rw [decide_eq_false (by omega : ¬ c2 ≤ (126 : Int))]; simp))
          go_wp2_with fail
          go_ret
          exact retb _ HF.out.symm
        · have HF := Lib.hid (HK.out (by unfold prnI; rw [decide_eq_true (by omega : (32 : Int) ≤ c2), decide_eq_true (by omega : c2 ≤ (126 : Int))]; rfl))
          go_wp2_with fail
          go_round
          case rel => exact ⟨k + 1, by go_num, by omega, HF.out⟩
          case measure => simp [intOf]; omega
    · obtain rfl : s.length = k := by omega
      have hkc : ¬ (s.length : Int) < (s.length : Int) := by omega
      go_wp2_with fail
      go_ret
      exact retb _ (prn_all fun j h => HL.out j h h).symm
set_option maxRecDepth 20000 in
set_option maxHeartbeats 1000000 in
theorem rprinted_any (s : List UInt8) (hl : s.length ≤ 9223372036854775807) (w : World) : Calls Tryz.prog 27 #[.string ⟨s.toArray⟩] w (RetB (prnB s) w) := by
  go_enter Tryz.func27, Tryz.ntmps27
  go_wp2_with fail
  go_loop [3] (fun t6 => ∃ k : Nat, t6 = .int .i64 k ∧ k ≤ s.length ∧ Hid (∀ j (h : j < s.length), j < k → prnI (s[j].toNat : Int) = true)) (fun t6 => s.length - (intOf t6).toNat)
  case atStart => exact ⟨0, rfl, Nat.zero_le _, fun j h hj => absurd hj (by omega)⟩
  case round =>
    obtain ⟨k, rfl, hk, HL⟩ := hrel
    by_cases hkl : k < s.length
    · have hkc : (k : Int) < (s.length : Int) := by omega
      have hsz : k < (ByteArray.mk s.toArray).size := hkl
      obtain ⟨c2, hc2⟩ : ∃ c : Int, (((ByteArray.mk s.toArray)[k]'hsz).toNat : Int) = c := ⟨_, rfl⟩
      have HC2 := Lib.hid (show (s[k].toNat : Int) = c2 from hc2)
      have HK := Lib.hid (fun (hl : prnI c2 = true) j (h : j < s.length) (hj : j < k + 1) => by
        by_cases e : j = k
        · subst e; rw [HC2.out]; exact hl
        · exact HL.out j h (by omega) : prnI c2 = true → ∀ j (h : j < s.length), j < k + 1 → prnI (s[j].toNat : Int) = true)
      have HN := Lib.hid (fun (hl : prnI c2 = false) => prn_bad hkl (by rw [HC2.out]; exact hl))
      by_cases h1 : c2 < 32
      · have HF := Lib.hid (HN.out (by unfold prnI; rw [decide_eq_false (by omega : ¬ (32 : Int) ≤ c2)]; rfl))
        go_wp2_with fail
        go_ret
        exact retb _ HF.out.symm
      · by_cases h2 : 126 < c2
        · have HF := Lib.hid (HN.out (by unfold prnI; rw [decide_eq_false (by omega : ¬ c2 ≤ (126 : Int))]; simp))
          go_wp2_with fail
          go_ret
          exact retb _ HF.out.symm
        · have HF := Lib.hid (HK.out (by unfold prnI; rw [decide_eq_true (by omega : (32 : Int) ≤ c2), decide_eq_true (by omega : c2 ≤ (126 : Int))]; rfl))
          go_wp2_with fail
          go_round
          case rel => exact ⟨k + 1, by go_num, by omega, HF.out⟩
          case measure => simp [intOf]; omega
    · obtain rfl : s.length = k := by omega
      have hkc : ¬ (s.length : Int) < (s.length : Int) := by omega
      go_wp2_with fail
      go_ret
      exact retb _ (prn_all fun j h => HL.out j h h).symm
theorem edge_cons {s : List UInt8} (h : 0 < s.length) : edgeB s = (!(s[0] == 32) && !(s[s.length - 1]'(by omega) == 32)) := by
  unfold edgeB
  rw [List.head?_eq_getElem?, List.getLast?_eq_getElem?, List.getElem?_eq_getElem h, List.getElem?_eq_getElem (by omega)]
  simp
theorem byte_eq (c d : UInt8) : (c == d) = ((c.toNat : Int) == (d.toNat : Int)) := by
  rw [Bool.eq_iff_iff, beq_iff_eq, beq_iff_eq]
  constructor
  · rintro rfl
    rfl
  · intro h
    exact UInt8.toNat_inj.1 (by omega)
set_option maxRecDepth 20000 in
set_option maxHeartbeats 1000000 in
theorem rline_any (s : List UInt8) (hl : s.length ≤ 9223372036854775807) (w : World) : Calls Tryz.prog 40 #[.string ⟨s.toArray⟩] w fun e w' => e = .returned (.int .i64 (lineC s)) ∧ w = w' := by
  have HP := Lib.hid (rprinted_any s hl w)
  by_cases h300 : 300 < s.length
  · have hc : (300 : Int) < s.length := by omega
    have hv : lineC s = 2 := by unfold lineC; rw [if_pos h300]
    rw [hv]
    clear hv
    go_enter Tryz.func40, Tryz.ntmps40
    go_wp2_with fail
    go_ret
    exact ⟨rfl, rfl⟩
  · have hc : ¬ (300 : Int) < s.length := by omega
    obtain ⟨v, hv⟩ : ∃ v, v = lineC s := ⟨_, rfl⟩
    rw [← hv]
    have HV := Lib.hid (hv.trans (by unfold lineC; rw [if_neg h300]))
    clear hv
    obtain ⟨p, hp⟩ : ∃ p, p = prnB s := ⟨_, rfl⟩
    rw [← hp] at HP HV
    clear hp
    by_cases h0 : 0 < s.length
    · have hc0 : (0 : Int) < s.length := by omega
      have hsz : 0 < (ByteArray.mk s.toArray).size := h0
      have hsl : s.length - 1 < (ByteArray.mk s.toArray).size := by show s.length - 1 < s.length; omega
      obtain ⟨c, hce⟩ : ∃ c : Int, (((ByteArray.mk s.toArray)[0]'hsz).toNat : Int) = c := ⟨_, rfl⟩
      obtain ⟨d, hde⟩ : ∃ c : Int, (((ByteArray.mk s.toArray)[s.length - 1]'hsl).toNat : Int) = c := ⟨_, rfl⟩
      have hE : edgeB s = (!(c == 32) && !(d == 32)) := by
        rw [edge_cons h0, byte_eq, byte_eq, show (s[0].toNat : Int) = c from hce, show (s[s.length - 1].toNat : Int) = d from hde]
        rfl
      rw [hE] at HV
      have hidx : ((s.length : Int) - 1) = ((s.length - 1 : Nat) : Int) := by omega
      clear hE
      go_enter Tryz.func40, Tryz.ntmps40
      go_wp2_with fail
      refine HP.out.mono ?_
      rintro e w' ⟨rfl, rfl⟩
      cases p with
      | false =>
        have HV2 := Lib.hid (show v = 1 by rw [HV.out]; simp)
        go_wp2_with fail
        go_ret
        exact ⟨by rw [HV2.out]; rfl, rfl⟩
      | true =>
        by_cases h1 : c = 32
        · have HV2 := Lib.hid (show v = 1 by rw [HV.out]; simp [h1])
          have h1' : (c == 32) = true := by simp [h1]
          clear h1
          go_wp2_with fail
          go_ret
          exact ⟨by rw [HV2.out]; rfl, rfl⟩
        · have h1' : (c == 32) = false := by simp [h1]
          by_cases h2 : d = 32
          · have HV2 := Lib.hid (show v = 1 by rw [HV.out]; simp [h2])
            have h2' : (d == 32) = true := by simp [h2]
            clear h1 h2
            go_wp2_with fail
            go_ret
            exact ⟨by rw [HV2.out]; rfl, rfl⟩
          · have h2' : (d == 32) = false := by simp [h2]
            have HV2 := Lib.hid (show v = 0 by rw [HV.out]; simp [h1, h2])
            clear h1 h2
            go_wp2_with fail
            go_ret
            exact ⟨by rw [HV2.out]; rfl, rfl⟩
    · have hs : s = [] := List.eq_nil_of_length_eq_zero (by omega)
      subst hs
      have HV2 := Lib.hid (show v = if p = true then 0 else 1 by rw [HV.out]; cases p <;> rfl)
      clear HV
      go_enter Tryz.func40, Tryz.ntmps40
      go_wp2_with fail
      refine HP.out.mono ?_
      rintro e w' ⟨rfl, rfl⟩
      cases p with
      | false =>
        go_wp2_with fail
        go_ret
        exact ⟨by rw [HV2.out]; rfl, rfl⟩
      | true =>
        go_wp2_with fail
        go_ret
        exact ⟨by rw [HV2.out]; rfl, rfl⟩
theorem drop_self (c : UInt8) : ∀ l : List UInt8, l.dropWhile (· == c) = l ↔ ¬ l.head? = some c
  | [] => by simp
  | a :: t => by
    by_cases h : a = c
    · subst h
      simp only [List.dropWhile_cons, beq_self_eq_true, if_true, List.head?_cons, not_true, iff_false]
      intro e
      have h1 := (List.dropWhile_sublist (l := t) (· == a)).length_le
      rw [e] at h1
      simp only [List.length_cons] at h1
      omega
    · have hb : (a == c) = false := by simp [h]
      simp [hb, h]
theorem trim_edge (s : List UInt8) : (Lib.trimB s 32 == s) = edgeB s := by
  have hR : Lib.trimRightB s 32 = s ↔ ¬ s.getLast? = some 32 := by
    unfold Lib.trimRightB
    have h := drop_self 32 s.reverse
    rw [List.head?_reverse] at h
    rw [← h]
    constructor
    · intro e
      have := congrArg List.reverse e
      rwa [List.reverse_reverse] at this
    · intro e
      rw [e, List.reverse_reverse]
  have hsub : (Lib.trimRightB s 32).Sublist s := by
    unfold Lib.trimRightB
    have h := List.dropWhile_sublist (l := s.reverse) (· == (32 : UInt8))
    have h2 := List.reverse_sublist.2 h
    rwa [List.reverse_reverse] at h2
  have hL : Lib.trimLeftB s 32 = s ↔ ¬ s.head? = some 32 := drop_self 32 s
  rw [Bool.eq_iff_iff, beq_iff_eq]
  unfold edgeB Lib.trimB
  simp only [Bool.and_eq_true, Bool.not_eq_true', beq_eq_false_iff_ne, ne_eq]
  rw [← hL, ← hR]
  constructor
  · intro e
    have h1 := (List.dropWhile_sublist (l := Lib.trimRightB s 32) (· == (32 : UInt8))).length_le
    have h2 : (Lib.trimLeftB (Lib.trimRightB s 32) 32).length ≤ (Lib.trimRightB s 32).length := h1
    rw [e] at h2
    have h3 : Lib.trimRightB s 32 = s := hsub.eq_of_length_le h2
    rw [h3] at e
    exact ⟨e, h3⟩
  · rintro ⟨e1, e2⟩
    rw [e2, e1]
/-- what Line tells -/
def LinePost (b : Bool) (A : Nat → Addr) (w : World) (e : Ending) (w' : World) : Prop := (∃ v, e = .returned v ∧ (b = true → v = .nilIface) ∧ (b = false → ∃ k, v = sentV (A k))) ∧ Below w.heap.size w w'
theorem line_ok {b : Bool} {A : Nat → Addr} {w w' : World} (h : b = true) (hb : Below w.heap.size w w') : LinePost b A w (.returned .nilIface) w' :=
  ⟨⟨_, rfl, fun _ => rfl, fun e => by rw [h] at e; cases e⟩, hb⟩
theorem line_bad {b : Bool} {A : Nat → Addr} {w w' : World} (k : Nat) (h : b = false) (hb : Below w.heap.size w w') : LinePost b A w (.returned (sentV (A k))) w' :=
  ⟨⟨_, rfl, (fun e => by rw [h] at e; cases e), fun _ => ⟨k, rfl⟩⟩, hb⟩
set_option maxRecDepth 20000 in
set_option maxHeartbeats 1000000 in
theorem pline_any (s : List UInt8) (hl : s.length ≤ 9223372036854775807) (A : Nat → Addr) (w : World) (hE : Errs w A) : Calls Tryz.prog 55 #[.string ⟨s.toArray⟩] w (LinePost (lineB s) A w) := by
  have HP := Lib.hid (pprinted_any s hl w)
  have v0 := hE.v0
  have v1 := hE.v1
  obtain ⟨b, hb⟩ : ∃ b, b = lineB s := ⟨_, rfl⟩
  rw [← hb]
  have HB := Lib.hid (hb.trans (by rfl : lineB s = (decide (s.length ≤ 300) && prnB s && edgeB s)))
  clear hb hE
  unfold sentV at v0 v1
  by_cases h300 : 300 < s.length
  · have hc : (300 : Int) < s.length := by omega
    have HV := Lib.hid (show b = false by rw [HB.out, decide_eq_false (by omega : ¬ s.length ≤ 300)]; rfl)
    go_enter Tryz.func55, Tryz.ntmps55
    go_wp2_with fail
    go_ret
    exact line_bad 1 HV.out (Below.refl _ _)
  · have hc : ¬ (300 : Int) < s.length := by omega
    have HV := Lib.hid (show b = (prnB s && edgeB s) by rw [HB.out, decide_eq_true (by omega : s.length ≤ 300)]; rfl)
    have HT := Lib.hid (Tryz.strings_Trim_one ⟨s.toArray⟩ 32 (by decide) w hl)
    obtain ⟨g, hg⟩ : ∃ g, g = edgeB s := ⟨_, rfl⟩
    have htr : (Lib.trimB s 32 == s) = g := by rw [trim_edge, hg]
    rw [← hg] at HV
    obtain ⟨p, hp⟩ : ∃ p, p = prnB s := ⟨_, rfl⟩
    rw [← hp] at HV HP
    clear hp hg
    go_enter Tryz.func55, Tryz.ntmps55
    go_wp2_with fail
    refine HP.out.mono ?_
    rintro e w' ⟨rfl, rfl⟩
    cases p with
    | false =>
      have HV2 := Lib.hid (show b = false by rw [HV.out]; rfl)
      go_wp2_with fail
      go_ret
      exact line_bad 0 HV2.out (Below.refl _ _)
    | true =>
      have HV2 := Lib.hid (show b = g by rw [HV.out]; simp)
      have HT2 := Lib.hid (HT.out.mono fun e w' h => (show e = .returned (.string ⟨(Lib.trimB s 32).toArray⟩) ∧ (w' = w ∨ w' = w.drew) from by simpa using h))
      go_wp2_with fail
      refine HT2.out.mono ?_
      rintro e w' ⟨rfl, hw⟩
      have hb2 : Below w.heap.size w w' := by
        rcases hw with rfl | rfl
        · exact Below.refl _ _
        · exact ext_drewN w 1
      have HB2 := Lib.hid hb2
      have v0 := cell_ext hb2 v0
      clear hw hb2 v1
      cases g with
      | true =>
        go_wp2_with fail
        go_ret
        exact line_ok HV2.out HB2.out
      | false =>
        go_wp2_with fail
        go_ret
        exact line_bad 0 HV2.out HB2.out
end Go.Proofs.YtflklbhgjfonbaaGreatDoor.Gp

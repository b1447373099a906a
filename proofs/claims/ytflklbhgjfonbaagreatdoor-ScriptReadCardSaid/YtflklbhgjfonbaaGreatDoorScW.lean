/- Laws as texts: small functions: Line's very error, what stands behind a word, whether a label is one. -/
import Derived.Test.YtflklbhgjfonbaaGreatDoorScA
import Derived.Test.YtflklbhgjfonbaaGreatDoorLabW2
import Derived.Test.YtflklbhgjfonbaaGreatDoorShelf
import Derived.OwnWalk
namespace Go.Proofs.YtflklbhgjfonbaaGreatDoor.Sc
open Go.RowKit Mem Nest Fk Err Lk Gp

def LinP (A : Nat → Addr) (c : Int) (w : World) (e : Ending) (w' : World) : Prop := e = .returned (errI A c) ∧ Below w.heap.size w w'
set_option maxRecDepth 20000 in
set_option maxHeartbeats 1000000 in
theorem pline2 (s : Tx) (hl : s.length ≤ 9223372036854775807) (A : Nat → Addr) (w : World) (hE : Errs w A) : Calls Tryz.prog 55 #[.string ⟨s.toArray⟩] w (LinP A (lineC s) w) := by
  have HP := Lib.hid (pprinted_any s hl w)
  have v0 := hE.v0
  have v1 := hE.v1
  clear hE
  unfold sentV at v0 v1
  by_cases h300 : 300 < s.length
  · have hc : (300 : Int) < s.length := by omega
    have HV := Lib.hid (show lineC s = 2 from by unfold lineC; rw [if_pos h300])
    go_enter Tryz.func55, Tryz.ntmps55
    go_wp2_with fail
    go_ret
    exact ⟨by rw [HV.out]; rfl, Below.refl _ _⟩
  · have hc : ¬ (300 : Int) < s.length := by omega
    have HT := Lib.hid (Tryz.strings_Trim_one ⟨s.toArray⟩ 32 (by decide) w hl)
    obtain ⟨g, hg⟩ : ∃ g, g = edgeB s := ⟨_, rfl⟩
    have htr : (Lib.trimB s 32 == s) = g := by rw [trim_edge, hg]
    obtain ⟨p, hp⟩ : ∃ p, p = prnB s := ⟨_, rfl⟩
    have HV := Lib.hid (show lineC s = if (p && g) = true then 0 else 1 from by unfold lineC; rw [if_neg h300, hp, hg])
    rw [← hp] at HP
    clear hp hg
    go_enter Tryz.func55, Tryz.ntmps55
    go_wp2_with fail
    refine HP.out.mono ?_
    rintro e w' ⟨rfl, rfl⟩
    cases p with
    | false =>
      have HV2 := Lib.hid (show lineC s = 1 from by rw [HV.out]; rfl)
      go_wp2_with fail
      go_ret
      exact ⟨by rw [HV2.out]; rfl, Below.refl _ _⟩
    | true =>
      have HV2 := Lib.hid (show lineC s = if g = true then 0 else 1 from by rw [HV.out, Bool.true_and])
      have HT2 := Lib.hid (HT.out.mono fun e w' h => (show e = .returned (.string ⟨(Lib.trimB s 32).toArray⟩) ∧ (w' = w ∨ w' = w.drew) from by simpa using h))
      go_wp2_with fail
      refine HT2.out.mono ?_
      rintro e w' ⟨rfl, hw⟩
      have hb2 : Below w.heap.size w w' := by
        rcases hw with rfl | rfl
        · exact Below.refl _ _
        · exact ext_drewN w 1
      have HB2 := Lib.hid hb2
      have v0 := cell_ext hb2 v0
      clear hw hb2 v1
      cases g with
      | true =>
        go_wp2_with fail
        go_ret
        exact ⟨by rw [HV2.out]; rfl, HB2.out⟩
      | false =>
        go_wp2_with fail
        go_ret
        exact ⟨by rw [HV2.out]; rfl, HB2.out⟩
theorem plabel (s : Tx) (hl : s.length ≤ 1000000) (w : World) : Calls Tryz.prog 52 #[.string ⟨s.toArray⟩] w (RetG (Lab.lab s).isSome w) := by
  have HL := Lib.hid (Lab.label_any s hl w)
  go_enter Tryz.func52, Tryz.ntmps52
  go_wp2_with fail
  refine HL.out.mono ?_
  rintro e w' ⟨ok, n, low, hi, rfl, hb, ho⟩
  have HB := Lib.hid hb
  have HO := Lib.hid (show (Lab.lab s).isSome = ok from by
    rcases ho with ⟨rfl, h⟩ | ⟨rfl, h⟩ <;> rw [h] <;> rfl)
  clear hb ho HL
  go_wp2_with fail
  go_ret
  exact ⟨by rw [HO.out]; rfl, HB.out⟩
theorem drop_ba (s : Tx) (k : Nat) : (ByteArray.mk s.toArray).extract k s.length = ⟨(s.drop k).toArray⟩ := by
  apply ByteArray.ext
  simp [List.extract_eq_take_drop]
  rw [List.take_of_length_le (by simp)]
set_option maxRecDepth 20000 in
set_option maxHeartbeats 1000000 in
theorem pbehind (s : Tx) (hl : s.length ≤ 1000000) (A : Nat → Addr) (w : World) (hE : Errs w A) : Calls Tryz.prog 22 #[.string ⟨s.toArray⟩] w fun e w' => e = .returned (.tuple #[.string ⟨(bhP s).toArray⟩, errI A (bhC s)]) ∧ Below w.heap.size w w' := by
  have v0 := hE.v0
  have HE := Lib.hid hE
  unfold sentV at v0
  clear hE
  cases s with
  | nil =>
    go_enter Tryz.func22, Tryz.ntmps22
    go_wp2_with fail
    go_ret2
    exact ⟨rfl, Below.refl _ _⟩
  | cons c t =>
    have hne : ((c :: t : Tx) == []) = false := rfl
    by_cases hc : c = 32
    · subst hc
      cases t with
      | nil =>
        go_enter Tryz.func22, Tryz.ntmps22
        go_wp2_with fail
        go_quiet (fail)
        go_wp2_with fail
        go_ret2
        exact ⟨rfl, ext_drewN w nq⟩
      | cons d u =>
        have hx : (ByteArray.mk (List.toArray (32 :: d :: u))).extract 1 (u.length + 1 + 1) = ⟨List.toArray (d :: u)⟩ := drop_ba (32 :: d :: u) 1
        have HL := Lib.hid (pline2 (d :: u) (by simp only [List.length_cons] at hl ⊢; omega) A w HE.out)
        have hlu : (u.length : Int) ≤ 999998 := by simp only [List.length_cons] at hl; omega
        have HF := Lib.hid (show bhC (32 :: d :: u) = lineC (d :: u) ∧ bhP (32 :: d :: u) = d :: u from by simp [bhC, bhP])
        obtain ⟨z, hz⟩ : ∃ z, z = errI A (lineC (d :: u)) := ⟨_, rfl⟩
        unfold LinP at HL
        rw [← hz] at HL
        have HZ := Lib.hid hz
        clear hz
        go_enter Tryz.func22, Tryz.ntmps22
        go_wp2_with fail
        refine HL.out.mono ?_
        rintro e w' ⟨rfl, hb⟩
        have HB := Lib.hid hb
        clear hb
        go_wp2_with fail
        go_ret2
        exact ⟨by rw [HF.out.1, HF.out.2, ← HZ.out]; rfl, HB.out⟩
    · have hc1 : ((c.toNat : Int) != 32) = true := by
        rw [bne_iff_ne]
        intro e
        exact hc (UInt8.toNat_inj.1 (by simpa using (show c.toNat = 32 from by omega)))
      have hb0 : ∀ h, (ByteArray.mk (List.toArray (c :: t)))[0]'h = c := fun h => rfl
      have hc2 : ¬ ((c.toNat : Int) = 32) := by simpa using hc1
      have HF := Lib.hid (show bhC (c :: t) = 1 ∧ bhP (c :: t) = c :: t from by simp [bhC, bhP, hc])
      go_enter Tryz.func22, Tryz.ntmps22
      go_wp2_with fail
      go_quiet (fail)
      go_wp2_with fail
      go_ret2
      exact ⟨by rw [HF.out.1, HF.out.2]; rfl, ext_drewN w nq⟩
theorem drop_ba2 (s : Tx) (i : Nat) : (ByteArray.mk s.toArray).extract i s.length = ⟨(s.drop i).toArray⟩ := drop_ba s i
def RetTI (x : Tx) (c : Int) (w : World) (e : Ending) (w' : World) : Prop := e = .returned (.tuple #[.string ⟨x.toArray⟩, .int .i64 c]) ∧ Below w.heap.size w w'
set_option maxRecDepth 20000 in
set_option maxHeartbeats 1000000 in
theorem rbehind (s : Tx) (hl : s.length ≤ 1000000) (w : World) : Calls Tryz.prog 28 #[.string ⟨s.toArray⟩] w (RetTI (bhT s) (bhC s) w) := by
  cases s with
  | nil =>
    go_enter Tryz.func28, Tryz.ntmps28
    go_wp2_with fail
    go_ret2
    exact ⟨rfl, Below.refl _ _⟩
  | cons c t =>
    have hlt : (t.length : Int) ≤ 999999 := by simp only [List.length_cons] at hl; omega
    by_cases hc : c = 32
    · subst hc
      cases t with
      | nil =>
        go_enter Tryz.func28, Tryz.ntmps28
        go_wp2_with fail
        go_ret2
        exact ⟨rfl, Below.refl _ _⟩
      | cons d u =>
        obtain ⟨s, hs⟩ : ∃ s : Tx, s = 32 :: d :: u := ⟨_, rfl⟩
        have hx : (ByteArray.mk s.toArray).extract 1 s.length = ⟨List.toArray (d :: u)⟩ := by rw [hs]; exact drop_ba (32 :: d :: u) 1
        have hln : s.length = u.length + 2 := by rw [hs]; rfl
        have h0 : ∀ h, (ByteArray.mk s.toArray)[0]'h = 32 := by rw [hs]; exact fun h => rfl
        have hem : s.isEmpty = false := by rw [hs]; rfl
        obtain ⟨z, hz⟩ : ∃ z, z = lineC (d :: u) := ⟨_, rfl⟩
        have HL := Lib.hid (show ∀ w, Calls Tryz.prog 40 #[.string ⟨List.toArray (d :: u)⟩] w (fun e w' => e = .returned (.int .i64 z) ∧ w = w') from fun w => by rw [hz]; exact rline_any (d :: u) (by simp only [List.length_cons] at hl ⊢; omega) w)
        have HF := Lib.hid (show bhC (32 :: d :: u) = z ∧ bhT (32 :: d :: u) = d :: u from by rw [hz]; simp [bhC, bhT])
        simp only [List.length_cons] at hl
        have hl1 : (s.length : Int) ≤ 1000000 := by omega
        have hl2 : (2 : Int) ≤ s.length := by omega
        have hl3 : ((s.length : Int) == 1) = false := by rw [beq_eq_false_iff_ne]; omega
        rw [← hs] at HF ⊢
        generalize hdu : (d :: u : Tx) = du at hx HL HF
        clear hz hln hs hl hlt hdu
        go_enter Tryz.func28, Tryz.ntmps28
        go_wp2_with fail
        go_quiet ((go_at_call 40; exact Calls.quiet_of_same ((HL.out _).mono fun e w' h => ⟨h.1, h.2.symm⟩)))
        go_wp2_with fail
        go_ret2
        exact ⟨by rw [HF.out.1, HF.out.2]; rfl, ext_drewN w nq⟩
    · have hc1 : ((c.toNat : Int) != 32) = true := by
        rw [bne_iff_ne]
        intro e
        exact hc (UInt8.toNat_inj.1 (by simpa using (show c.toNat = 32 from by omega)))
      have hb0 : ∀ h, (ByteArray.mk (List.toArray (c :: t)))[0]'h = c := fun h => rfl
      have hc2 : ¬ ((c.toNat : Int) = 32) := by simpa using hc1
      have HF := Lib.hid (show bhC (c :: t) = 1 ∧ bhT (c :: t) = c :: t from by simp [bhC, bhT, hc])
      go_enter Tryz.func28, Tryz.ntmps28
      go_wp2_with fail
      go_ret2
      exact ⟨by rw [HF.out.1, HF.out.2]; rfl, Below.refl _ _⟩
end Go.Proofs.YtflklbhgjfonbaaGreatDoor.Sc

/- Facts: the document's insert: one more day among sorted days. -/
import Derived.Test.YtcpcejmlnhflpaaDoorFkE
namespace Go.Proofs.YtcpcejmlnhflpaaDoor.Fk
open Go.RowKit Mem Nest Err App

theorem ins_at (n : Int) : ∀ (l : List Int) (i : Nat), i ≤ l.length → (∀ j (h : j < l.length), j < i → l[j] < n) → (∀ h : i < l.length, ¬ l[i] < n) → ins l n = l.take i ++ [n] ++ (if ∃ h : i < l.length, l[i] = n then l.drop (i + 1) else l.drop i)
  | [], i, hi, _, _ => by
    have : i = 0 := by simpa using hi
    subst this
    simp [ins]
  | x :: l, 0, _, _, h2 => by
    have hx : ¬ x < n := h2 (by simp)
    rw [ins, if_neg hx]
    by_cases he : x = n
    · rw [if_pos he, if_pos ⟨by simp, he⟩]
      simp
    · rw [if_neg he, if_neg (fun ⟨_, h⟩ => he h)]
      simp
  | x :: l, i + 1, hi, h1, h2 => by
    have hx : x < n := h1 0 (by simp) (by omega)
    have ih := ins_at n l i (by simpa using hi) (fun j h hj => h1 (j + 1) (by simpa using h) (by omega)) (fun h => h2 (by simpa using h))
    rw [ins, if_pos hx, ih]
    by_cases he : ∃ h : i < l.length, l[i] = n
    · rw [if_pos he, if_pos (by obtain ⟨h, e⟩ := he; exact ⟨by simpa using h, e⟩)]
      simp
    · rw [if_neg he, if_neg (by rintro ⟨h, e⟩; exact he ⟨by simpa using h, e⟩)]
      simp
theorem ints_take (zs : List Int) (k : Nat) : ints (zs.take k) = (ints zs).take k := by simp [ints]
theorem ints_drop (zs : List Int) (k : Nat) : ints (zs.drop k) = (ints zs).drop k := by simp [ints]
theorem ints_one (zs : List Int) : ∀ u ∈ ints zs, u.oneCell' = true := by
  intro u hu
  obtain ⟨z, _, rfl⟩ := List.mem_map.1 hu
  rfl
theorem rd_from {w : World} {b o : Nat} {cs : List Value} (h : Rd w (some ⟨b, o, none⟩) cs) (k : Nat) : Rd w (some ⟨b, o + k, none⟩) (cs.drop k) := fun j u hj => by
  rw [List.getElem?_drop] at hj
  obtain ⟨b', o', e, hc⟩ := h _ u hj
  cases e
  exact ⟨b, o + k, rfl, by rw [Nat.add_assoc]; exact hc⟩
set_option maxRecDepth 20000 in
set_option maxHeartbeats 4000000 in
theorem insert_any (zs : List Int) (hzl : zs.length ≤ 2000) (A : Option Addr) (c : Nat) (n : Int) (w : World) (hS : SL w A c zs) :
    Calls Tryd.prog 27 #[.slice A zs.length c, .int .i64 n] w (IntsPost (ins zs n) w) := by
  obtain ⟨hR, hcap, hcm, hnil, hspot⟩ := hS
  have HR := Lib.hid hR
  have HNil := Lib.hid hnil
  obtain ⟨i0, hi, hz0, hz1, hz2⟩ := info_parts int_info
  have HI := Lib.hid hi
  have HZ0 := Lib.hid hz0
  have HZ1 := Lib.hid hz1
  have HZ2 := Lib.hid hz2
  have hcc : (c : Int) ≤ 9223372036854775807 := by unfold maxLen at hcm; omega
  have HCM := Lib.hid hcm
  have HSome := Lib.hid (fun (h : c ≠ 0) => show ∃ b o, A = some ⟨b, o, none⟩ from by
    rcases hA : A with _ | a
    · exact absurd (hnil hA) h
    · obtain ⟨b, o, sp⟩ := a
      rcases hz : zs with _ | ⟨z, t⟩
      · exact hspot ⟨b, o, sp⟩ hA
      · obtain ⟨b', o', e, _⟩ := hR 0 (.int .i64 z) (by rw [hz]; rfl)
        rw [hA] at e
        exact ⟨b', o', e⟩)
  clear hR hnil hi hz0 hz1 hz2 hcm hspot
  go_enter Tryd.func27, Tryd.ntmps27
  go_wp2_with fail
  go_loopw [5, 6] (fun t5 t6 wr => ∃ i : Nat, t6 = .int .i64 i ∧ i ≤ zs.length ∧ Hid (Below w.heap.size w wr) ∧ Hid (∀ j (h : j < zs.length), j < i → zs[j] < n) ∧ Hid (wr.ownsRow w.heap.size 3 1 t5 i (ints (zs.take i)))) (fun _ t6 _ => zs.length - (intOf t6).toNat)
  case atStart => exact ⟨0, rfl, Nat.zero_le _, Below.refl _ _, fun j h hj => absurd hj (by omega), World.ownsRow_nil _ _ _ _⟩
  case round =>
    obtain ⟨i, rfl, hi, HB, HA, HO⟩ := hrel
    by_cases hlt : i < zs.length
    · have hltc : (i : Int) < (zs.length : Int) := by omega
      obtain ⟨b, o, rfl, rw0⟩ := HR.out.int hlt
      have RW0 := Lib.hid rw0
      have r0 := Mem.cell_keep HB.out (cell_lt rw0) rw0
      clear rw0
      obtain ⟨z, hz⟩ : ∃ z, z = zs[i] := ⟨_, rfl⟩
      rw [← hz] at r0 RW0
      have HZ := Lib.hid hz
      clear hz
      by_cases hzn : z < n
      · have HZN := Lib.hid hzn
        go_wp2_with (at_builtin; refine wpList_append_own _ rfl _ _ _ rfl w.heap.size 3 i0 _ 1 8 Tryd.underlying32 HI.out HZ0.out HZ1.out HZ2.out rfl (by omega) u5 i _ rfl (World.ownsRow.alloc HO.out _) ⟨wr.heap.size, 0, none⟩ 1 1 [.int .i64 z] rfl rfl (new_cells wr [.int .i64 z] _ _ rfl) (by intro u hu; simp only [List.mem_cons, List.not_mem_nil, or_false] at hu; subst hu; rfl) (by simp only [maxLen]; omega) (by omega) (Nat.le_trans HB.out.size (by simp)) ?_; intro v1 w2 hown1 hg1 _; have HO2 := Lib.hid hown1; have HB2 := Lib.hid (grown_ext (HB.out.trans ((ext_alloc wr _).mono HB.out.size)) rfl (World.ownsRow.alloc HO.out _) hg1); clear hown1 hg1)
        go_roundw
        case rel =>
          refine ⟨i + 1, by go_num, by omega, HB2.out, fun j h hj => ?_, ?_⟩
          · by_cases e : j = i
            · subst e; rw [← HZ.out]; exact HZN.out
            · exact HA.out j h (by omega)
          · show World.ownsRow _ _ _ _ _ _ _
            rw [List.take_succ_eq_append_getElem hlt, ints_snoc, ← HZ.out]
            exact HO2.out
        case measure => simp [intOf]; omega
      · have HIA := Lib.hid (ins_at n zs i hi HA.out (fun _ => by rw [← HZ.out]; exact hzn))
        have hltc : (i : Int) < (zs.length : Int) := by omega
        have hzc : ¬ z < n := hzn
        go_upto_region 7 with (at_builtin; refine wpList_append_own _ rfl _ _ _ rfl w.heap.size 3 i0 _ 1 8 Tryd.underlying32 HI.out HZ0.out HZ1.out HZ2.out rfl (by omega) u5 i _ rfl (World.ownsRow.alloc HO.out _) ⟨wr.heap.size, 0, none⟩ 1 1 [.int .i64 n] rfl rfl (new_cells wr [.int .i64 n] _ _ rfl) (by intro u hu; simp only [List.mem_cons, List.not_mem_nil, or_false] at hu; subst hu; rfl) (by simp only [maxLen]; omega) (by omega) (Nat.le_trans HB.out.size (by simp)) ?_; intro v1 w2 hown1 hg1 _; obtain ⟨A5, c5, rfl, _⟩ := own_slice hown1; have HO2 := Lib.hid hown1; have HB2 := Lib.hid (grown_ext (HB.out.trans ((ext_alloc wr _).mono HB.out.size)) rfl (World.ownsRow.alloc HO.out _) hg1); clear hown1 hg1)
        have q0 := Mem.cell_keep HB2.out (cell_lt RW0.out) RW0.out
        by_cases hze : z = n
        · have hq : (z == n) = true := by simp [hze]
          have HZE := Lib.hid (show zs[i] = n by rw [← HZ.out]; exact hze)
          have hi1 : ((i + 1 : Nat) : Int) = (i : Int) + 1 := by omega
          clear hze
          go_upto_region 9 with fail
          by_cases hci : c = i + 1
          · have hdl : zs.length - (i + 1) = 0 := by omega
            have HD := Lib.hid (show zs.drop (i + 1) = [] from List.drop_eq_nil_of_le (by omega))
            have hkc : ((i + 1 : Nat) : Int) ≤ (c : Int) := by omega
            go_wp2_with (at_builtin; refine wpList_append_rd _ rfl _ _ _ rfl w.heap.size 3 i0 _ 1 8 Tryd.underlying32 HI.out HZ0.out HZ1.out HZ2.out rfl (by omega) (.slice A5 (i + 1) c5) (i + 1) _ rfl HO2.out (some ⟨b, o, none⟩) 0 0 (ints []) rfl (fun _ => rfl) (by simp [ints]) Rd.nil (ints_one _) (by simp only [maxLen]; omega) (by omega) (HB2.out.size) ?_; intro v6 w6 hown6 hg6; obtain ⟨A6, c6, rfl, _⟩ := own_slice hown6; have HO6 := Lib.hid hown6; have HB6 := Lib.hid (grown_ext HB2.out rfl HO2.out hg6); clear hown6 hg6)
            go_ret
            have h := HO6.out
            have e : ins zs n = zs.take i ++ [n] ++ zs.drop (i + 1) := by have h := HIA.out; rw [if_pos ⟨hlt, HZE.out⟩] at h; exact h
            have e2 : ints (ins zs n) = ints (zs.take i) ++ [.int .i64 n] ++ ints [] := by rw [e, HD.out]; simp [ints]
            have e3 : (ins zs n).length = i + 1 + 0 := by rw [e, HD.out]; simp <;> omega
            exact ⟨A6, c6, by rw [e3]; rfl, SL.of_own h e2.symm e3.symm, HB6.out⟩
          · skip
            have hkc : ((i + 1 : Nat) : Int) ≤ (c : Int) := by omega
            have HRk := Lib.hid (rd_from (HR.out.ext HB2.out) (i + 1))
            go_wp2_with (at_builtin; refine wpList_append_rd _ rfl _ _ _ rfl w.heap.size 3 i0 _ 1 8 Tryd.underlying32 HI.out HZ0.out HZ1.out HZ2.out rfl (by omega) (.slice A5 (i + 1) c5) (i + 1) _ rfl HO2.out _ _ _ (ints (zs.drop (i + 1))) rfl (fun h => by cases h) (by rw [ints_len, List.length_drop, Nat.mul_one]) (by rw [ints_drop]; exact HRk.out) (ints_one _) (by simp only [maxLen]; omega) (by omega) (HB2.out.size) ?_; intro v6 w6 hown6 hg6; obtain ⟨A6, c6, rfl, _⟩ := own_slice hown6; have HO6 := Lib.hid hown6; have HB6 := Lib.hid (grown_ext HB2.out rfl HO2.out hg6); clear hown6 hg6)
            go_ret
            have h := HO6.out
            have e : ins zs n = zs.take i ++ [n] ++ zs.drop (i + 1) := by have h := HIA.out; rw [if_pos ⟨hlt, HZE.out⟩] at h; exact h
            have e2 : ints (ins zs n) = ints (zs.take i) ++ [.int .i64 n] ++ ints (zs.drop (i + 1)) := by rw [e]; simp [ints]
            have e3 : (ins zs n).length = i + 1 + (zs.length - (i + 1)) := by rw [e]; simp <;> omega
            exact ⟨A6, c6, by rw [e3]; rfl, SL.of_own h e2.symm e3.symm, HB6.out⟩
        · have hq : (z == n) = false := by simp [hze]
          have HZE := Lib.hid (show ¬ zs[i] = n by rw [← HZ.out]; exact hze)
          clear hze
          go_upto_region 9 with fail
          by_cases hci : c = i
          · have hdl : zs.length - (i) = 0 := by omega
            have HD := Lib.hid (show zs.drop (i) = [] from List.drop_eq_nil_of_le (by omega))
            have hkc : ((i : Nat) : Int) ≤ (c : Int) := by omega
            go_wp2_with (at_builtin; refine wpList_append_rd _ rfl _ _ _ rfl w.heap.size 3 i0 _ 1 8 Tryd.underlying32 HI.out HZ0.out HZ1.out HZ2.out rfl (by omega) (.slice A5 (i + 1) c5) (i + 1) _ rfl HO2.out (some ⟨b, o, none⟩) 0 0 (ints []) rfl (fun _ => rfl) (by simp [ints]) Rd.nil (ints_one _) (by simp only [maxLen]; omega) (by omega) (HB2.out.size) ?_; intro v6 w6 hown6 hg6; obtain ⟨A6, c6, rfl, _⟩ := own_slice hown6; have HO6 := Lib.hid hown6; have HB6 := Lib.hid (grown_ext HB2.out rfl HO2.out hg6); clear hown6 hg6)
            go_ret
            have h := HO6.out
            have e : ins zs n = zs.take i ++ [n] ++ zs.drop (i) := by have h := HIA.out; rw [if_neg (by rintro ⟨_, h⟩; exact HZE.out h)] at h; exact h
            have e2 : ints (ins zs n) = ints (zs.take i) ++ [.int .i64 n] ++ ints [] := by rw [e, HD.out]; simp [ints]
            have e3 : (ins zs n).length = i + 1 + 0 := by rw [e, HD.out]; simp <;> omega
            exact ⟨A6, c6, by rw [e3]; rfl, SL.of_own h e2.symm e3.symm, HB6.out⟩
          · skip
            have hkc : ((i : Nat) : Int) ≤ (c : Int) := by omega
            have HRk := Lib.hid (rd_from (HR.out.ext HB2.out) (i))
            go_wp2_with (at_builtin; refine wpList_append_rd _ rfl _ _ _ rfl w.heap.size 3 i0 _ 1 8 Tryd.underlying32 HI.out HZ0.out HZ1.out HZ2.out rfl (by omega) (.slice A5 (i + 1) c5) (i + 1) _ rfl HO2.out _ _ _ (ints (zs.drop (i))) rfl (fun h => by cases h) (by rw [ints_len, List.length_drop, Nat.mul_one]) (by rw [ints_drop]; exact HRk.out) (ints_one _) (by simp only [maxLen]; omega) (by omega) (HB2.out.size) ?_; intro v6 w6 hown6 hg6; obtain ⟨A6, c6, rfl, _⟩ := own_slice hown6; have HO6 := Lib.hid hown6; have HB6 := Lib.hid (grown_ext HB2.out rfl HO2.out hg6); clear hown6 hg6)
            go_ret
            have h := HO6.out
            have e : ins zs n = zs.take i ++ [n] ++ zs.drop (i) := by have h := HIA.out; rw [if_neg (by rintro ⟨_, h⟩; exact HZE.out h)] at h; exact h
            have e2 : ints (ins zs n) = ints (zs.take i) ++ [.int .i64 n] ++ ints (zs.drop (i)) := by rw [e]; simp [ints]
            have e3 : (ins zs n).length = i + 1 + (zs.length - i) := by rw [e]; simp <;> omega
            exact ⟨A6, c6, by rw [e3]; rfl, SL.of_own h e2.symm e3.symm, HB6.out⟩
    · have hlc : ¬ (i : Int) < (zs.length : Int) := by omega
      have HIA := Lib.hid (ins_at n zs i hi HA.out (fun h => absurd h hlt))
      go_upto_region 9 with (at_builtin; refine wpList_append_own _ rfl _ _ _ rfl w.heap.size 3 i0 _ 1 8 Tryd.underlying32 HI.out HZ0.out HZ1.out HZ2.out rfl (by omega) u5 i _ rfl (World.ownsRow.alloc HO.out _) ⟨wr.heap.size, 0, none⟩ 1 1 [.int .i64 n] rfl rfl (new_cells wr [.int .i64 n] _ _ rfl) (by intro u hu; simp only [List.mem_cons, List.not_mem_nil, or_false] at hu; subst hu; rfl) (by simp only [maxLen]; omega) (by omega) (Nat.le_trans HB.out.size (by simp)) ?_; intro v1 w2 hown1 hg1 _; obtain ⟨A5, c5, rfl, _⟩ := own_slice hown1; have HO2 := Lib.hid hown1; have HB2 := Lib.hid (grown_ext (HB.out.trans ((ext_alloc wr _).mono HB.out.size)) rfl (World.ownsRow.alloc HO.out _) hg1); clear hown1 hg1)
      by_cases hci : c = i
      · have hdl : zs.length - (i) = 0 := by omega
        have HD := Lib.hid (show zs.drop (i) = [] from List.drop_eq_nil_of_le (by omega))
        have hkc : ((i : Nat) : Int) ≤ (c : Int) := by omega
        go_wp2_with (at_builtin; refine wpList_append_rd _ rfl _ _ _ rfl w.heap.size 3 i0 _ 1 8 Tryd.underlying32 HI.out HZ0.out HZ1.out HZ2.out rfl (by omega) (.slice A5 (i + 1) c5) (i + 1) _ rfl HO2.out A 0 0 (ints []) rfl (fun _ => rfl) (by simp [ints]) Rd.nil (ints_one _) (by simp only [maxLen]; omega) (by omega) (HB2.out.size) ?_; intro v6 w6 hown6 hg6; obtain ⟨A6, c6, rfl, _⟩ := own_slice hown6; have HO6 := Lib.hid hown6; have HB6 := Lib.hid (grown_ext HB2.out rfl HO2.out hg6); clear hown6 hg6)
        go_ret
        have h := HO6.out
        have e : ins zs n = zs.take i ++ [n] ++ zs.drop (i) := by have h := HIA.out; rw [if_neg (by rintro ⟨h, _⟩; omega)] at h; exact h
        have e2 : ints (ins zs n) = ints (zs.take i) ++ [.int .i64 n] ++ ints [] := by rw [e, HD.out]; simp [ints]
        have e3 : (ins zs n).length = i + 1 + 0 := by rw [e, HD.out]; simp <;> omega
        exact ⟨A6, c6, by rw [e3]; rfl, SL.of_own h e2.symm e3.symm, HB6.out⟩
      · obtain ⟨ab, ao, rfl⟩ : ∃ b o, A = some ⟨b, o, none⟩ := HSome.out (by omega)
        have hkc : ((i : Nat) : Int) ≤ (c : Int) := by omega
        have HRk := Lib.hid (rd_from (HR.out.ext HB2.out) (i))
        go_wp2_with (at_builtin; refine wpList_append_rd _ rfl _ _ _ rfl w.heap.size 3 i0 _ 1 8 Tryd.underlying32 HI.out HZ0.out HZ1.out HZ2.out rfl (by omega) (.slice A5 (i + 1) c5) (i + 1) _ rfl HO2.out _ _ _ (ints (zs.drop (i))) rfl (fun h => by cases h) (by rw [ints_len, List.length_drop, Nat.mul_one]) (by rw [ints_drop]; exact HRk.out) (ints_one _) (by simp only [maxLen]; omega) (by omega) (HB2.out.size) ?_; intro v6 w6 hown6 hg6; obtain ⟨A6, c6, rfl, _⟩ := own_slice hown6; have HO6 := Lib.hid hown6; have HB6 := Lib.hid (grown_ext HB2.out rfl HO2.out hg6); clear hown6 hg6)
        go_ret
        have h := HO6.out
        have e : ins zs n = zs.take i ++ [n] ++ zs.drop (i) := by have h := HIA.out; rw [if_neg (by rintro ⟨h, _⟩; omega)] at h; exact h
        have e2 : ints (ins zs n) = ints (zs.take i) ++ [.int .i64 n] ++ ints (zs.drop (i)) := by rw [e]; simp [ints]
        have e3 : (ins zs n).length = i + 1 + (zs.length - i) := by rw [e]; simp <;> omega
        exact ⟨A6, c6, by rw [e3]; rfl, SL.of_own h e2.symm e3.symm, HB6.out⟩
end Go.Proofs.YtcpcejmlnhflpaaDoor.Fk

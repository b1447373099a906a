/- Facts: one more fact in a file: the document's Add. -/
import Derived.Test.YtcpcejmlnhflpaaDoorFkA
namespace Go.Proofs.YtcpcejmlnhflpaaDoor.Fk
open Go.RowKit Mem Nest Err App

set_option maxRecDepth 20000 in
set_option maxHeartbeats 4000000 in
theorem radd_any (l : List Fa) (hl : l.length ≤ 500) (x : Fa) (hn : x.name.length ≤ 100) (base b : Nat) (w : World) (hF : FileP 39 29 w base b l) (hBw : base ≤ w.heap.size) :
    Calls Tryd.prog 22 #[.pointer (some ⟨b, 0, none⟩), .agg (faC x).toArray] w (RAdd l x base b w) := by
  obtain ⟨i0, hi, hz0, hz1, hz2⟩ := info_parts rfact_info
  have HI := Lib.hid hi
  have HZ0 := Lib.hid hz0
  have HZ1 := Lib.hid hz1
  have HZ2 := Lib.hid hz2
  obtain ⟨v, hbb, hblk, hown⟩ := hF
  obtain ⟨A0, c0, rfl, _⟩ := own_slice hown
  have bx := Blk.new w 29 (faC x)
  have hx := ext_alloc w (.cells (faC x).toArray 29)
  obtain ⟨W, hW⟩ : ∃ W, W = w.alloc (.cells (faC x).toArray 29) := ⟨_, rfl⟩
  obtain ⟨K, hK⟩ : ∃ K, K = w.heap.size := ⟨_, rfl⟩
  rw [← hW] at bx hx
  rw [← hK] at bx
  have hfb := hblk.ext (hx.mono (show b + 1 ≤ _ from hblk.lt))
  have HFB := Lib.hid hfb
  have HOW := Lib.hid (own_ext hown hx)
  have HX := Lib.hid hx
  have HBW := Lib.hid hBw
  have HO0 := Lib.hid hown
  have HBL := Lib.hid hblk.lt
  have HBB := Lib.hid hbb
  have HBX := Lib.hid bx
  have HXX := Lib.hid (show ∃ y, y = x from ⟨x, rfl⟩)
  have y0 := hfb.cell 0 rfl
  have y1 := hfb.free 0
  have HN100 := Lib.hid hn
  have HKD := Lib.hid (show ∀ q : Bool, kindB x = q ↔ kindB x = q from fun _ => Iff.rfl)
  obtain ⟨nm, who, other, value, from_, to_, learnt, hxe⟩ : ∃ nm who other value from_ to_ learnt, x = ⟨who, nm, other, value, from_, to_, learnt⟩ := ⟨_, _, _, _, _, _, _, rfl⟩
  subst hxe
  have k0 := bx.cell 0 rfl
  have k1 := bx.cell 1 rfl
  have k2 := bx.cell 2 rfl
  have k3 := bx.cell 3 rfl
  have k4 := bx.cell 4 rfl
  have k5 := bx.cell 5 rfl
  have k6 := bx.cell 6 rfl
  have hnl : nm.length ≤ 9223372036854775807 := by have := hn; simp only at this; omega
  clear hi hz0 hz1 hz2 hblk hown hfb hx hBw hbb bx HXX HKD hn
  unfold faC
  simp only at k0 k1 k2 k3 k4 k5 k6
  have HFC := Lib.hid (show faC ⟨who, nm, other, value, from_, to_, learnt⟩ = [.int .i64 who, .string ⟨nm.toArray⟩, .int .i64 other, .int .i64 value, .int .i64 from_, .int .i64 to_, .int .i64 learnt] from rfl)
  have hWe : w.alloc (.cells #[.int .i64 who, .string ⟨nm.toArray⟩, .int .i64 other, .int .i64 value, .int .i64 from_, .int .i64 to_, .int .i64 learnt] 29) = W := hW.symm
  clear hW
  have HWE := Lib.hid hWe
  have HKE := Lib.hid hK
  clear hWe hK
  go_enter Tryd.func22, Tryd.ntmps22
  go_upto_region 1 with fail
  rw [HWE.out, ← HKE.out]
  by_cases h500 : 500 ≤ l.length
  · have h5c : (500 : Int) ≤ (l.length : Int) := by omega
    have H5 := Lib.hid h500
    go_wp2_with fail
    go_ret
    exact radd_no (code2 H5.out) (by decide) HX.out
  · have h5c : ¬ (500 : Int) ≤ (l.length : Int) := by omega
    have H5 := Lib.hid h500
    clear h500
    go_wp2_with fail
    refine (rword_any nm hnl _).mono ?_
    obtain ⟨bn, hbn⟩ : ∃ b, b = wordB nm := ⟨_, rfl⟩
    rw [← hbn]
    have HW2 := Lib.hid hbn
    clear hbn
    rintro e w107 ⟨rfl, rfl⟩
    cases bn with
    | false =>
      go_wp2_with fail
      go_ret
      exact radd_no (code7 H5.out HW2.out.symm) (by decide) HX.out
    | true =>
      go_wp2_with fail
      refine (isbody_any who _).mono ?_
      obtain ⟨bw, hbw⟩ : ∃ b, b = bodyB who := ⟨_, rfl⟩
      rw [← hbw]
      have HWH := Lib.hid hbw
      clear hbw
      rintro e w105 ⟨rfl, rfl⟩
      go_wp2_with fail
      refine (isbody_any other _).mono ?_
      obtain ⟨bo, hbo⟩ : ∃ b, b = bodyB other := ⟨_, rfl⟩
      rw [← hbo]
      have HOT := Lib.hid hbo
      clear hbo
      rintro e w106 ⟨rfl, rfl⟩
      cases bw with
      | false =>
        go_wp2_with fail
        go_ret
        exact radd_no (code9 H5.out HW2.out.symm (show kindB (⟨who, nm, other, value, from_, to_, learnt⟩ : Fa) = false by simp only [kindB]; rw [← HWH.out]; simp)) (by decide) HX.out
      | true =>
        by_cases ho1 : other = -1
        · subst ho1
          have hq2 : ((-1 : Int) == who) = false := by
            have h := HWH.out
            rw [beq_eq_false_iff_ne]
            intro e
            rw [← e] at h
            exact absurd h (by decide)
          have HKI := Lib.hid (show kindB (⟨who, nm, (-1), value, from_, to_, learnt⟩ : Fa) = true by simp only [kindB]; rw [← HWH.out]; simp)
          go_wp2_with fail
          refine (rsmall_any value _).mono ?_
          obtain ⟨bc, hbc⟩ : ∃ b, b = coinB value := ⟨_, rfl⟩
          rw [← hbc]
          have HCO := Lib.hid hbc
          clear hbc
          rintro e w104 ⟨rfl, rfl⟩
          cases bc with
          | false =>
            go_wp2_with fail
            go_ret
            exact radd_no (code3 H5.out HW2.out.symm HKI.out HCO.out.symm) (by decide) HX.out
          | true =>
            go_wp2_with fail
            refine (isday_any from_ _).mono ?_
            obtain ⟨bf, hbf⟩ : ∃ b, b = dayB from_ := ⟨_, rfl⟩
            rw [← hbf]
            have HFR := Lib.hid hbf
            clear hbf
            rintro e w101 ⟨rfl, rfl⟩
            go_wp2_with fail
            refine (isday_any learnt _).mono ?_
            obtain ⟨bl, hbl⟩ : ∃ b, b = dayB learnt := ⟨_, rfl⟩
            rw [← hbl]
            have HLN := Lib.hid hbl
            clear hbl
            rintro e w102 ⟨rfl, rfl⟩
            go_wp2_with fail
            refine (isday_any to_ _).mono ?_
            obtain ⟨bt, hbt⟩ : ∃ b, b = dayB to_ := ⟨_, rfl⟩
            rw [← hbt]
            have HTO := Lib.hid hbt
            clear hbt
            rintro e w103 ⟨rfl, rfl⟩
            cases bf with
            | false =>
              go_wp2_with fail
              go_ret
              exact radd_no (code4 H5.out HW2.out.symm HKI.out HCO.out.symm (show daysB (⟨who, nm, (-1), value, from_, to_, learnt⟩ : Fa) = false by simp only [daysB]; rw [← HFR.out]; simp)) (by decide) HX.out
            | true =>
              cases bl with
              | false =>
                go_wp2_with fail
                go_ret
                exact radd_no (code4 H5.out HW2.out.symm HKI.out HCO.out.symm (show daysB (⟨who, nm, (-1), value, from_, to_, learnt⟩ : Fa) = false by simp only [daysB]; rw [← HFR.out, ← HLN.out]; simp)) (by decide) HX.out
              | true =>
                by_cases ht0 : to_ = 0
                · subst ht0
                  have HDA := Lib.hid (show daysB (⟨who, nm, (-1), value, from_, 0, learnt⟩ : Fa) = true by simp only [daysB]; rw [← HFR.out, ← HLN.out]; simp)
                  go_upto_region 18 with fail
                  (try clear hq1)
                  (try clear hq)
                  (try clear hq2)
                  refine wp_region_held_drew (S := (fun w' => w'.cell? ⟨K, 0, none⟩ = some (.int .i64 who) ∧ w'.cell? ⟨K, 1, none⟩ = some (.string ⟨nm.toArray⟩) ∧ w'.cell? ⟨K, 2, none⟩ = some (.int .i64 (-1)) ∧ w'.cell? ⟨K, 3, none⟩ = some (.int .i64 value) ∧ w'.cell? ⟨K, 4, none⟩ = some (.int .i64 from_) ∧ w'.cell? ⟨K, 5, none⟩ = some (.int .i64 0) ∧ w'.cell? ⟨K, 6, none⟩ = some (.int .i64 learnt))) (by kernel_rfl) ?_ (fun hHeld => ?_)
                  · exact ⟨k0, k1, k2, k3, k4, k5, k6⟩
                  refine wpAnyH_take (i := 0) (v := ?_) rfl (by kernel_rfl) (by kernel_rfl) (by kernel_rfl) (fun _ _ _ h => h) (Or.inl ⟨by rfl, ?_⟩) (by assumption) ?_
                  rotate_left
                  · intro w hSw; (try dsimp only at hSw); go_simp; try with_reducible rfl
                  (try dsimp only [Act.put, List.setIfInBounds_toArray, List.set_cons_zero, List.set_cons_succ])
                  refine wpAnyH_take (i := 1) (v := ?_) rfl (by kernel_rfl) (by kernel_rfl) (by kernel_rfl) (fun _ _ _ h => h) (Or.inl ⟨by rfl, ?_⟩) (by assumption) ?_
                  rotate_left
                  · intro w hSw; (try dsimp only at hSw); go_simp; try with_reducible rfl
                  (try dsimp only [Act.put, List.setIfInBounds_toArray, List.set_cons_zero, List.set_cons_succ])
                  refine wpAnyH_take (i := 2) (v := ?_) rfl (by kernel_rfl) (by kernel_rfl) (by kernel_rfl) (fun _ _ _ h => h) (Or.inl ⟨by rfl, ?_⟩) (by assumption) ?_
                  rotate_left
                  · intro w hSw; (try dsimp only at hSw); go_simp; try with_reducible rfl
                  (try dsimp only [Act.put, List.setIfInBounds_toArray, List.set_cons_zero, List.set_cons_succ])
                  refine wpAnyH_take (i := 3) (v := ?_) rfl (by kernel_rfl) (by kernel_rfl) (by kernel_rfl) (fun _ _ _ h => h) (Or.inl ⟨by rfl, ?_⟩) (by assumption) ?_
                  rotate_left
                  · intro w hSw; (try dsimp only at hSw); go_simp; try with_reducible rfl
                  (try dsimp only [Act.put, List.setIfInBounds_toArray, List.set_cons_zero, List.set_cons_succ])
                  refine wpAnyH_take (i := 5) (v := ?_) rfl (by kernel_rfl) (by kernel_rfl) (by kernel_rfl) (fun _ _ _ h => h) (Or.inl ⟨by rfl, ?_⟩) (by assumption) ?_
                  rotate_left
                  · intro w hSw; (try dsimp only at hSw); go_simp; try with_reducible rfl
                  (try dsimp only [Act.put, List.setIfInBounds_toArray, List.set_cons_zero, List.set_cons_succ])
                  refine wpAnyH_ready (rs := [4, 6]) (by kernel_rfl) (by simp) ?_
                  refine AllReadyH.cons rfl (fun K2 hK2 => ?_) ?_
                  · have y0d : (W.drewN 1).cell? ⟨b, 0, none⟩ = some (.slice A0 l.length c0) := cell_ext (ext_drewN W 1) y0
                    go_simp
                    refine hK2.out _ _ ?_ (fun hHeld => ?_)
                    · exact ⟨(cell_ext (ext_drewN W 1) k0), (cell_ext (ext_drewN W 1) k1), (cell_ext (ext_drewN W 1) k2), (cell_ext (ext_drewN W 1) k3), (cell_ext (ext_drewN W 1) k4), (cell_ext (ext_drewN W 1) k5), (cell_ext (ext_drewN W 1) k6)⟩
                    clear hK2 K2
                    (try dsimp only [Act.put, List.setIfInBounds_toArray, List.set_cons_zero, List.set_cons_succ])
                    refine wpAnyH_ready (rs := [6]) (by kernel_rfl) (by simp) ?_
                    refine AllReadyH.cons rfl (fun K2 hK2 => ?_) ?_
                    · go_simp
                      have HW6 := Lib.hid (ext_trans (ext_alloc W (.cells #[.int .i64 who, .string ⟨nm.toArray⟩, .int .i64 (-1), .int .i64 value, .int .i64 from_, .int .i64 0, .int .i64 learnt] 29)) (ext_drewN (W.alloc (.cells #[.int .i64 who, .string ⟨nm.toArray⟩, .int .i64 (-1), .int .i64 value, .int .i64 from_, .int .i64 0, .int .i64 learnt] 29)) 1))
                      refine hK2.out _ _ ?_ (fun hHeld => ?_)
                      · exact ⟨(cell_ext HW6.out k0), (cell_ext HW6.out k1), (cell_ext HW6.out k2), (cell_ext HW6.out k3), (cell_ext HW6.out k4), (cell_ext HW6.out k5), (cell_ext HW6.out k6)⟩
                      clear hK2 K2
                      (try dsimp only [Act.put, List.setIfInBounds_toArray, List.set_cons_zero, List.set_cons_succ])
                      refine wpAnyH_ready (rs := [7]) (by kernel_rfl) (by simp) ?_
                      refine AllReadyH.cons rfl (fun K2 hK2 => ?_) ?_
                      · refine step_append_rd _ (by rfl) _ _ _ (by rfl) base 29 i0 _ 7 64 Tryd.underlying22 HI.out HZ0.out HZ1.out HZ2.out rfl (by omega) (.slice A0 l.length c0) l.length (l.flatMap faC) (by rfl) (own_ext HOW.out HW6.out) (some ⟨W.heap.size, 0, none⟩) 1 1 (faC ⟨who, nm, (-1), value, from_, 0, learnt⟩) (by rfl) (fun h => by cases h) rfl (fun j u hj => ⟨W.heap.size, 0, rfl, by rw [Nat.zero_add]; exact (Blk.new W 29 (faC ⟨who, nm, (-1), value, from_, 0, learnt⟩)).cell j hj⟩) (faC_one _) (by unfold maxLen; omega) (by omega) (Nat.le_trans (Nat.le_trans HBW.out HX.out.size) HW6.out.size) ?_
                        intro v1 w1 hown1 hg1
                        obtain ⟨A1, c1, rfl, _⟩ := own_slice hown1
                        have HDN := Lib.hid (add_done (TF := 39) (T := 29) (by decide) (x := ⟨who, nm, (-1), value, from_, 0, learnt⟩) HBB.out (HFB.out.ext (HW6.out.mono (show b + 1 ≤ _ from HFB.out.lt))) (own_ext HOW.out HW6.out) (ext_trans HX.out HW6.out) HBW.out hown1 hg1)
                        have hrow : some b ≠ (Value.slice A0 l.length c0).ownBlock := fun e => by
                          obtain ⟨c, fz, h⟩ := Lib.ownsRow_kind HOW.out b e.symm
                          have h2 := HFB.out
                          unfold Blk at h2
                          rw [h2] at h
                          simp only [Option.some.injEq, Obj.cells.injEq] at h
                          exact absurd h.2.1 (by decide)
                        have hrowK : some K ≠ (Value.slice A0 l.length c0).ownBlock := fun e => by
                          have := (HO0.out.lt K e.symm).2
                          rw [HKE.out] at this
                          omega
                        have hKb : K ≠ b := by
                          have := HBL.out
                          rw [HKE.out]
                          omega
                        have hb1 := blk_grown (HFB.out.ext (HW6.out.mono (show b + 1 ≤ _ from HFB.out.lt))) hg1 hrow
                        have z1 := hb1.cell 0 rfl
                        have z2 := hb1.free 0
                        refine hK2.out _ _ ?_ (fun hHeld => ?_)
                        · exact ⟨hg1.cell (cell_ext HW6.out k0) hrowK, hg1.cell (cell_ext HW6.out k1) hrowK, hg1.cell (cell_ext HW6.out k2) hrowK, hg1.cell (cell_ext HW6.out k3) hrowK, hg1.cell (cell_ext HW6.out k4) hrowK, hg1.cell (cell_ext HW6.out k5) hrowK, hg1.cell (cell_ext HW6.out k6) hrowK⟩
                        clear hK2 K2
                        (try dsimp only [Act.put, List.setIfInBounds_toArray, List.set_cons_zero, List.set_cons_succ])
                        refine wpAnyH_take (i := 8) (v := ?_) rfl (by kernel_rfl) (by kernel_rfl) (by kernel_rfl) (fun _ _ _ h => h) (Or.inl ⟨by rfl, ?_⟩) (by assumption) ?_
                        rotate_left
                        · intro w hSw; (try dsimp only at hSw); go_simp; try with_reducible rfl
                        (try dsimp only [Act.put, List.setIfInBounds_toArray, List.set_cons_zero, List.set_cons_succ])
                        refine wpAnyH_take (i := 9) (v := ?_) rfl (by kernel_rfl) (by kernel_rfl) (by kernel_rfl) (fun _ _ _ h => h) (Or.inl ⟨by rfl, ?_⟩) (by assumption) ?_
                        rotate_left
                        · intro w hSw; (try dsimp only at hSw); go_simp; try with_reducible rfl
                        (try dsimp only [Act.put, List.setIfInBounds_toArray, List.set_cons_zero, List.set_cons_succ])
                        refine wpAnyH_ready (rs := [10]) (by kernel_rfl) (by simp) ?_
                        refine AllReadyH.cons rfl (fun K2 hK2 => ?_) ?_
                        · go_simp
                          refine hK2.out _ _ ?_ (fun hHeld => ?_)
                          · exact ⟨cell_set_other (hg1.cell (cell_ext HW6.out k0) hrowK) hKb _, cell_set_other (hg1.cell (cell_ext HW6.out k1) hrowK) hKb _, cell_set_other (hg1.cell (cell_ext HW6.out k2) hrowK) hKb _, cell_set_other (hg1.cell (cell_ext HW6.out k3) hrowK) hKb _, cell_set_other (hg1.cell (cell_ext HW6.out k4) hrowK) hKb _, cell_set_other (hg1.cell (cell_ext HW6.out k5) hrowK) hKb _, cell_set_other (hg1.cell (cell_ext HW6.out k6) hrowK) hKb _⟩
                          clear hK2 K2
                          (try dsimp only [Act.put, List.setIfInBounds_toArray, List.set_cons_zero, List.set_cons_succ])
                          refine wpAnyH_done (by kernel_rfl) ?_ _
                          go_wp2_with fail
                          go_ret
                          exact .inl ⟨code0 H5.out HW2.out.symm HKI.out HCO.out.symm HDA.out, rfl, HDN.out⟩
                        exact AllReadyH.nil
                      exact AllReadyH.nil
                    exact AllReadyH.nil
                  refine AllReadyH.cons rfl (fun K2 hK2 => ?_) ?_
                  · go_simp
                    have HW6 := Lib.hid (ext_trans (ext_alloc W (.cells #[.int .i64 who, .string ⟨nm.toArray⟩, .int .i64 (-1), .int .i64 value, .int .i64 from_, .int .i64 0, .int .i64 learnt] 29)) (ext_drewN (W.alloc (.cells #[.int .i64 who, .string ⟨nm.toArray⟩, .int .i64 (-1), .int .i64 value, .int .i64 from_, .int .i64 0, .int .i64 learnt] 29)) 1))
                    refine hK2.out _ _ ?_ (fun hHeld => ?_)
                    · exact ⟨(cell_ext HW6.out k0), (cell_ext HW6.out k1), (cell_ext HW6.out k2), (cell_ext HW6.out k3), (cell_ext HW6.out k4), (cell_ext HW6.out k5), (cell_ext HW6.out k6)⟩
                    clear hK2 K2
                    (try dsimp only [Act.put, List.setIfInBounds_toArray, List.set_cons_zero, List.set_cons_succ])
                    refine wpAnyH_ready (rs := [4]) (by kernel_rfl) (by simp) ?_
                    refine AllReadyH.cons rfl (fun K2 hK2 => ?_) ?_
                    · have y0e : (W.alloc (.cells #[.int .i64 who, .string ⟨nm.toArray⟩, .int .i64 (-1), .int .i64 value, .int .i64 from_, .int .i64 0, .int .i64 learnt] 29)).drew.cell? ⟨b, 0, none⟩ = some (.slice A0 l.length c0) := cell_ext HW6.out y0
                      go_simp
                      refine hK2.out _ _ ?_ (fun hHeld => ?_)
                      · exact ⟨(cell_ext HW6.out k0), (cell_ext HW6.out k1), (cell_ext HW6.out k2), (cell_ext HW6.out k3), (cell_ext HW6.out k4), (cell_ext HW6.out k5), (cell_ext HW6.out k6)⟩
                      clear hK2 K2
                      (try dsimp only [Act.put, List.setIfInBounds_toArray, List.set_cons_zero, List.set_cons_succ])
                      refine wpAnyH_ready (rs := [7]) (by kernel_rfl) (by simp) ?_
                      refine AllReadyH.cons rfl (fun K2 hK2 => ?_) ?_
                      · refine step_append_rd _ (by rfl) _ _ _ (by rfl) base 29 i0 _ 7 64 Tryd.underlying22 HI.out HZ0.out HZ1.out HZ2.out rfl (by omega) (.slice A0 l.length c0) l.length (l.flatMap faC) (by rfl) (own_ext HOW.out HW6.out) (some ⟨W.heap.size, 0, none⟩) 1 1 (faC ⟨who, nm, (-1), value, from_, 0, learnt⟩) (by rfl) (fun h => by cases h) rfl (fun j u hj => ⟨W.heap.size, 0, rfl, by rw [Nat.zero_add]; exact (Blk.new W 29 (faC ⟨who, nm, (-1), value, from_, 0, learnt⟩)).cell j hj⟩) (faC_one _) (by unfold maxLen; omega) (by omega) (Nat.le_trans (Nat.le_trans HBW.out HX.out.size) HW6.out.size) ?_
                        intro v1 w1 hown1 hg1
                        obtain ⟨A1, c1, rfl, _⟩ := own_slice hown1
                        have HDN := Lib.hid (add_done (TF := 39) (T := 29) (by decide) (x := ⟨who, nm, (-1), value, from_, 0, learnt⟩) HBB.out (HFB.out.ext (HW6.out.mono (show b + 1 ≤ _ from HFB.out.lt))) (own_ext HOW.out HW6.out) (ext_trans HX.out HW6.out) HBW.out hown1 hg1)
                        have hrow : some b ≠ (Value.slice A0 l.length c0).ownBlock := fun e => by
                          obtain ⟨c, fz, h⟩ := Lib.ownsRow_kind HOW.out b e.symm
                          have h2 := HFB.out
                          unfold Blk at h2
                          rw [h2] at h
                          simp only [Option.some.injEq, Obj.cells.injEq] at h
                          exact absurd h.2.1 (by decide)
                        have hrowK : some K ≠ (Value.slice A0 l.length c0).ownBlock := fun e => by
                          have := (HO0.out.lt K e.symm).2
                          rw [HKE.out] at this
                          omega
                        have hKb : K ≠ b := by
                          have := HBL.out
                          rw [HKE.out]
                          omega
                        have hb1 := blk_grown (HFB.out.ext (HW6.out.mono (show b + 1 ≤ _ from HFB.out.lt))) hg1 hrow
                        have z1 := hb1.cell 0 rfl
                        have z2 := hb1.free 0
                        refine hK2.out _ _ ?_ (fun hHeld => ?_)
                        · exact ⟨hg1.cell (cell_ext HW6.out k0) hrowK, hg1.cell (cell_ext HW6.out k1) hrowK, hg1.cell (cell_ext HW6.out k2) hrowK, hg1.cell (cell_ext HW6.out k3) hrowK, hg1.cell (cell_ext HW6.out k4) hrowK, hg1.cell (cell_ext HW6.out k5) hrowK, hg1.cell (cell_ext HW6.out k6) hrowK⟩
                        clear hK2 K2
                        (try dsimp only [Act.put, List.setIfInBounds_toArray, List.set_cons_zero, List.set_cons_succ])
                        refine wpAnyH_take (i := 8) (v := ?_) rfl (by kernel_rfl) (by kernel_rfl) (by kernel_rfl) (fun _ _ _ h => h) (Or.inl ⟨by rfl, ?_⟩) (by assumption) ?_
                        rotate_left
                        · intro w hSw; (try dsimp only at hSw); go_simp; try with_reducible rfl
                        (try dsimp only [Act.put, List.setIfInBounds_toArray, List.set_cons_zero, List.set_cons_succ])
                        refine wpAnyH_take (i := 9) (v := ?_) rfl (by kernel_rfl) (by kernel_rfl) (by kernel_rfl) (fun _ _ _ h => h) (Or.inl ⟨by rfl, ?_⟩) (by assumption) ?_
                        rotate_left
                        · intro w hSw; (try dsimp only at hSw); go_simp; try with_reducible rfl
                        (try dsimp only [Act.put, List.setIfInBounds_toArray, List.set_cons_zero, List.set_cons_succ])
                        refine wpAnyH_ready (rs := [10]) (by kernel_rfl) (by simp) ?_
                        refine AllReadyH.cons rfl (fun K2 hK2 => ?_) ?_
                        · go_simp
                          refine hK2.out _ _ ?_ (fun hHeld => ?_)
                          · exact ⟨cell_set_other (hg1.cell (cell_ext HW6.out k0) hrowK) hKb _, cell_set_other (hg1.cell (cell_ext HW6.out k1) hrowK) hKb _, cell_set_other (hg1.cell (cell_ext HW6.out k2) hrowK) hKb _, cell_set_other (hg1.cell (cell_ext HW6.out k3) hrowK) hKb _, cell_set_other (hg1.cell (cell_ext HW6.out k4) hrowK) hKb _, cell_set_other (hg1.cell (cell_ext HW6.out k5) hrowK) hKb _, cell_set_other (hg1.cell (cell_ext HW6.out k6) hrowK) hKb _⟩
                          clear hK2 K2
                          (try dsimp only [Act.put, List.setIfInBounds_toArray, List.set_cons_zero, List.set_cons_succ])
                          refine wpAnyH_done (by kernel_rfl) ?_ _
                          go_wp2_with fail
                          go_ret
                          exact .inl ⟨code0 H5.out HW2.out.symm HKI.out HCO.out.symm HDA.out, rfl, HDN.out⟩
                        exact AllReadyH.nil
                      exact AllReadyH.nil
                    exact AllReadyH.nil
                  exact AllReadyH.nil
                · have hq : (to_ == 0) = false := by simp [ht0]
                  have hqb : (to_ != 0) = true := by simp [ht0]
                  have HT0 := Lib.hid ht0
                  clear ht0
                  cases bt with
                  | false =>
                    go_wp2_with fail
                    go_ret
                    exact radd_no (code4 H5.out HW2.out.symm HKI.out HCO.out.symm (show daysB (⟨who, nm, (-1), value, from_, to_, learnt⟩ : Fa) = false by simp only [daysB]; rw [← HFR.out, ← HLN.out, ← HTO.out]; simp [HT0.out])) (by decide) HX.out
                  | true =>
                    by_cases hle : to_ ≤ from_
                    · have HLE := Lib.hid hle
                      go_wp2_with fail
                      go_ret
                      exact radd_no (code4 H5.out HW2.out.symm HKI.out HCO.out.symm (show daysB (⟨who, nm, (-1), value, from_, to_, learnt⟩ : Fa) = false by simp only [daysB]; rw [← HFR.out, ← HLN.out, ← HTO.out, decide_eq_true HLE.out]; simp [HT0.out])) (by decide) HX.out
                    · have HLE := Lib.hid hle
                      have HDA := Lib.hid (show daysB (⟨who, nm, (-1), value, from_, to_, learnt⟩ : Fa) = true by simp only [daysB]; rw [← HFR.out, ← HLN.out, ← HTO.out, decide_eq_false HLE.out]; simp)
                      go_upto_region 18 with fail
                      (try clear hq1)
                      (try clear hq)
                      (try clear hq2)
                      refine wp_region_held_drew (S := (fun w' => w'.cell? ⟨K, 0, none⟩ = some (.int .i64 who) ∧ w'.cell? ⟨K, 1, none⟩ = some (.string ⟨nm.toArray⟩) ∧ w'.cell? ⟨K, 2, none⟩ = some (.int .i64 (-1)) ∧ w'.cell? ⟨K, 3, none⟩ = some (.int .i64 value) ∧ w'.cell? ⟨K, 4, none⟩ = some (.int .i64 from_) ∧ w'.cell? ⟨K, 5, none⟩ = some (.int .i64 to_) ∧ w'.cell? ⟨K, 6, none⟩ = some (.int .i64 learnt))) (by kernel_rfl) ?_ (fun hHeld => ?_)
                      · exact ⟨k0, k1, k2, k3, k4, k5, k6⟩
                      refine wpAnyH_take (i := 0) (v := ?_) rfl (by kernel_rfl) (by kernel_rfl) (by kernel_rfl) (fun _ _ _ h => h) (Or.inl ⟨by rfl, ?_⟩) (by assumption) ?_
                      rotate_left
                      · intro w hSw; (try dsimp only at hSw); go_simp; try with_reducible rfl
                      (try dsimp only [Act.put, List.setIfInBounds_toArray, List.set_cons_zero, List.set_cons_succ])
                      refine wpAnyH_take (i := 1) (v := ?_) rfl (by kernel_rfl) (by kernel_rfl) (by kernel_rfl) (fun _ _ _ h => h) (Or.inl ⟨by rfl, ?_⟩) (by assumption) ?_
                      rotate_left
                      · intro w hSw; (try dsimp only at hSw); go_simp; try with_reducible rfl
                      (try dsimp only [Act.put, List.setIfInBounds_toArray, List.set_cons_zero, List.set_cons_succ])
                      refine wpAnyH_take (i := 2) (v := ?_) rfl (by kernel_rfl) (by kernel_rfl) (by kernel_rfl) (fun _ _ _ h => h) (Or.inl ⟨by rfl, ?_⟩) (by assumption) ?_
                      rotate_left
                      · intro w hSw; (try dsimp only at hSw); go_simp; try with_reducible rfl
                      (try dsimp only [Act.put, List.setIfInBounds_toArray, List.set_cons_zero, List.set_cons_succ])
                      refine wpAnyH_take (i := 3) (v := ?_) rfl (by kernel_rfl) (by kernel_rfl) (by kernel_rfl) (fun _ _ _ h => h) (Or.inl ⟨by rfl, ?_⟩) (by assumption) ?_
                      rotate_left
                      · intro w hSw; (try dsimp only at hSw); go_simp; try with_reducible rfl
                      (try dsimp only [Act.put, List.setIfInBounds_toArray, List.set_cons_zero, List.set_cons_succ])
                      refine wpAnyH_take (i := 5) (v := ?_) rfl (by kernel_rfl) (by kernel_rfl) (by kernel_rfl) (fun _ _ _ h => h) (Or.inl ⟨by rfl, ?_⟩) (by assumption) ?_
                      rotate_left
                      · intro w hSw; (try dsimp only at hSw); go_simp; try with_reducible rfl
                      (try dsimp only [Act.put, List.setIfInBounds_toArray, List.set_cons_zero, List.set_cons_succ])
                      refine wpAnyH_ready (rs := [4, 6]) (by kernel_rfl) (by simp) ?_
                      refine AllReadyH.cons rfl (fun K2 hK2 => ?_) ?_
                      · have y0d : (W.drewN 1).cell? ⟨b, 0, none⟩ = some (.slice A0 l.length c0) := cell_ext (ext_drewN W 1) y0
                        go_simp
                        refine hK2.out _ _ ?_ (fun hHeld => ?_)
                        · exact ⟨(cell_ext (ext_drewN W 1) k0), (cell_ext (ext_drewN W 1) k1), (cell_ext (ext_drewN W 1) k2), (cell_ext (ext_drewN W 1) k3), (cell_ext (ext_drewN W 1) k4), (cell_ext (ext_drewN W 1) k5), (cell_ext (ext_drewN W 1) k6)⟩
                        clear hK2 K2
                        (try dsimp only [Act.put, List.setIfInBounds_toArray, List.set_cons_zero, List.set_cons_succ])
                        refine wpAnyH_ready (rs := [6]) (by kernel_rfl) (by simp) ?_
                        refine AllReadyH.cons rfl (fun K2 hK2 => ?_) ?_
                        · go_simp
                          have HW6 := Lib.hid (ext_trans (ext_alloc W (.cells #[.int .i64 who, .string ⟨nm.toArray⟩, .int .i64 (-1), .int .i64 value, .int .i64 from_, .int .i64 to_, .int .i64 learnt] 29)) (ext_drewN (W.alloc (.cells #[.int .i64 who, .string ⟨nm.toArray⟩, .int .i64 (-1), .int .i64 value, .int .i64 from_, .int .i64 to_, .int .i64 learnt] 29)) 1))
                          refine hK2.out _ _ ?_ (fun hHeld => ?_)
                          · exact ⟨(cell_ext HW6.out k0), (cell_ext HW6.out k1), (cell_ext HW6.out k2), (cell_ext HW6.out k3), (cell_ext HW6.out k4), (cell_ext HW6.out k5), (cell_ext HW6.out k6)⟩
                          clear hK2 K2
                          (try dsimp only [Act.put, List.setIfInBounds_toArray, List.set_cons_zero, List.set_cons_succ])
                          refine wpAnyH_ready (rs := [7]) (by kernel_rfl) (by simp) ?_
                          refine AllReadyH.cons rfl (fun K2 hK2 => ?_) ?_
                          · refine step_append_rd _ (by rfl) _ _ _ (by rfl) base 29 i0 _ 7 64 Tryd.underlying22 HI.out HZ0.out HZ1.out HZ2.out rfl (by omega) (.slice A0 l.length c0) l.length (l.flatMap faC) (by rfl) (own_ext HOW.out HW6.out) (some ⟨W.heap.size, 0, none⟩) 1 1 (faC ⟨who, nm, (-1), value, from_, to_, learnt⟩) (by rfl) (fun h => by cases h) rfl (fun j u hj => ⟨W.heap.size, 0, rfl, by rw [Nat.zero_add]; exact (Blk.new W 29 (faC ⟨who, nm, (-1), value, from_, to_, learnt⟩)).cell j hj⟩) (faC_one _) (by unfold maxLen; omega) (by omega) (Nat.le_trans (Nat.le_trans HBW.out HX.out.size) HW6.out.size) ?_
                            intro v1 w1 hown1 hg1
                            obtain ⟨A1, c1, rfl, _⟩ := own_slice hown1
                            have HDN := Lib.hid (add_done (TF := 39) (T := 29) (by decide) (x := ⟨who, nm, (-1), value, from_, to_, learnt⟩) HBB.out (HFB.out.ext (HW6.out.mono (show b + 1 ≤ _ from HFB.out.lt))) (own_ext HOW.out HW6.out) (ext_trans HX.out HW6.out) HBW.out hown1 hg1)
                            have hrow : some b ≠ (Value.slice A0 l.length c0).ownBlock := fun e => by
                              obtain ⟨c, fz, h⟩ := Lib.ownsRow_kind HOW.out b e.symm
                              have h2 := HFB.out
                              unfold Blk at h2
                              rw [h2] at h
                              simp only [Option.some.injEq, Obj.cells.injEq] at h
                              exact absurd h.2.1 (by decide)
                            have hrowK : some K ≠ (Value.slice A0 l.length c0).ownBlock := fun e => by
                              have := (HO0.out.lt K e.symm).2
                              rw [HKE.out] at this
                              omega
                            have hKb : K ≠ b := by
                              have := HBL.out
                              rw [HKE.out]
                              omega
                            have hb1 := blk_grown (HFB.out.ext (HW6.out.mono (show b + 1 ≤ _ from HFB.out.lt))) hg1 hrow
                            have z1 := hb1.cell 0 rfl
                            have z2 := hb1.free 0
                            refine hK2.out _ _ ?_ (fun hHeld => ?_)
                            · exact ⟨hg1.cell (cell_ext HW6.out k0) hrowK, hg1.cell (cell_ext HW6.out k1) hrowK, hg1.cell (cell_ext HW6.out k2) hrowK, hg1.cell (cell_ext HW6.out k3) hrowK, hg1.cell (cell_ext HW6.out k4) hrowK, hg1.cell (cell_ext HW6.out k5) hrowK, hg1.cell (cell_ext HW6.out k6) hrowK⟩
                            clear hK2 K2
                            (try dsimp only [Act.put, List.setIfInBounds_toArray, List.set_cons_zero, List.set_cons_succ])
                            refine wpAnyH_take (i := 8) (v := ?_) rfl (by kernel_rfl) (by kernel_rfl) (by kernel_rfl) (fun _ _ _ h => h) (Or.inl ⟨by rfl, ?_⟩) (by assumption) ?_
                            rotate_left
                            · intro w hSw; (try dsimp only at hSw); go_simp; try with_reducible rfl
                            (try dsimp only [Act.put, List.setIfInBounds_toArray, List.set_cons_zero, List.set_cons_succ])
                            refine wpAnyH_take (i := 9) (v := ?_) rfl (by kernel_rfl) (by kernel_rfl) (by kernel_rfl) (fun _ _ _ h => h) (Or.inl ⟨by rfl, ?_⟩) (by assumption) ?_
                            rotate_left
                            · intro w hSw; (try dsimp only at hSw); go_simp; try with_reducible rfl
                            (try dsimp only [Act.put, List.setIfInBounds_toArray, List.set_cons_zero, List.set_cons_succ])
                            refine wpAnyH_ready (rs := [10]) (by kernel_rfl) (by simp) ?_
                            refine AllReadyH.cons rfl (fun K2 hK2 => ?_) ?_
                            · go_simp
                              refine hK2.out _ _ ?_ (fun hHeld => ?_)
                              · exact ⟨cell_set_other (hg1.cell (cell_ext HW6.out k0) hrowK) hKb _, cell_set_other (hg1.cell (cell_ext HW6.out k1) hrowK) hKb _, cell_set_other (hg1.cell (cell_ext HW6.out k2) hrowK) hKb _, cell_set_other (hg1.cell (cell_ext HW6.out k3) hrowK) hKb _, cell_set_other (hg1.cell (cell_ext HW6.out k4) hrowK) hKb _, cell_set_other (hg1.cell (cell_ext HW6.out k5) hrowK) hKb _, cell_set_other (hg1.cell (cell_ext HW6.out k6) hrowK) hKb _⟩
                              clear hK2 K2
                              (try dsimp only [Act.put, List.setIfInBounds_toArray, List.set_cons_zero, List.set_cons_succ])
                              refine wpAnyH_done (by kernel_rfl) ?_ _
                              go_wp2_with fail
                              go_ret
                              exact .inl ⟨code0 H5.out HW2.out.symm HKI.out HCO.out.symm HDA.out, rfl, HDN.out⟩
                            exact AllReadyH.nil
                          exact AllReadyH.nil
                        exact AllReadyH.nil
                      refine AllReadyH.cons rfl (fun K2 hK2 => ?_) ?_
                      · go_simp
                        have HW6 := Lib.hid (ext_trans (ext_alloc W (.cells #[.int .i64 who, .string ⟨nm.toArray⟩, .int .i64 (-1), .int .i64 value, .int .i64 from_, .int .i64 to_, .int .i64 learnt] 29)) (ext_drewN (W.alloc (.cells #[.int .i64 who, .string ⟨nm.toArray⟩, .int .i64 (-1), .int .i64 value, .int .i64 from_, .int .i64 to_, .int .i64 learnt] 29)) 1))
                        refine hK2.out _ _ ?_ (fun hHeld => ?_)
                        · exact ⟨(cell_ext HW6.out k0), (cell_ext HW6.out k1), (cell_ext HW6.out k2), (cell_ext HW6.out k3), (cell_ext HW6.out k4), (cell_ext HW6.out k5), (cell_ext HW6.out k6)⟩
                        clear hK2 K2
                        (try dsimp only [Act.put, List.setIfInBounds_toArray, List.set_cons_zero, List.set_cons_succ])
                        refine wpAnyH_ready (rs := [4]) (by kernel_rfl) (by simp) ?_
                        refine AllReadyH.cons rfl (fun K2 hK2 => ?_) ?_
                        · have y0e : (W.alloc (.cells #[.int .i64 who, .string ⟨nm.toArray⟩, .int .i64 (-1), .int .i64 value, .int .i64 from_, .int .i64 to_, .int .i64 learnt] 29)).drew.cell? ⟨b, 0, none⟩ = some (.slice A0 l.length c0) := cell_ext HW6.out y0
                          go_simp
                          refine hK2.out _ _ ?_ (fun hHeld => ?_)
                          · exact ⟨(cell_ext HW6.out k0), (cell_ext HW6.out k1), (cell_ext HW6.out k2), (cell_ext HW6.out k3), (cell_ext HW6.out k4), (cell_ext HW6.out k5), (cell_ext HW6.out k6)⟩
                          clear hK2 K2
                          (try dsimp only [Act.put, List.setIfInBounds_toArray, List.set_cons_zero, List.set_cons_succ])
                          refine wpAnyH_ready (rs := [7]) (by kernel_rfl) (by simp) ?_
                          refine AllReadyH.cons rfl (fun K2 hK2 => ?_) ?_
                          · refine step_append_rd _ (by rfl) _ _ _ (by rfl) base 29 i0 _ 7 64 Tryd.underlying22 HI.out HZ0.out HZ1.out HZ2.out rfl (by omega) (.slice A0 l.length c0) l.length (l.flatMap faC) (by rfl) (own_ext HOW.out HW6.out) (some ⟨W.heap.size, 0, none⟩) 1 1 (faC ⟨who, nm, (-1), value, from_, to_, learnt⟩) (by rfl) (fun h => by cases h) rfl (fun j u hj => ⟨W.heap.size, 0, rfl, by rw [Nat.zero_add]; exact (Blk.new W 29 (faC ⟨who, nm, (-1), value, from_, to_, learnt⟩)).cell j hj⟩) (faC_one _) (by unfold maxLen; omega) (by omega) (Nat.le_trans (Nat.le_trans HBW.out HX.out.size) HW6.out.size) ?_
                            intro v1 w1 hown1 hg1
                            obtain ⟨A1, c1, rfl, _⟩ := own_slice hown1
                            have HDN := Lib.hid (add_done (TF := 39) (T := 29) (by decide) (x := ⟨who, nm, (-1), value, from_, to_, learnt⟩) HBB.out (HFB.out.ext (HW6.out.mono (show b + 1 ≤ _ from HFB.out.lt))) (own_ext HOW.out HW6.out) (ext_trans HX.out HW6.out) HBW.out hown1 hg1)
                            have hrow : some b ≠ (Value.slice A0 l.length c0).ownBlock := fun e => by
                              obtain ⟨c, fz, h⟩ := Lib.ownsRow_kind HOW.out b e.symm
                              have h2 := HFB.out
                              unfold Blk at h2
                              rw [h2] at h
                              simp only [Option.some.injEq, Obj.cells.injEq] at h
                              exact absurd h.2.1 (by decide)
                            have hrowK : some K ≠ (Value.slice A0 l.length c0).ownBlock := fun e => by
                              have := (HO0.out.lt K e.symm).2
                              rw [HKE.out] at this
                              omega
                            have hKb : K ≠ b := by
                              have := HBL.out
                              rw [HKE.out]
                              omega
                            have hb1 := blk_grown (HFB.out.ext (HW6.out.mono (show b + 1 ≤ _ from HFB.out.lt))) hg1 hrow
                            have z1 := hb1.cell 0 rfl
                            have z2 := hb1.free 0
                            refine hK2.out _ _ ?_ (fun hHeld => ?_)
                            · exact ⟨hg1.cell (cell_ext HW6.out k0) hrowK, hg1.cell (cell_ext HW6.out k1) hrowK, hg1.cell (cell_ext HW6.out k2) hrowK, hg1.cell (cell_ext HW6.out k3) hrowK, hg1.cell (cell_ext HW6.out k4) hrowK, hg1.cell (cell_ext HW6.out k5) hrowK, hg1.cell (cell_ext HW6.out k6) hrowK⟩
                            clear hK2 K2
                            (try dsimp only [Act.put, List.setIfInBounds_toArray, List.set_cons_zero, List.set_cons_succ])
                            refine wpAnyH_take (i := 8) (v := ?_) rfl (by kernel_rfl) (by kernel_rfl) (by kernel_rfl) (fun _ _ _ h => h) (Or.inl ⟨by rfl, ?_⟩) (by assumption) ?_
                            rotate_left
                            · intro w hSw; (try dsimp only at hSw); go_simp; try with_reducible rfl
                            (try dsimp only [Act.put, List.setIfInBounds_toArray, List.set_cons_zero, List.set_cons_succ])
                            refine wpAnyH_take (i := 9) (v := ?_) rfl (by kernel_rfl) (by kernel_rfl) (by kernel_rfl) (fun _ _ _ h => h) (Or.inl ⟨by rfl, ?_⟩) (by assumption) ?_
                            rotate_left
                            · intro w hSw; (try dsimp only at hSw); go_simp; try with_reducible rfl
                            (try dsimp only [Act.put, List.setIfInBounds_toArray, List.set_cons_zero, List.set_cons_succ])
                            refine wpAnyH_ready (rs := [10]) (by kernel_rfl) (by simp) ?_
                            refine AllReadyH.cons rfl (fun K2 hK2 => ?_) ?_
                            · go_simp
                              refine hK2.out _ _ ?_ (fun hHeld => ?_)
                              · exact ⟨cell_set_other (hg1.cell (cell_ext HW6.out k0) hrowK) hKb _, cell_set_other (hg1.cell (cell_ext HW6.out k1) hrowK) hKb _, cell_set_other (hg1.cell (cell_ext HW6.out k2) hrowK) hKb _, cell_set_other (hg1.cell (cell_ext HW6.out k3) hrowK) hKb _, cell_set_other (hg1.cell (cell_ext HW6.out k4) hrowK) hKb _, cell_set_other (hg1.cell (cell_ext HW6.out k5) hrowK) hKb _, cell_set_other (hg1.cell (cell_ext HW6.out k6) hrowK) hKb _⟩
                              clear hK2 K2
                              (try dsimp only [Act.put, List.setIfInBounds_toArray, List.set_cons_zero, List.set_cons_succ])
                              refine wpAnyH_done (by kernel_rfl) ?_ _
                              go_wp2_with fail
                              go_ret
                              exact .inl ⟨code0 H5.out HW2.out.symm HKI.out HCO.out.symm HDA.out, rfl, HDN.out⟩
                            exact AllReadyH.nil
                          exact AllReadyH.nil
                        exact AllReadyH.nil
                      exact AllReadyH.nil
        · have hq1 : (other == -1) = false := by simp [ho1]
          have hq1b : (other != -1) = true := by simp [ho1]
          have HO1 := Lib.hid hq1
          clear ho1
          cases bo with
          | false =>
            go_wp2_with fail
            go_ret
            exact radd_no (code9 H5.out HW2.out.symm (show kindB (⟨who, nm, other, value, from_, to_, learnt⟩ : Fa) = false by simp only [kindB]; rw [← HWH.out, ← HOT.out, HO1.out]; simp)) (by decide) HX.out
          | true =>
            by_cases how : other = who
            · have hq2 : (other == who) = true := by simp [how]
              have HOWH := Lib.hid hq2
              clear how
              go_wp2_with fail
              go_ret
              exact radd_no (code9 H5.out HW2.out.symm (show kindB (⟨who, nm, other, value, from_, to_, learnt⟩ : Fa) = false by simp only [kindB]; rw [← HWH.out, ← HOT.out, HOWH.out, HO1.out]; simp)) (by decide) HX.out
            · have hq2 : (other == who) = false := by simp [how]
              have HOWH := Lib.hid hq2
              clear how
              have HKI := Lib.hid (show kindB (⟨who, nm, other, value, from_, to_, learnt⟩ : Fa) = true by simp only [kindB]; rw [← HWH.out, ← HOT.out, HOWH.out]; simp)
              go_wp2_with fail
              refine (rsmall_any value _).mono ?_
              obtain ⟨bc, hbc⟩ : ∃ b, b = coinB value := ⟨_, rfl⟩
              rw [← hbc]
              have HCO := Lib.hid hbc
              clear hbc
              rintro e w104 ⟨rfl, rfl⟩
              cases bc with
              | false =>
                go_wp2_with fail
                go_ret
                exact radd_no (code3 H5.out HW2.out.symm HKI.out HCO.out.symm) (by decide) HX.out
              | true =>
                go_wp2_with fail
                refine (isday_any from_ _).mono ?_
                obtain ⟨bf, hbf⟩ : ∃ b, b = dayB from_ := ⟨_, rfl⟩
                rw [← hbf]
                have HFR := Lib.hid hbf
                clear hbf
                rintro e w101 ⟨rfl, rfl⟩
                go_wp2_with fail
                refine (isday_any learnt _).mono ?_
                obtain ⟨bl, hbl⟩ : ∃ b, b = dayB learnt := ⟨_, rfl⟩
                rw [← hbl]
                have HLN := Lib.hid hbl
                clear hbl
                rintro e w102 ⟨rfl, rfl⟩
                go_wp2_with fail
                refine (isday_any to_ _).mono ?_
                obtain ⟨bt, hbt⟩ : ∃ b, b = dayB to_ := ⟨_, rfl⟩
                rw [← hbt]
                have HTO := Lib.hid hbt
                clear hbt
                rintro e w103 ⟨rfl, rfl⟩
                cases bf with
                | false =>
                  go_wp2_with fail
                  go_ret
                  exact radd_no (code4 H5.out HW2.out.symm HKI.out HCO.out.symm (show daysB (⟨who, nm, other, value, from_, to_, learnt⟩ : Fa) = false by simp only [daysB]; rw [← HFR.out]; simp)) (by decide) HX.out
                | true =>
                  cases bl with
                  | false =>
                    go_wp2_with fail
                    go_ret
                    exact radd_no (code4 H5.out HW2.out.symm HKI.out HCO.out.symm (show daysB (⟨who, nm, other, value, from_, to_, learnt⟩ : Fa) = false by simp only [daysB]; rw [← HFR.out, ← HLN.out]; simp)) (by decide) HX.out
                  | true =>
                    by_cases ht0 : to_ = 0
                    · subst ht0
                      have HDA := Lib.hid (show daysB (⟨who, nm, other, value, from_, 0, learnt⟩ : Fa) = true by simp only [daysB]; rw [← HFR.out, ← HLN.out]; simp)
                      go_upto_region 18 with fail
                      (try clear hq1)
                      (try clear hq)
                      (try clear hq2)
                      refine wp_region_held_drew (S := (fun w' => w'.cell? ⟨K, 0, none⟩ = some (.int .i64 who) ∧ w'.cell? ⟨K, 1, none⟩ = some (.string ⟨nm.toArray⟩) ∧ w'.cell? ⟨K, 2, none⟩ = some (.int .i64 other) ∧ w'.cell? ⟨K, 3, none⟩ = some (.int .i64 value) ∧ w'.cell? ⟨K, 4, none⟩ = some (.int .i64 from_) ∧ w'.cell? ⟨K, 5, none⟩ = some (.int .i64 0) ∧ w'.cell? ⟨K, 6, none⟩ = some (.int .i64 learnt))) (by kernel_rfl) ?_ (fun hHeld => ?_)
                      · exact ⟨k0, k1, k2, k3, k4, k5, k6⟩
                      refine wpAnyH_take (i := 0) (v := ?_) rfl (by kernel_rfl) (by kernel_rfl) (by kernel_rfl) (fun _ _ _ h => h) (Or.inl ⟨by rfl, ?_⟩) (by assumption) ?_
                      rotate_left
                      · intro w hSw; (try dsimp only at hSw); go_simp; try with_reducible rfl
                      (try dsimp only [Act.put, List.setIfInBounds_toArray, List.set_cons_zero, List.set_cons_succ])
                      refine wpAnyH_take (i := 1) (v := ?_) rfl (by kernel_rfl) (by kernel_rfl) (by kernel_rfl) (fun _ _ _ h => h) (Or.inl ⟨by rfl, ?_⟩) (by assumption) ?_
                      rotate_left
                      · intro w hSw; (try dsimp only at hSw); go_simp; try with_reducible rfl
                      (try dsimp only [Act.put, List.setIfInBounds_toArray, List.set_cons_zero, List.set_cons_succ])
                      refine wpAnyH_take (i := 2) (v := ?_) rfl (by kernel_rfl) (by kernel_rfl) (by kernel_rfl) (fun _ _ _ h => h) (Or.inl ⟨by rfl, ?_⟩) (by assumption) ?_
                      rotate_left
                      · intro w hSw; (try dsimp only at hSw); go_simp; try with_reducible rfl
                      (try dsimp only [Act.put, List.setIfInBounds_toArray, List.set_cons_zero, List.set_cons_succ])
                      refine wpAnyH_take (i := 3) (v := ?_) rfl (by kernel_rfl) (by kernel_rfl) (by kernel_rfl) (fun _ _ _ h => h) (Or.inl ⟨by rfl, ?_⟩) (by assumption) ?_
                      rotate_left
                      · intro w hSw; (try dsimp only at hSw); go_simp; try with_reducible rfl
                      (try dsimp only [Act.put, List.setIfInBounds_toArray, List.set_cons_zero, List.set_cons_succ])
                      refine wpAnyH_take (i := 5) (v := ?_) rfl (by kernel_rfl) (by kernel_rfl) (by kernel_rfl) (fun _ _ _ h => h) (Or.inl ⟨by rfl, ?_⟩) (by assumption) ?_
                      rotate_left
                      · intro w hSw; (try dsimp only at hSw); go_simp; try with_reducible rfl
                      (try dsimp only [Act.put, List.setIfInBounds_toArray, List.set_cons_zero, List.set_cons_succ])
                      refine wpAnyH_ready (rs := [4, 6]) (by kernel_rfl) (by simp) ?_
                      refine AllReadyH.cons rfl (fun K2 hK2 => ?_) ?_
                      · have y0d : (W.drewN 1).cell? ⟨b, 0, none⟩ = some (.slice A0 l.length c0) := cell_ext (ext_drewN W 1) y0
                        go_simp
                        refine hK2.out _ _ ?_ (fun hHeld => ?_)
                        · exact ⟨(cell_ext (ext_drewN W 1) k0), (cell_ext (ext_drewN W 1) k1), (cell_ext (ext_drewN W 1) k2), (cell_ext (ext_drewN W 1) k3), (cell_ext (ext_drewN W 1) k4), (cell_ext (ext_drewN W 1) k5), (cell_ext (ext_drewN W 1) k6)⟩
                        clear hK2 K2
                        (try dsimp only [Act.put, List.setIfInBounds_toArray, List.set_cons_zero, List.set_cons_succ])
                        refine wpAnyH_ready (rs := [6]) (by kernel_rfl) (by simp) ?_
                        refine AllReadyH.cons rfl (fun K2 hK2 => ?_) ?_
                        · go_simp
                          have HW6 := Lib.hid (ext_trans (ext_alloc W (.cells #[.int .i64 who, .string ⟨nm.toArray⟩, .int .i64 other, .int .i64 value, .int .i64 from_, .int .i64 0, .int .i64 learnt] 29)) (ext_drewN (W.alloc (.cells #[.int .i64 who, .string ⟨nm.toArray⟩, .int .i64 other, .int .i64 value, .int .i64 from_, .int .i64 0, .int .i64 learnt] 29)) 1))
                          refine hK2.out _ _ ?_ (fun hHeld => ?_)
                          · exact ⟨(cell_ext HW6.out k0), (cell_ext HW6.out k1), (cell_ext HW6.out k2), (cell_ext HW6.out k3), (cell_ext HW6.out k4), (cell_ext HW6.out k5), (cell_ext HW6.out k6)⟩
                          clear hK2 K2
                          (try dsimp only [Act.put, List.setIfInBounds_toArray, List.set_cons_zero, List.set_cons_succ])
                          refine wpAnyH_ready (rs := [7]) (by kernel_rfl) (by simp) ?_
                          refine AllReadyH.cons rfl (fun K2 hK2 => ?_) ?_
                          · refine step_append_rd _ (by rfl) _ _ _ (by rfl) base 29 i0 _ 7 64 Tryd.underlying22 HI.out HZ0.out HZ1.out HZ2.out rfl (by omega) (.slice A0 l.length c0) l.length (l.flatMap faC) (by rfl) (own_ext HOW.out HW6.out) (some ⟨W.heap.size, 0, none⟩) 1 1 (faC ⟨who, nm, other, value, from_, 0, learnt⟩) (by rfl) (fun h => by cases h) rfl (fun j u hj => ⟨W.heap.size, 0, rfl, by rw [Nat.zero_add]; exact (Blk.new W 29 (faC ⟨who, nm, other, value, from_, 0, learnt⟩)).cell j hj⟩) (faC_one _) (by unfold maxLen; omega) (by omega) (Nat.le_trans (Nat.le_trans HBW.out HX.out.size) HW6.out.size) ?_
                            intro v1 w1 hown1 hg1
                            obtain ⟨A1, c1, rfl, _⟩ := own_slice hown1
                            have HDN := Lib.hid (add_done (TF := 39) (T := 29) (by decide) (x := ⟨who, nm, other, value, from_, 0, learnt⟩) HBB.out (HFB.out.ext (HW6.out.mono (show b + 1 ≤ _ from HFB.out.lt))) (own_ext HOW.out HW6.out) (ext_trans HX.out HW6.out) HBW.out hown1 hg1)
                            have hrow : some b ≠ (Value.slice A0 l.length c0).ownBlock := fun e => by
                              obtain ⟨c, fz, h⟩ := Lib.ownsRow_kind HOW.out b e.symm
                              have h2 := HFB.out
                              unfold Blk at h2
                              rw [h2] at h
                              simp only [Option.some.injEq, Obj.cells.injEq] at h
                              exact absurd h.2.1 (by decide)
                            have hrowK : some K ≠ (Value.slice A0 l.length c0).ownBlock := fun e => by
                              have := (HO0.out.lt K e.symm).2
                              rw [HKE.out] at this
                              omega
                            have hKb : K ≠ b := by
                              have := HBL.out
                              rw [HKE.out]
                              omega
                            have hb1 := blk_grown (HFB.out.ext (HW6.out.mono (show b + 1 ≤ _ from HFB.out.lt))) hg1 hrow
                            have z1 := hb1.cell 0 rfl
                            have z2 := hb1.free 0
                            refine hK2.out _ _ ?_ (fun hHeld => ?_)
                            · exact ⟨hg1.cell (cell_ext HW6.out k0) hrowK, hg1.cell (cell_ext HW6.out k1) hrowK, hg1.cell (cell_ext HW6.out k2) hrowK, hg1.cell (cell_ext HW6.out k3) hrowK, hg1.cell (cell_ext HW6.out k4) hrowK, hg1.cell (cell_ext HW6.out k5) hrowK, hg1.cell (cell_ext HW6.out k6) hrowK⟩
                            clear hK2 K2
                            (try dsimp only [Act.put, List.setIfInBounds_toArray, List.set_cons_zero, List.set_cons_succ])
                            refine wpAnyH_take (i := 8) (v := ?_) rfl (by kernel_rfl) (by kernel_rfl) (by kernel_rfl) (fun _ _ _ h => h) (Or.inl ⟨by rfl, ?_⟩) (by assumption) ?_
                            rotate_left
                            · intro w hSw; (try dsimp only at hSw); go_simp; try with_reducible rfl
                            (try dsimp only [Act.put, List.setIfInBounds_toArray, List.set_cons_zero, List.set_cons_succ])
                            refine wpAnyH_take (i := 9) (v := ?_) rfl (by kernel_rfl) (by kernel_rfl) (by kernel_rfl) (fun _ _ _ h => h) (Or.inl ⟨by rfl, ?_⟩) (by assumption) ?_
                            rotate_left
                            · intro w hSw; (try dsimp only at hSw); go_simp; try with_reducible rfl
                            (try dsimp only [Act.put, List.setIfInBounds_toArray, List.set_cons_zero, List.set_cons_succ])
                            refine wpAnyH_ready (rs := [10]) (by kernel_rfl) (by simp) ?_
                            refine AllReadyH.cons rfl (fun K2 hK2 => ?_) ?_
                            · go_simp
                              refine hK2.out _ _ ?_ (fun hHeld => ?_)
                              · exact ⟨cell_set_other (hg1.cell (cell_ext HW6.out k0) hrowK) hKb _, cell_set_other (hg1.cell (cell_ext HW6.out k1) hrowK) hKb _, cell_set_other (hg1.cell (cell_ext HW6.out k2) hrowK) hKb _, cell_set_other (hg1.cell (cell_ext HW6.out k3) hrowK) hKb _, cell_set_other (hg1.cell (cell_ext HW6.out k4) hrowK) hKb _, cell_set_other (hg1.cell (cell_ext HW6.out k5) hrowK) hKb _, cell_set_other (hg1.cell (cell_ext HW6.out k6) hrowK) hKb _⟩
                              clear hK2 K2
                              (try dsimp only [Act.put, List.setIfInBounds_toArray, List.set_cons_zero, List.set_cons_succ])
                              refine wpAnyH_done (by kernel_rfl) ?_ _
                              go_wp2_with fail
                              go_ret
                              exact .inl ⟨code0 H5.out HW2.out.symm HKI.out HCO.out.symm HDA.out, rfl, HDN.out⟩
                            exact AllReadyH.nil
                          exact AllReadyH.nil
                        exact AllReadyH.nil
                      refine AllReadyH.cons rfl (fun K2 hK2 => ?_) ?_
                      · go_simp
                        have HW6 := Lib.hid (ext_trans (ext_alloc W (.cells #[.int .i64 who, .string ⟨nm.toArray⟩, .int .i64 other, .int .i64 value, .int .i64 from_, .int .i64 0, .int .i64 learnt] 29)) (ext_drewN (W.alloc (.cells #[.int .i64 who, .string ⟨nm.toArray⟩, .int .i64 other, .int .i64 value, .int .i64 from_, .int .i64 0, .int .i64 learnt] 29)) 1))
                        refine hK2.out _ _ ?_ (fun hHeld => ?_)
                        · exact ⟨(cell_ext HW6.out k0), (cell_ext HW6.out k1), (cell_ext HW6.out k2), (cell_ext HW6.out k3), (cell_ext HW6.out k4), (cell_ext HW6.out k5), (cell_ext HW6.out k6)⟩
                        clear hK2 K2
                        (try dsimp only [Act.put, List.setIfInBounds_toArray, List.set_cons_zero, List.set_cons_succ])
                        refine wpAnyH_ready (rs := [4]) (by kernel_rfl) (by simp) ?_
                        refine AllReadyH.cons rfl (fun K2 hK2 => ?_) ?_
                        · have y0e : (W.alloc (.cells #[.int .i64 who, .string ⟨nm.toArray⟩, .int .i64 other, .int .i64 value, .int .i64 from_, .int .i64 0, .int .i64 learnt] 29)).drew.cell? ⟨b, 0, none⟩ = some (.slice A0 l.length c0) := cell_ext HW6.out y0
                          go_simp
                          refine hK2.out _ _ ?_ (fun hHeld => ?_)
                          · exact ⟨(cell_ext HW6.out k0), (cell_ext HW6.out k1), (cell_ext HW6.out k2), (cell_ext HW6.out k3), (cell_ext HW6.out k4), (cell_ext HW6.out k5), (cell_ext HW6.out k6)⟩
                          clear hK2 K2
                          (try dsimp only [Act.put, List.setIfInBounds_toArray, List.set_cons_zero, List.set_cons_succ])
                          refine wpAnyH_ready (rs := [7]) (by kernel_rfl) (by simp) ?_
                          refine AllReadyH.cons rfl (fun K2 hK2 => ?_) ?_
                          · refine step_append_rd _ (by rfl) _ _ _ (by rfl) base 29 i0 _ 7 64 Tryd.underlying22 HI.out HZ0.out HZ1.out HZ2.out rfl (by omega) (.slice A0 l.length c0) l.length (l.flatMap faC) (by rfl) (own_ext HOW.out HW6.out) (some ⟨W.heap.size, 0, none⟩) 1 1 (faC ⟨who, nm, other, value, from_, 0, learnt⟩) (by rfl) (fun h => by cases h) rfl (fun j u hj => ⟨W.heap.size, 0, rfl, by rw [Nat.zero_add]; exact (Blk.new W 29 (faC ⟨who, nm, other, value, from_, 0, learnt⟩)).cell j hj⟩) (faC_one _) (by unfold maxLen; omega) (by omega) (Nat.le_trans (Nat.le_trans HBW.out HX.out.size) HW6.out.size) ?_
                            intro v1 w1 hown1 hg1
                            obtain ⟨A1, c1, rfl, _⟩ := own_slice hown1
                            have HDN := Lib.hid (add_done (TF := 39) (T := 29) (by decide) (x := ⟨who, nm, other, value, from_, 0, learnt⟩) HBB.out (HFB.out.ext (HW6.out.mono (show b + 1 ≤ _ from HFB.out.lt))) (own_ext HOW.out HW6.out) (ext_trans HX.out HW6.out) HBW.out hown1 hg1)
                            have hrow : some b ≠ (Value.slice A0 l.length c0).ownBlock := fun e => by
                              obtain ⟨c, fz, h⟩ := Lib.ownsRow_kind HOW.out b e.symm
                              have h2 := HFB.out
                              unfold Blk at h2
                              rw [h2] at h
                              simp only [Option.some.injEq, Obj.cells.injEq] at h
                              exact absurd h.2.1 (by decide)
                            have hrowK : some K ≠ (Value.slice A0 l.length c0).ownBlock := fun e => by
                              have := (HO0.out.lt K e.symm).2
                              rw [HKE.out] at this
                              omega
                            have hKb : K ≠ b := by
                              have := HBL.out
                              rw [HKE.out]
                              omega
                            have hb1 := blk_grown (HFB.out.ext (HW6.out.mono (show b + 1 ≤ _ from HFB.out.lt))) hg1 hrow
                            have z1 := hb1.cell 0 rfl
                            have z2 := hb1.free 0
                            refine hK2.out _ _ ?_ (fun hHeld => ?_)
                            · exact ⟨hg1.cell (cell_ext HW6.out k0) hrowK, hg1.cell (cell_ext HW6.out k1) hrowK, hg1.cell (cell_ext HW6.out k2) hrowK, hg1.cell (cell_ext HW6.out k3) hrowK, hg1.cell (cell_ext HW6.out k4) hrowK, hg1.cell (cell_ext HW6.out k5) hrowK, hg1.cell (cell_ext HW6.out k6) hrowK⟩
                            clear hK2 K2
                            (try dsimp only [Act.put, List.setIfInBounds_toArray, List.set_cons_zero, List.set_cons_succ])
                            refine wpAnyH_take (i := 8) (v := ?_) rfl (by kernel_rfl) (by kernel_rfl) (by kernel_rfl) (fun _ _ _ h => h) (Or.inl ⟨by rfl, ?_⟩) (by assumption) ?_
                            rotate_left
                            · intro w hSw; (try dsimp only at hSw); go_simp; try with_reducible rfl
                            (try dsimp only [Act.put, List.setIfInBounds_toArray, List.set_cons_zero, List.set_cons_succ])
                            refine wpAnyH_take (i := 9) (v := ?_) rfl (by kernel_rfl) (by kernel_rfl) (by kernel_rfl) (fun _ _ _ h => h) (Or.inl ⟨by rfl, ?_⟩) (by assumption) ?_
                            rotate_left
                            · intro w hSw; (try dsimp only at hSw); go_simp; try with_reducible rfl
                            (try dsimp only [Act.put, List.setIfInBounds_toArray, List.set_cons_zero, List.set_cons_succ])
                            refine wpAnyH_ready (rs := [10]) (by kernel_rfl) (by simp) ?_
                            refine AllReadyH.cons rfl (fun K2 hK2 => ?_) ?_
                            · go_simp
                              refine hK2.out _ _ ?_ (fun hHeld => ?_)
                              · exact ⟨cell_set_other (hg1.cell (cell_ext HW6.out k0) hrowK) hKb _, cell_set_other (hg1.cell (cell_ext HW6.out k1) hrowK) hKb _, cell_set_other (hg1.cell (cell_ext HW6.out k2) hrowK) hKb _, cell_set_other (hg1.cell (cell_ext HW6.out k3) hrowK) hKb _, cell_set_other (hg1.cell (cell_ext HW6.out k4) hrowK) hKb _, cell_set_other (hg1.cell (cell_ext HW6.out k5) hrowK) hKb _, cell_set_other (hg1.cell (cell_ext HW6.out k6) hrowK) hKb _⟩
                              clear hK2 K2
                              (try dsimp only [Act.put, List.setIfInBounds_toArray, List.set_cons_zero, List.set_cons_succ])
                              refine wpAnyH_done (by kernel_rfl) ?_ _
                              go_wp2_with fail
                              go_ret
                              exact .inl ⟨code0 H5.out HW2.out.symm HKI.out HCO.out.symm HDA.out, rfl, HDN.out⟩
                            exact AllReadyH.nil
                          exact AllReadyH.nil
                        exact AllReadyH.nil
                      exact AllReadyH.nil
                    · have hq : (to_ == 0) = false := by simp [ht0]
                      have hqb : (to_ != 0) = true := by simp [ht0]
                      have HT0 := Lib.hid ht0
                      clear ht0
                      cases bt with
                      | false =>
                        go_wp2_with fail
                        go_ret
                        exact radd_no (code4 H5.out HW2.out.symm HKI.out HCO.out.symm (show daysB (⟨who, nm, other, value, from_, to_, learnt⟩ : Fa) = false by simp only [daysB]; rw [← HFR.out, ← HLN.out, ← HTO.out]; simp [HT0.out])) (by decide) HX.out
                      | true =>
                        by_cases hle : to_ ≤ from_
                        · have HLE := Lib.hid hle
                          go_wp2_with fail
                          go_ret
                          exact radd_no (code4 H5.out HW2.out.symm HKI.out HCO.out.symm (show daysB (⟨who, nm, other, value, from_, to_, learnt⟩ : Fa) = false by simp only [daysB]; rw [← HFR.out, ← HLN.out, ← HTO.out, decide_eq_true HLE.out]; simp [HT0.out])) (by decide) HX.out
                        · have HLE := Lib.hid hle
                          have HDA := Lib.hid (show daysB (⟨who, nm, other, value, from_, to_, learnt⟩ : Fa) = true by simp only [daysB]; rw [← HFR.out, ← HLN.out, ← HTO.out, decide_eq_false HLE.out]; simp)
                          go_upto_region 18 with fail
                          (try clear hq1)
                          (try clear hq)
                          (try clear hq2)
                          refine wp_region_held_drew (S := (fun w' => w'.cell? ⟨K, 0, none⟩ = some (.int .i64 who) ∧ w'.cell? ⟨K, 1, none⟩ = some (.string ⟨nm.toArray⟩) ∧ w'.cell? ⟨K, 2, none⟩ = some (.int .i64 other) ∧ w'.cell? ⟨K, 3, none⟩ = some (.int .i64 value) ∧ w'.cell? ⟨K, 4, none⟩ = some (.int .i64 from_) ∧ w'.cell? ⟨K, 5, none⟩ = some (.int .i64 to_) ∧ w'.cell? ⟨K, 6, none⟩ = some (.int .i64 learnt))) (by kernel_rfl) ?_ (fun hHeld => ?_)
                          · exact ⟨k0, k1, k2, k3, k4, k5, k6⟩
                          refine wpAnyH_take (i := 0) (v := ?_) rfl (by kernel_rfl) (by kernel_rfl) (by kernel_rfl) (fun _ _ _ h => h) (Or.inl ⟨by rfl, ?_⟩) (by assumption) ?_
                          rotate_left
                          · intro w hSw; (try dsimp only at hSw); go_simp; try with_reducible rfl
                          (try dsimp only [Act.put, List.setIfInBounds_toArray, List.set_cons_zero, List.set_cons_succ])
                          refine wpAnyH_take (i := 1) (v := ?_) rfl (by kernel_rfl) (by kernel_rfl) (by kernel_rfl) (fun _ _ _ h => h) (Or.inl ⟨by rfl, ?_⟩) (by assumption) ?_
                          rotate_left
                          · intro w hSw; (try dsimp only at hSw); go_simp; try with_reducible rfl
                          (try dsimp only [Act.put, List.setIfInBounds_toArray, List.set_cons_zero, List.set_cons_succ])
                          refine wpAnyH_take (i := 2) (v := ?_) rfl (by kernel_rfl) (by kernel_rfl) (by kernel_rfl) (fun _ _ _ h => h) (Or.inl ⟨by rfl, ?_⟩) (by assumption) ?_
                          rotate_left
                          · intro w hSw; (try dsimp only at hSw); go_simp; try with_reducible rfl
                          (try dsimp only [Act.put, List.setIfInBounds_toArray, List.set_cons_zero, List.set_cons_succ])
                          refine wpAnyH_take (i := 3) (v := ?_) rfl (by kernel_rfl) (by kernel_rfl) (by kernel_rfl) (fun _ _ _ h => h) (Or.inl ⟨by rfl, ?_⟩) (by assumption) ?_
                          rotate_left
                          · intro w hSw; (try dsimp only at hSw); go_simp; try with_reducible rfl
                          (try dsimp only [Act.put, List.setIfInBounds_toArray, List.set_cons_zero, List.set_cons_succ])
                          refine wpAnyH_take (i := 5) (v := ?_) rfl (by kernel_rfl) (by kernel_rfl) (by kernel_rfl) (fun _ _ _ h => h) (Or.inl ⟨by rfl, ?_⟩) (by assumption) ?_
                          rotate_left
                          · intro w hSw; (try dsimp only at hSw); go_simp; try with_reducible rfl
                          (try dsimp only [Act.put, List.setIfInBounds_toArray, List.set_cons_zero, List.set_cons_succ])
                          refine wpAnyH_ready (rs := [4, 6]) (by kernel_rfl) (by simp) ?_
                          refine AllReadyH.cons rfl (fun K2 hK2 => ?_) ?_
                          · have y0d : (W.drewN 1).cell? ⟨b, 0, none⟩ = some (.slice A0 l.length c0) := cell_ext (ext_drewN W 1) y0
                            go_simp
                            refine hK2.out _ _ ?_ (fun hHeld => ?_)
                            · exact ⟨(cell_ext (ext_drewN W 1) k0), (cell_ext (ext_drewN W 1) k1), (cell_ext (ext_drewN W 1) k2), (cell_ext (ext_drewN W 1) k3), (cell_ext (ext_drewN W 1) k4), (cell_ext (ext_drewN W 1) k5), (cell_ext (ext_drewN W 1) k6)⟩
                            clear hK2 K2
                            (try dsimp only [Act.put, List.setIfInBounds_toArray, List.set_cons_zero, List.set_cons_succ])
                            refine wpAnyH_ready (rs := [6]) (by kernel_rfl) (by simp) ?_
                            refine AllReadyH.cons rfl (fun K2 hK2 => ?_) ?_
                            · go_simp
                              have HW6 := Lib.hid (ext_trans (ext_alloc W (.cells #[.int .i64 who, .string ⟨nm.toArray⟩, .int .i64 other, .int .i64 value, .int .i64 from_, .int .i64 to_, .int .i64 learnt] 29)) (ext_drewN (W.alloc (.cells #[.int .i64 who, .string ⟨nm.toArray⟩, .int .i64 other, .int .i64 value, .int .i64 from_, .int .i64 to_, .int .i64 learnt] 29)) 1))
                              refine hK2.out _ _ ?_ (fun hHeld => ?_)
                              · exact ⟨(cell_ext HW6.out k0), (cell_ext HW6.out k1), (cell_ext HW6.out k2), (cell_ext HW6.out k3), (cell_ext HW6.out k4), (cell_ext HW6.out k5), (cell_ext HW6.out k6)⟩
                              clear hK2 K2
                              (try dsimp only [Act.put, List.setIfInBounds_toArray, List.set_cons_zero, List.set_cons_succ])
                              refine wpAnyH_ready (rs := [7]) (by kernel_rfl) (by simp) ?_
                              refine AllReadyH.cons rfl (fun K2 hK2 => ?_) ?_
                              · refine step_append_rd _ (by rfl) _ _ _ (by rfl) base 29 i0 _ 7 64 Tryd.underlying22 HI.out HZ0.out HZ1.out HZ2.out rfl (by omega) (.slice A0 l.length c0) l.length (l.flatMap faC) (by rfl) (own_ext HOW.out HW6.out) (some ⟨W.heap.size, 0, none⟩) 1 1 (faC ⟨who, nm, other, value, from_, to_, learnt⟩) (by rfl) (fun h => by cases h) rfl (fun j u hj => ⟨W.heap.size, 0, rfl, by rw [Nat.zero_add]; exact (Blk.new W 29 (faC ⟨who, nm, other, value, from_, to_, learnt⟩)).cell j hj⟩) (faC_one _) (by unfold maxLen; omega) (by omega) (Nat.le_trans (Nat.le_trans HBW.out HX.out.size) HW6.out.size) ?_
                                intro v1 w1 hown1 hg1
                                obtain ⟨A1, c1, rfl, _⟩ := own_slice hown1
                                have HDN := Lib.hid (add_done (TF := 39) (T := 29) (by decide) (x := ⟨who, nm, other, value, from_, to_, learnt⟩) HBB.out (HFB.out.ext (HW6.out.mono (show b + 1 ≤ _ from HFB.out.lt))) (own_ext HOW.out HW6.out) (ext_trans HX.out HW6.out) HBW.out hown1 hg1)
                                have hrow : some b ≠ (Value.slice A0 l.length c0).ownBlock := fun e => by
                                  obtain ⟨c, fz, h⟩ := Lib.ownsRow_kind HOW.out b e.symm
                                  have h2 := HFB.out
                                  unfold Blk at h2
                                  rw [h2] at h
                                  simp only [Option.some.injEq, Obj.cells.injEq] at h
                                  exact absurd h.2.1 (by decide)
                                have hrowK : some K ≠ (Value.slice A0 l.length c0).ownBlock := fun e => by
                                  have := (HO0.out.lt K e.symm).2
                                  rw [HKE.out] at this
                                  omega
                                have hKb : K ≠ b := by
                                  have := HBL.out
                                  rw [HKE.out]
                                  omega
                                have hb1 := blk_grown (HFB.out.ext (HW6.out.mono (show b + 1 ≤ _ from HFB.out.lt))) hg1 hrow
                                have z1 := hb1.cell 0 rfl
                                have z2 := hb1.free 0
                                refine hK2.out _ _ ?_ (fun hHeld => ?_)
                                · exact ⟨hg1.cell (cell_ext HW6.out k0) hrowK, hg1.cell (cell_ext HW6.out k1) hrowK, hg1.cell (cell_ext HW6.out k2) hrowK, hg1.cell (cell_ext HW6.out k3) hrowK, hg1.cell (cell_ext HW6.out k4) hrowK, hg1.cell (cell_ext HW6.out k5) hrowK, hg1.cell (cell_ext HW6.out k6) hrowK⟩
                                clear hK2 K2
                                (try dsimp only [Act.put, List.setIfInBounds_toArray, List.set_cons_zero, List.set_cons_succ])
                                refine wpAnyH_take (i := 8) (v := ?_) rfl (by kernel_rfl) (by kernel_rfl) (by kernel_rfl) (fun _ _ _ h => h) (Or.inl ⟨by rfl, ?_⟩) (by assumption) ?_
                                rotate_left
                                · intro w hSw; (try dsimp only at hSw); go_simp; try with_reducible rfl
                                (try dsimp only [Act.put, List.setIfInBounds_toArray, List.set_cons_zero, List.set_cons_succ])
                                refine wpAnyH_take (i := 9) (v := ?_) rfl (by kernel_rfl) (by kernel_rfl) (by kernel_rfl) (fun _ _ _ h => h) (Or.inl ⟨by rfl, ?_⟩) (by assumption) ?_
                                rotate_left
                                · intro w hSw; (try dsimp only at hSw); go_simp; try with_reducible rfl
                                (try dsimp only [Act.put, List.setIfInBounds_toArray, List.set_cons_zero, List.set_cons_succ])
                                refine wpAnyH_ready (rs := [10]) (by kernel_rfl) (by simp) ?_
                                refine AllReadyH.cons rfl (fun K2 hK2 => ?_) ?_
                                · go_simp
                                  refine hK2.out _ _ ?_ (fun hHeld => ?_)
                                  · exact ⟨cell_set_other (hg1.cell (cell_ext HW6.out k0) hrowK) hKb _, cell_set_other (hg1.cell (cell_ext HW6.out k1) hrowK) hKb _, cell_set_other (hg1.cell (cell_ext HW6.out k2) hrowK) hKb _, cell_set_other (hg1.cell (cell_ext HW6.out k3) hrowK) hKb _, cell_set_other (hg1.cell (cell_ext HW6.out k4) hrowK) hKb _, cell_set_other (hg1.cell (cell_ext HW6.out k5) hrowK) hKb _, cell_set_other (hg1.cell (cell_ext HW6.out k6) hrowK) hKb _⟩
                                  clear hK2 K2
                                  (try dsimp only [Act.put, List.setIfInBounds_toArray, List.set_cons_zero, List.set_cons_succ])
                                  refine wpAnyH_done (by kernel_rfl) ?_ _
                                  go_wp2_with fail
                                  go_ret
                                  exact .inl ⟨code0 H5.out HW2.out.symm HKI.out HCO.out.symm HDA.out, rfl, HDN.out⟩
                                exact AllReadyH.nil
                              exact AllReadyH.nil
                            exact AllReadyH.nil
                          refine AllReadyH.cons rfl (fun K2 hK2 => ?_) ?_
                          · go_simp
                            have HW6 := Lib.hid (ext_trans (ext_alloc W (.cells #[.int .i64 who, .string ⟨nm.toArray⟩, .int .i64 other, .int .i64 value, .int .i64 from_, .int .i64 to_, .int .i64 learnt] 29)) (ext_drewN (W.alloc (.cells #[.int .i64 who, .string ⟨nm.toArray⟩, .int .i64 other, .int .i64 value, .int .i64 from_, .int .i64 to_, .int .i64 learnt] 29)) 1))
                            refine hK2.out _ _ ?_ (fun hHeld => ?_)
                            · exact ⟨(cell_ext HW6.out k0), (cell_ext HW6.out k1), (cell_ext HW6.out k2), (cell_ext HW6.out k3), (cell_ext HW6.out k4), (cell_ext HW6.out k5), (cell_ext HW6.out k6)⟩
                            clear hK2 K2
                            (try dsimp only [Act.put, List.setIfInBounds_toArray, List.set_cons_zero, List.set_cons_succ])
                            refine wpAnyH_ready (rs := [4]) (by kernel_rfl) (by simp) ?_
                            refine AllReadyH.cons rfl (fun K2 hK2 => ?_) ?_
                            · have y0e : (W.alloc (.cells #[.int .i64 who, .string ⟨nm.toArray⟩, .int .i64 other, .int .i64 value, .int .i64 from_, .int .i64 to_, .int .i64 learnt] 29)).drew.cell? ⟨b, 0, none⟩ = some (.slice A0 l.length c0) := cell_ext HW6.out y0
                              go_simp
                              refine hK2.out _ _ ?_ (fun hHeld => ?_)
                              · exact ⟨(cell_ext HW6.out k0), (cell_ext HW6.out k1), (cell_ext HW6.out k2), (cell_ext HW6.out k3), (cell_ext HW6.out k4), (cell_ext HW6.out k5), (cell_ext HW6.out k6)⟩
                              clear hK2 K2
                              (try dsimp only [Act.put, List.setIfInBounds_toArray, List.set_cons_zero, List.set_cons_succ])
                              refine wpAnyH_ready (rs := [7]) (by kernel_rfl) (by simp) ?_
                              refine AllReadyH.cons rfl (fun K2 hK2 => ?_) ?_
                              · refine step_append_rd _ (by rfl) _ _ _ (by rfl) base 29 i0 _ 7 64 Tryd.underlying22 HI.out HZ0.out HZ1.out HZ2.out rfl (by omega) (.slice A0 l.length c0) l.length (l.flatMap faC) (by rfl) (own_ext HOW.out HW6.out) (some ⟨W.heap.size, 0, none⟩) 1 1 (faC ⟨who, nm, other, value, from_, to_, learnt⟩) (by rfl) (fun h => by cases h) rfl (fun j u hj => ⟨W.heap.size, 0, rfl, by rw [Nat.zero_add]; exact (Blk.new W 29 (faC ⟨who, nm, other, value, from_, to_, learnt⟩)).cell j hj⟩) (faC_one _) (by unfold maxLen; omega) (by omega) (Nat.le_trans (Nat.le_trans HBW.out HX.out.size) HW6.out.size) ?_
                                intro v1 w1 hown1 hg1
                                obtain ⟨A1, c1, rfl, _⟩ := own_slice hown1
                                have HDN := Lib.hid (add_done (TF := 39) (T := 29) (by decide) (x := ⟨who, nm, other, value, from_, to_, learnt⟩) HBB.out (HFB.out.ext (HW6.out.mono (show b + 1 ≤ _ from HFB.out.lt))) (own_ext HOW.out HW6.out) (ext_trans HX.out HW6.out) HBW.out hown1 hg1)
                                have hrow : some b ≠ (Value.slice A0 l.length c0).ownBlock := fun e => by
                                  obtain ⟨c, fz, h⟩ := Lib.ownsRow_kind HOW.out b e.symm
                                  have h2 := HFB.out
                                  unfold Blk at h2
                                  rw [h2] at h
                                  simp only [Option.some.injEq, Obj.cells.injEq] at h
                                  exact absurd h.2.1 (by decide)
                                have hrowK : some K ≠ (Value.slice A0 l.length c0).ownBlock := fun e => by
                                  have := (HO0.out.lt K e.symm).2
                                  rw [HKE.out] at this
                                  omega
                                have hKb : K ≠ b := by
                                  have := HBL.out
                                  rw [HKE.out]
                                  omega
                                have hb1 := blk_grown (HFB.out.ext (HW6.out.mono (show b + 1 ≤ _ from HFB.out.lt))) hg1 hrow
                                have z1 := hb1.cell 0 rfl
                                have z2 := hb1.free 0
                                refine hK2.out _ _ ?_ (fun hHeld => ?_)
                                · exact ⟨hg1.cell (cell_ext HW6.out k0) hrowK, hg1.cell (cell_ext HW6.out k1) hrowK, hg1.cell (cell_ext HW6.out k2) hrowK, hg1.cell (cell_ext HW6.out k3) hrowK, hg1.cell (cell_ext HW6.out k4) hrowK, hg1.cell (cell_ext HW6.out k5) hrowK, hg1.cell (cell_ext HW6.out k6) hrowK⟩
                                clear hK2 K2
                                (try dsimp only [Act.put, List.setIfInBounds_toArray, List.set_cons_zero, List.set_cons_succ])
                                refine wpAnyH_take (i := 8) (v := ?_) rfl (by kernel_rfl) (by kernel_rfl) (by kernel_rfl) (fun _ _ _ h => h) (Or.inl ⟨by rfl, ?_⟩) (by assumption) ?_
                                rotate_left
                                · intro w hSw; (try dsimp only at hSw); go_simp; try with_reducible rfl
                                (try dsimp only [Act.put, List.setIfInBounds_toArray, List.set_cons_zero, List.set_cons_succ])
                                refine wpAnyH_take (i := 9) (v := ?_) rfl (by kernel_rfl) (by kernel_rfl) (by kernel_rfl) (fun _ _ _ h => h) (Or.inl ⟨by rfl, ?_⟩) (by assumption) ?_
                                rotate_left
                                · intro w hSw; (try dsimp only at hSw); go_simp; try with_reducible rfl
                                (try dsimp only [Act.put, List.setIfInBounds_toArray, List.set_cons_zero, List.set_cons_succ])
                                refine wpAnyH_ready (rs := [10]) (by kernel_rfl) (by simp) ?_
                                refine AllReadyH.cons rfl (fun K2 hK2 => ?_) ?_
                                · go_simp
                                  refine hK2.out _ _ ?_ (fun hHeld => ?_)
                                  · exact ⟨cell_set_other (hg1.cell (cell_ext HW6.out k0) hrowK) hKb _, cell_set_other (hg1.cell (cell_ext HW6.out k1) hrowK) hKb _, cell_set_other (hg1.cell (cell_ext HW6.out k2) hrowK) hKb _, cell_set_other (hg1.cell (cell_ext HW6.out k3) hrowK) hKb _, cell_set_other (hg1.cell (cell_ext HW6.out k4) hrowK) hKb _, cell_set_other (hg1.cell (cell_ext HW6.out k5) hrowK) hKb _, cell_set_other (hg1.cell (cell_ext HW6.out k6) hrowK) hKb _⟩
                                  clear hK2 K2
                                  (try dsimp only [Act.put, List.setIfInBounds_toArray, List.set_cons_zero, List.set_cons_succ])
                                  refine wpAnyH_done (by kernel_rfl) ?_ _
                                  go_wp2_with fail
                                  go_ret
                                  exact .inl ⟨code0 H5.out HW2.out.symm HKI.out HCO.out.symm HDA.out, rfl, HDN.out⟩
                                exact AllReadyH.nil
                              exact AllReadyH.nil
                            exact AllReadyH.nil
                          exact AllReadyH.nil
end Go.Proofs.YtcpcejmlnhflpaaDoor.Fk

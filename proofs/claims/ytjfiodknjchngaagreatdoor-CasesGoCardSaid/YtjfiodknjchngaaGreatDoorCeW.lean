/- Cases: Valid of a plan: the walk. -/
import Derived.Test.YtjfiodknjchngaaGreatDoorCeV
namespace Go.Proofs.YtjfiodknjchngaaGreatDoor.Ce
open Go.RowKit Mem Nest Srs Cf Fk Msi CdP CdM Err Solve

set_option maxRecDepth 100000 in
set_option maxHeartbeats 8000000 in
theorem cvalid (st : List UInt8) (fin : List (List UInt8)) (ms : List Mv) (hf : fin.length ≤ 1000) (hm : ms.length ≤ 1000) (hlen : ∀ s ∈ stagesF st fin ms, s.length ≤ 9223372036854775807) (hmn : ∀ m ∈ ms, m.name.length ≤ 9223372036854775807 ∧ m.who.length ≤ 9223372036854775807)
    (FA MA : Option Addr) (fc mc : Nat) (hn : FA = none → fc = 0) (hmc : ms.length ≤ mc) (w : World) (A : Nat → Addr) (hE : E6 w A) (hF : Rd w FA (Srs.strs fin)) (hM : Rd w MA (ms.flatMap mvCells)) :
    Calls Tryz.prog 11 #[planW st fin ms FA fc MA mc] w (CPost A (VP st fin ms) w) := by
  unfold planW
  have bx := Blk.new w 42 [.string ⟨st.toArray⟩, .slice FA fin.length fc, .slice MA ms.length mc]
  have hx1 := ext_alloc w (.cells (List.toArray [.string ⟨st.toArray⟩, .slice FA fin.length fc, .slice MA ms.length mc]) 42)
  obtain ⟨W, hW⟩ : ∃ W, W = w.alloc (.cells (List.toArray [.string ⟨st.toArray⟩, .slice FA fin.length fc, .slice MA ms.length mc]) 42) := ⟨_, rfl⟩
  obtain ⟨K, hK⟩ : ∃ K, K = w.heap.size := ⟨_, rfl⟩
  rw [← hW] at bx hx1
  rw [← hK] at bx
  have HX := Lib.hid hx1
  have HKb := Lib.hid bx
  have HF := Lib.hid (hF.ext hx1)
  have HM := Lib.hid (hM.ext hx1)
  have HE := Lib.hid (hE.below hx1)
  have HL := Lib.hid hlen
  have HMn := Lib.hid hmn
  have HSt := Lib.hid (stages_any st fin ms hf hm FA MA fc mc hn W (hF.ext hx1) (hM.ext hx1))
  have y0 := bx.cell 0 rfl
  have y1 := bx.cell 1 rfl
  have y2 := bx.cell 2 rfl
  clear bx hx1 hF hM hE hlen hmn hn
  go_enter Tryz.func11, Tryz.ntmps11
  go_upto_region 1 with fail
  rw [show w.alloc (.cells (List.toArray [.string ⟨st.toArray⟩, .slice FA fin.length fc, .slice MA ms.length mc]) 42) = W from hW.symm, ← hK]
  clear hW hK
  go_wp2_with fail
  refine HSt.out.mono ?_
  rintro e w1 ⟨SA, sc, rfl, hr, hb1⟩
  have HBw := Lib.hid (ext_trans HX.out hb1)
  have HF1 := Lib.hid (HF.out.ext hb1)
  have HM1 := Lib.hid (HM.out.ext hb1)
  have HE1 := Lib.hid (HE.out.below hb1)
  have HS1 := Lib.hid hr
  have HK1 := Lib.hid (Sol.blk_ext HKb.out hb1)
  have y0 := cell_ext hb1 y0
  have y1 := cell_ext hb1 y1
  have y2 := cell_ext hb1 y2
  have e1 := HE1.out.v1
  unfold sentV at e1
  clear hr hb1 HSt HF HM HE HX HKb
  obtain ⟨all, hall⟩ : ∃ all, all = stagesF st fin ms := ⟨_, rfl⟩
  have HVP := Lib.hid (show ∀ c, VQ ms (stagesF st fin ms) ((stagesF st fin ms).any (fun s => !wordB s) || badTo ms ms.length) (ms.any (kindB fin)) c → VP st fin ms c from fun c h => h)
  rw [← hall] at HVP HL HS1 ⊢
  have HAll := Lib.hid hall
  clear hall
  by_cases g1 : 120 < ms.length ∨ 120 < all.length
  · have HG1 := Lib.hid g1
    by_cases g2 : 120 < ms.length
    · have g2' : (120 : Int) < ms.length := by omega
      clear g1
      go_wp2_with fail
      go_ret
      exact ⟨2, HVP.out 2 (.inl ⟨HG1.out, rfl⟩), rfl, HBw.out⟩
    · have g2' : ¬ (120 : Int) < ms.length := by omega
      have g3 : 120 < all.length := by omega
      have g3' : (120 : Int) < all.length := by omega
      clear g1
      go_wp2_with fail
      go_ret
      exact ⟨2, HVP.out 2 (.inl ⟨HG1.out, rfl⟩), rfl, HBw.out⟩
  have g2 : ms.length ≤ 120 := by omega
  have g3 : all.length ≤ 120 := by omega
  have g2' : ¬ (120 : Int) < ms.length := by omega
  have g3' : ¬ (120 : Int) < all.length := by omega
  have HG1 := Lib.hid g1
  clear g1 e1
  have HWd := Lib.hid (idxs_some 44 (fun _ _ => by kernel_rfl) #[] all (by omega) SA sc (fun s => !wordB s) w1 HS1.out (fun s hs w2 _ => cval1 s (HL.out s hs) w2))
  go_wp2_with fail
  refine HWd.out.mono ?_
  rintro e w2 ⟨rfl, hb2⟩
  have HB2 := Lib.hid hb2
  have y0 := cell_ext hb2 y0
  have y1 := cell_ext hb2 y1
  have y2 := cell_ext hb2 y2
  clear hb2 HWd
  obtain ⟨b0, hb0⟩ : ∃ b0, b0 = all.any (fun s => !wordB s) := ⟨_, rfl⟩
  rw [← hb0] at HVP ⊢
  clear hb0
  go_wp2_with fail
  go_loopw [4, 28] (fun s4 s28 wr => ∃ (k : Nat) (b : Bool), s4 = .bool b ∧ s28 = .int .i64 k ∧ k ≤ ms.length ∧ Hid (b = (b0 || badTo ms k)) ∧ Hid (Below w1.heap.size w1 wr)) (fun _ s28 _ => ms.length - (intOf s28).toNat)
  case atStart => exact ⟨0, b0, rfl, rfl, Nat.zero_le _, by show _ = _; simp [badTo], HB2.out⟩
  case round =>
    clear y0 y1 y2
    obtain ⟨k, b, rfl, rfl, hk, HBd, HB⟩ := hrel
    have HMr := Lib.hid (HM1.out.ext HB.out)
    have y0 := cell_ext HB.out (HK1.out.cell 0 rfl)
    have y1 := cell_ext HB.out (HK1.out.cell 1 rfl)
    have y2 := cell_ext HB.out (HK1.out.cell 2 rfl)
    by_cases hlt : k < ms.length
    · have hcl : (k : Int) < (ms.length : Int) := by omega
      have hkm : k ≤ mc := by omega
      have HTs := Lib.hid (badTo_succ hlt)
      have HMk := Lib.hid (HMn.out ms[k] (List.getElem_mem hlt))
      have HPre := Lib.hid (rd_pre HMr.out k)
      have HLk := Lib.hid (show (ms.take k).length = k by simp; omega)
      obtain ⟨bb, o, e0, hx⟩ := mv_at HMr.out hlt
      subst e0
      generalize ms[k] = x at hx HTs HMk
      obtain ⟨xn, xf, xt, xw, x1, x2, x3, x4⟩ := x
      obtain ⟨c0, c1, c2, c3, c4, c5, c6, c7⟩ := hx
      simp only at c0 c1 c2 c3 c4 c5 c6 c7 HTs HMk
      have HXm := Lib.hid (ext_trans HB.out (ext_alloc wr (.cells (List.toArray [.string ⟨xn.toArray⟩, .string ⟨xf.toArray⟩, .string ⟨xt.toArray⟩, .string ⟨xw.toArray⟩, .int .i64 x1, .int .i64 x2, .int .i64 x3, .int .i64 x4]) 106)))
      have hXa := ext_alloc wr (.cells (List.toArray [.string ⟨xn.toArray⟩, .string ⟨xf.toArray⟩, .string ⟨xt.toArray⟩, .string ⟨xw.toArray⟩, .int .i64 x1, .int .i64 x2, .int .i64 x3, .int .i64 x4]) 106)
      have z2 := cell_ext hXa y2
      have HAt := Lib.hid (show MvAt (wr.alloc (.cells (List.toArray [.string ⟨xn.toArray⟩, .string ⟨xf.toArray⟩, .string ⟨xt.toArray⟩, .string ⟨xw.toArray⟩, .int .i64 x1, .int .i64 x2, .int .i64 x3, .int .i64 x4]) 106)) wr.heap.size 0 ⟨xn, xf, xt, xw, x1, x2, x3, x4⟩ from mv_blk (Blk.new wr 106 [.string ⟨xn.toArray⟩, .string ⟨xf.toArray⟩, .string ⟨xt.toArray⟩, .string ⟨xw.toArray⟩, .int .i64 x1, .int .i64 x2, .int .i64 x3, .int .i64 x4]))
      have HPa := Lib.hid (HPre.out.ext hXa)
      clear hXa
      cases b with
      | true =>
        have HN := Lib.hid (show true = (b0 || badTo ms (k + 1)) from by
          have h := HBd.out
          rw [HTs.out, ← Bool.or_assoc, ← h]
          rfl)
        go_wp2_with fail
        go_roundw
        case rel => exact ⟨k + 1, true, rfl, by go_num, by omega, HN.out, HXm.out⟩
        case measure => simp [intOf]; omega
      | false =>
        obtain ⟨q1, hq1⟩ : ∃ q, q = wordB xn := ⟨_, rfl⟩
        obtain ⟨q2, hq2⟩ : ∃ q, q = wordB xw := ⟨_, rfl⟩
        have HP1 := Lib.hid (show ∀ w, Calls Tryz.prog 45 #[.string ⟨xn.toArray⟩] w (RetB q1 w) from fun w => by rw [hq1]; exact pword_any xn HMk.out.1 w)
        have HP2 := Lib.hid (show ∀ w, Calls Tryz.prog 45 #[.string ⟨xw.toArray⟩] w (RetB q2 w) from fun w => by rw [hq2]; exact pword_any xw HMk.out.2 w)
        have HT2 := Lib.hid (show (b0 || badTo ms (k + 1)) = (!q1 || !q2 || (ms.take k).any (sameB ⟨xn, xf, xt, xw, x1, x2, x3, x4⟩)) from by
          have h := HBd.out
          rw [HTs.out, ← Bool.or_assoc, ← h, hq1, hq2]
          rfl)
        clear hq1 hq2
        cases q1 with
        | false =>
          go_wp2_with fail
          refine (HP1.out _).mono ?_
          rintro e w' ⟨rfl, rfl⟩
          go_wp2_with fail
          go_roundw
          case rel => exact ⟨k + 1, true, rfl, by go_num, by omega, by show _ = _; rw [HT2.out]; rfl, HXm.out⟩
          case measure => simp [intOf]; omega
        | true =>
          cases q2 with
          | false =>
            go_wp2_with fail
            refine (HP1.out _).mono ?_
            rintro e w' ⟨rfl, rfl⟩
            go_wp2_with fail
            refine (HP2.out _).mono ?_
            rintro e w' ⟨rfl, rfl⟩
            go_wp2_with fail
            go_roundw
            case rel => exact ⟨k + 1, true, rfl, by go_num, by omega, by show _ = _; rw [HT2.out]; rfl, HXm.out⟩
            case measure => simp [intOf]; omega
          | true =>
            have HCf := Lib.hid (idxm_some 47 (fun _ _ => by kernel_rfl) #[.pointer (some ⟨wr.heap.size, 0, none⟩)] (ms.take k) (by have := HLk.out; omega) (some ⟨bb, o, none⟩) mc (sameB ⟨xn, xf, xt, xw, x1, x2, x3, x4⟩) _ HPa.out (fun o _ w2 hb => cval2 _ o _ w2 (mv_ext HAt.out hb)))
            rw [HLk.out] at HCf
            obtain ⟨q3, hq3⟩ : ∃ q, q = (ms.take k).any (sameB ⟨xn, xf, xt, xw, x1, x2, x3, x4⟩) := ⟨_, rfl⟩
            rw [← hq3] at HCf HT2
            clear hq3
            go_wp2_with fail
            refine (HP1.out _).mono ?_
            rintro e w' ⟨rfl, rfl⟩
            go_wp2_with fail
            refine (HP2.out _).mono ?_
            rintro e w' ⟨rfl, rfl⟩
            go_wp2_with fail
            refine HCf.out.mono ?_
            rintro e w3 ⟨rfl, hb3⟩
            have HBn := Lib.hid (ext_trans HXm.out hb3)
            clear hb3 HCf
            go_wp2_with fail
            go_roundw
            case rel => exact ⟨k + 1, q3, rfl, by go_num, by omega, by show _ = _; rw [HT2.out]; rfl, HBn.out⟩
            case measure => simp [intOf]; omega
    · have hcl : ¬ (k : Int) < (ms.length : Int) := by omega
      have HBe := Lib.hid (show b = (b0 || badTo ms ms.length) from by have h := HBd.out; rw [show k = ms.length by omega] at h; exact h)
      have HEr := Lib.hid (HE1.out.below HB.out)
      have HBa := Lib.hid (ext_trans HBw.out HB.out)
      clear hlt hk HBd
      cases b with
      | true =>
        have e1 := HEr.out.v6
        unfold sentV at e1
        go_wp2_with fail
        go_ret
        exact ⟨7, HVP.out 7 (.inr ⟨HG1.out, .inl ⟨HBe.out.symm, rfl⟩⟩), rfl, HBa.out⟩
      | false =>
        have HC3 := Lib.hid (idxm_some 48 (fun _ _ => by kernel_rfl) #[.pointer (some ⟨K, 0, none⟩)] ms (by omega) MA mc (kindB fin) wr HMr.out (fun m _ w2 hb => cval3 fin hf FA fc m K w2 (cell_ext hb y1) ((HF1.out.ext HB.out).ext hb)))
        obtain ⟨q, hq⟩ : ∃ q, q = ms.any (kindB fin) := ⟨_, rfl⟩
        rw [← hq] at HC3 HVP
        clear hq
        go_wp2_with fail
        refine HC3.out.mono ?_
        rintro e w3 ⟨rfl, hb3⟩
        have HB3 := Lib.hid (ext_trans HB.out hb3)
        have HBa3 := Lib.hid (ext_trans HBa.out hb3)
        have HE3 := Lib.hid (HEr.out.below hb3)
        have HM3 := Lib.hid (HMr.out.ext hb3)
        have y0 := cell_ext hb3 y0
        have y1 := cell_ext hb3 y1
        have y2 := cell_ext hb3 y2
        clear hb3 HC3 HEr HBa
        cases q with
        | true =>
          have e1 := HE3.out.v8
          unfold sentV at e1
          go_wp2_with fail
          go_ret
          exact ⟨9, HVP.out 9 (.inr ⟨HG1.out, .inr ⟨HBe.out.symm, .inl ⟨rfl, rfl⟩⟩⟩), rfl, HBa3.out⟩
        | false =>
          have HR := Lib.hid (ring_all st fin ms hm all (by omega) HL.out (by rw [HAll.out]; exact all_ends st fin ms) FA fc MA mc SA sc w3 HM3.out (HS1.out.ext HB3.out))
          unfold planW at HR
          go_wp2_with fail
          refine HR.out.mono ?_
          rintro e w4 ⟨⟨rfl, hv⟩ | ⟨rfl, hv⟩, hb4⟩
          · have HV := Lib.hid hv
            have HB4 := Lib.hid (ext_trans HBa3.out hb4)
            have e1 := (HE3.out.below hb4).v7
            unfold sentV at e1
            clear hv hb4
            go_wp2_with fail
            go_ret
            exact ⟨8, HVP.out 8 (.inr ⟨HG1.out, .inr ⟨HBe.out.symm, .inr ⟨rfl, .inl ⟨HV.out, rfl⟩⟩⟩⟩), rfl, HB4.out⟩
          · have HV := Lib.hid hv
            have HB4 := Lib.hid (ext_trans HBa3.out hb4)
            have HE4 := Lib.hid (HE3.out.below hb4)
            have HM4 := Lib.hid (HM3.out.ext hb4)
            have y2 := cell_ext hb4 y2
            clear hv hb4 y0 y1
            go_wp2_with fail
            go_loopw [70] (fun s wr => ∃ k : Nat, s = .int .i64 k ∧ k ≤ ms.length ∧ Hid (∀ c, DuesP (ms.drop k) c → DuesP ms c) ∧ Hid (Below w4.heap.size w4 wr)) (fun s _ => ms.length - (intOf s).toNat)
            case atStart => exact ⟨0, rfl, Nat.zero_le _, fun c h => by simpa using h, Below.refl _ _⟩
            case round =>
              obtain ⟨k, rfl, hk, HD, HB⟩ := hrel
              have HMr := Lib.hid (HM4.out.ext HB.out)
              have y2 := cell_ext HB.out y2
              have HEr := Lib.hid (HE4.out.below HB.out)
              have HBr := Lib.hid (ext_trans HB4.out HB.out)
              by_cases hlt : k < ms.length
              · have hcl : (k : Int) < (ms.length : Int) := by omega
                have HDr := Lib.hid (show ms.drop k = ms[k] :: ms.drop (k + 1) from List.drop_eq_getElem_cons hlt)
                obtain ⟨bb, o, e0, hx⟩ := mv_at HMr.out hlt
                subst e0
                generalize ms[k] = x at hx HDr
                obtain ⟨xn, xf, xt, xw, x1, x2, x3, x4⟩ := x
                obtain ⟨c0, c1, c2, c3, c4, c5, c6, c7⟩ := hx
                simp only at c0 c1 c2 c3 c4 c5 c6 c7
                have hXa := ext_alloc wr (.cells (List.toArray [.string ⟨xn.toArray⟩, .string ⟨xf.toArray⟩, .string ⟨xt.toArray⟩, .string ⟨xw.toArray⟩, .int .i64 x1, .int .i64 x2, .int .i64 x3, .int .i64 x4]) 106)
                obtain ⟨V, hV⟩ : ∃ V, V = wr.alloc (.cells (List.toArray [.string ⟨xn.toArray⟩, .string ⟨xf.toArray⟩, .string ⟨xt.toArray⟩, .string ⟨xw.toArray⟩, .int .i64 x1, .int .i64 x2, .int .i64 x3, .int .i64 x4]) 106) := ⟨_, rfl⟩
                have hAt : MvAt V wr.heap.size 0 ⟨xn, xf, xt, xw, x1, x2, x3, x4⟩ := hV ▸ mv_blk (Blk.new wr 106 [.string ⟨xn.toArray⟩, .string ⟨xf.toArray⟩, .string ⟨xt.toArray⟩, .string ⟨xw.toArray⟩, .int .i64 x1, .int .i64 x2, .int .i64 x3, .int .i64 x4])
                rw [← hV] at hXa
                have hXb := ext_alloc V (.cells #[.bool false, .bool false, .bool false, .bool false, .bool false, .bool false, .bool false, .slice none 0 0] 99)
                have hC := Blk.new V 99 [.bool false, .bool false, .bool false, .bool false, .bool false, .bool false, .bool false, .slice none 0 0]
                obtain ⟨V2, hV2⟩ : ∃ V2, V2 = V.alloc (.cells #[.bool false, .bool false, .bool false, .bool false, .bool false, .bool false, .bool false, .slice none 0 0] 99) := ⟨_, rfl⟩
                rw [← hV2] at hXb hC
                have hAt2 := mv_ext hAt hXb
                have m4 := hAt2.c4
                have m5 := hAt2.c5
                have m6 := hAt2.c6
                simp only [Nat.zero_add] at m4 m5 m6
                have HXb := Lib.hid (ext_trans hXa hXb)
                have HCa := Lib.hid (show CdA V2 V.heap.size 0 cd0 none 0 from ⟨fun j hj => by
                  have h := hC.cell j (u := .bool false) (by match j, hj with
                    | 0, _ => rfl
                    | 1, _ => rfl
                    | 2, _ => rfl
                    | 3, _ => rfl
                    | 4, _ => rfl
                    | 5, _ => rfl
                    | 6, _ => rfl)
                  rw [Nat.zero_add, h]
                  match j, hj with
                    | 0, _ => rfl
                    | 1, _ => rfl
                    | 2, _ => rfl
                    | 3, _ => rfl
                    | 4, _ => rfl
                    | 5, _ => rfl
                    | 6, _ => rfl, hC.cell 7 rfl, Rd.nil⟩)
                obtain ⟨kr, hkr⟩ : ∃ kr, kr = wr.heap.size := ⟨_, rfl⟩
                rw [← hkr] at m4 m5 m6
                have HDue := Lib.hid (pdue_any cd0 ⟨by decide, fun x hx => by cases hx⟩ V.heap.size 0 none 0 1 x1 x2 x3 A V2 HCa.out (HEr.out.below HXb.out).e3)
                have HXr := Lib.hid (ext_trans HBr.out HXb.out)
                have HXw := Lib.hid (ext_trans HB.out HXb.out)
                rw [hV2] at m4 m5 m6 HDue HXr HXw
                clear hXa hXb hAt hAt2 hC HCa HXb hV2 V2
                go_upto_region 20 with fail
                rw [← hV, ← hkr]
                clear hV hkr c0 c1 c2 c3 c4 c5 c6 c7 y2
                go_wp2_with fail
                refine HDue.out.mono ?_
                rintro e w5 ⟨⟨r1, r2⟩, hD, rfl, hb5⟩
                have HDd := Lib.hid hD
                have HR5 := Lib.hid (ext_trans HXr.out hb5)
                have HW5 := Lib.hid (ext_trans HXw.out hb5)
                clear hD hb5 HDue m4 m5 m6
                by_cases hr : r2 = 0
                · subst hr
                  have HN := Lib.hid (show ∀ c, DuesP (ms.drop (k + 1)) c → DuesP ms c from fun c h => HD.out c (by rw [HDr.out]; exact ⟨_, HDd.out, .inr ⟨rfl, h⟩⟩))
                  simp only [errC_zero]
                  go_wp2_with fail
                  go_roundw
                  case rel => exact ⟨k + 1, by go_num, by omega, HN.out, HW5.out⟩
                  case measure => show ms.length - (k + 1) < ms.length - k; omega
                · have HN := Lib.hid (show DuesP ms r2 from HD.out r2 (by rw [HDr.out]; exact ⟨_, HDd.out, .inl ⟨hr, rfl⟩⟩))
                  have HEc := Lib.hid (show errC A r2 = errV (A (r2 - 1).toNat) from if_neg hr)
                  have HEc2 := Lib.hid (show errV (A (r2 - 1).toNat) = errC A r2 from (if_neg hr).symm)
                  simp only
                  rw [HEc.out]
                  obtain ⟨ad, had⟩ : ∃ ad, ad = A (r2 - 1).toNat := ⟨_, rfl⟩
                  rw [← had] at HEc2 ⊢
                  unfold errV at *
                  clear had hr HEc
                  go_wp2_with fail
                  go_ret
                  exact ⟨r2, HVP.out r2 (.inr ⟨HG1.out, .inr ⟨HBe.out.symm, .inr ⟨rfl, .inr ⟨HV.out, HN.out⟩⟩⟩⟩), by rw [← HEc2.out]; rfl, HR5.out⟩
              · have hcl : ¬ (k : Int) < (ms.length : Int) := by omega
                have HN := Lib.hid (show DuesP ms 0 from HD.out 0 (by rw [List.drop_of_length_le (by omega)]; rfl))
                go_wp2_with fail
                go_ret
                exact ⟨0, HVP.out 0 (.inr ⟨HG1.out, .inr ⟨HBe.out.symm, .inr ⟨rfl, .inr ⟨HV.out, HN.out⟩⟩⟩⟩), rfl, HBr.out⟩
end Go.Proofs.YtjfiodknjchngaaGreatDoor.Ce

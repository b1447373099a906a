/- DutiesStand: the law's walk. -/
import Derived.Test.YtcpcejmlnhflpaaGreatDoorDsF
namespace Go.Proofs.YtcpcejmlnhflpaaGreatDoor.DutiesStand
open Go.RowKit Mem Nest Sol App CdP CdM Solve Err DayWorks Dut

def LawPost (w : World) (e : Ending) (w' : World) : Prop := e = .returned (.bool true) ∧ Below w.heap.size w w'
set_option maxRecDepth 100000 in
set_option maxHeartbeats 16000000 in
theorem stand_walk (l : List Dt) (es : List Ev) (offs : List Bool) (hol : List Int) (AO : Option Addr) (co : Nat) (AH : Option Addr) (ch : Nat) (on : Int) (A : Nat → Addr) (LA EA : Option Addr) (lc ec : Nat) (hl : l.length ≤ 9223372036854775807) (he : es.length ≤ 9223372036854775807) (w : World) (hd : Rd w LA (l.flatMap dtCells)) (hv : Rd w EA (es.flatMap evCells)) (hD : Dat w offs hol AO co AH ch) (hE : Errs w A) :
    Calls Tryz.prog 4 #[.slice LA l.length lc, .slice EA es.length ec, .agg #[.slice AO offs.length co, .slice AH hol.length ch], .int .i64 on] w (LawPost w) := by
  have hx1 := ext_alloc w (.cells (List.toArray [.slice AO offs.length co, .slice AH hol.length ch]) 58)
  have bx := Blk.new w 58 [.slice AO offs.length co, .slice AH hol.length ch]
  obtain ⟨W, hW⟩ : ∃ W, W = w.alloc (.cells (List.toArray [.slice AO offs.length co, .slice AH hol.length ch]) 58) := ⟨_, rfl⟩
  obtain ⟨K, hK⟩ : ∃ K, K = w.heap.size := ⟨_, rfl⟩
  rw [← hW] at bx hx1
  rw [← hK] at bx
  have HB0 := Lib.hid hx1
  have HKb := Lib.hid bx
  have HL := Lib.hid (hd.ext hx1)
  have HV := Lib.hid (hv.ext hx1)
  have HE := Lib.hid (hE.below hx1)
  have HrO := Lib.hid (hD.rO.ext hx1)
  have HrH := Lib.hid (hD.rH.ext hx1)
  have HNi := Lib.hid hD.nil
  have HOl := Lib.hid hD.ol
  have HOk := Lib.hid (fun hl => cd_ok hD hl)
  have hh63 := hD.hl
  obtain ⟨i0, hi, hz0, hz1, hz2⟩ := info_parts revent_info
  have HI := Lib.hid hi
  have HZ0 := Lib.hid hz0
  have HZ1 := Lib.hid hz1
  have HZ2 := Lib.hid hz2
  clear hd hv hD hE hx1 bx hi hz0 hz1 hz2
  go_enter Tryz.func4, Tryz.ntmps4
  go_upto_region 1 with fail
  rw [show w.alloc (.cells (List.toArray [.slice AO offs.length co, .slice AH hol.length ch]) 58) = W from hW.symm, ← hK]
  clear hW hK
  go_wp2_with fail
  refine (due_any A _ (e3 HE.out)).mono ?_
  rintro e w1 ⟨rfl, hb1⟩
  have HB1 := Lib.hid hb1
  clear hb1
  go_wp2_with fail
  refine (near_any l es on LA EA lc ec hl he w1 (HL.out.ext HB1.out)).mono ?_
  rintro e w2 ⟨⟨b, rfl, hn⟩, hb2⟩
  have HB2 := Lib.hid (ext_trans HB1.out hb2)
  clear hb2
  have y0 := (Sol.blk_ext HKb.out HB2.out).cell 0 rfl
  have y1 := (Sol.blk_ext HKb.out HB2.out).cell 1 rfl
  cases b
  · go_wp2_with fail
    go_ret
    exact ⟨rfl, ext_trans HB0.out HB2.out⟩
  · obtain ⟨h202, h402⟩ := hn rfl
    clear hn
    by_cases hh : 100 < hol.length
    · have hhc : (100 : Int) < (hol.length : Int) := by omega
      go_wp2_with fail
      go_ret
      exact ⟨rfl, ext_trans HB0.out HB2.out⟩
    · have hhc : ¬ (100 : Int) < (hol.length : Int) := by omega
      have HOK := Lib.hid (HOk.out (by omega))
      go_wp2_with fail
      refine (both5_any offs hol HOl.out (by omega) AO co AH ch HNi.out _ (HrO.out.ext HB2.out) (HrH.out.ext HB2.out)).mono ?_
      rintro e w3 ⟨x, y, Ax, cx, Ay, cy, rfl, hx, hy, hb⟩
      have HB3 := Lib.hid (ext_trans HB2.out hb)
      have hch : (cdOf offs hol).hol.length ≤ 1048576 := by show hol.length ≤ _; omega
      obtain ⟨c, hc⟩ : ∃ c, c = cdOf offs hol := ⟨_, rfl⟩
      rw [← hc] at hx hy HOK hch
      have HX3 := Lib.hid hx
      have HY3 := Lib.hid hy
      clear hx hy hb y0 y1 hc hhc HOk HrO HrH HNi HOl HKb
      go_wp2_with fail
      refine (dutiesOf_any l (by omega) LA lc _ (HL.out.ext HB3.out)).mono ?_
      rintro e w4 ⟨A4, c4, rfl, hr4, _, _, hb4⟩
      have HB4 := Lib.hid (ext_trans HB3.out hb4)
      have HX4 := Lib.hid (HX3.out.ext hb4)
      have HY4 := Lib.hid (HY3.out.ext hb4)
      have HR4 := Lib.hid hr4
      clear hr4 hb4 HX3 HY3
      go_wp2_with fail
      refine (eventsOf_any es (by omega) EA ec _ (HV.out.ext HB4.out)).mono ?_
      rintro e w5 ⟨A5, c5, rfl, hr5, _, _, hb5⟩
      have HB5 := Lib.hid (ext_trans HB4.out hb5)
      have HX5 := Lib.hid (HX4.out.ext hb5)
      have HY5 := Lib.hid (HY4.out.ext hb5)
      have HR4 := Lib.hid (HR4.out.ext hb5)
      have HR5 := Lib.hid hr5
      clear hr5 hb5 HX4 HY4
      go_wp2_with fail
      refine (states2_any l (by omega) es (by omega) c HOK.out x 0 Ax cx on A A4 A5 c4 c5 _ HR4.out HR5.out HX5.out (e3 (HE.out.below HB5.out))).mono ?_
      rintro e w6 ⟨⟨SA, sn, sc, rfl, hs1, hs2⟩, hb6⟩
      have HB6 := Lib.hid (ext_trans HB5.out hb6)
      have HX6 := Lib.hid (HX5.out.ext hb6)
      have HY6 := Lib.hid (HY5.out.ext hb6)
      have HS1 := Lib.hid hs1
      have HS2 := Lib.hid hs2
      obtain ⟨code, hcode⟩ : ∃ code, code = codeV c l es on := ⟨_, rfl⟩
      rw [← hcode] at HS1 HS2 ⊢
      have HCo := Lib.hid hcode
      have HCk := Lib.hid (show CodeOk code by rw [hcode]; exact codeV_ok c l es on)
      obtain ⟨ev, hev⟩ : ∃ ev, ev = errC A code := ⟨_, rfl⟩
      rw [← hev]
      have HEv := Lib.hid hev
      clear hb6 hs1 hs2 HX5 HY5 HR4 HR5 hcode hev
      go_wp2_with fail
      refine (dutiesOf_any l (by omega) LA lc _ (HL.out.ext HB6.out)).mono ?_
      rintro e w7 ⟨A7, c7, rfl, hr7, _, _, hb7⟩
      have HB7 := Lib.hid (ext_trans HB6.out hb7)
      have HX7 := Lib.hid (HX6.out.ext hb7)
      have HY7 := Lib.hid (HY6.out.ext hb7)
      have HBs := Lib.hid hb7
      have HR7 := Lib.hid hr7
      clear hr7 hb7 HX6 HY6
      go_wp2_with fail
      refine (eventsOf_any es (by omega) EA ec _ (HV.out.ext HB7.out)).mono ?_
      rintro e w8 ⟨A8, c8, rfl, hr8, _, _, hb8⟩
      have HB8 := Lib.hid (ext_trans HB7.out hb8)
      have HX8 := Lib.hid (HX7.out.ext hb8)
      have HY8 := Lib.hid (HY7.out.ext hb8)
      have HR7 := Lib.hid (HR7.out.ext hb8)
      have HBs := Lib.hid (ext_trans HBs.out hb8)
      have HR8 := Lib.hid hr8
      clear hr8 hb8 HX7 HY7
      go_wp2_with fail
      refine (next_any l (by omega) es (by omega) c HOK.out x 0 Ax cx on A A7 A8 c7 c8 _ HR7.out HR8.out HX8.out (e3 (HE.out.below HB8.out))).mono ?_
      rintro e w9 ⟨⟨n, rfl, hn1, hn2⟩, hb9⟩
      have HB9 := Lib.hid (ext_trans HB8.out hb9)
      have HY9 := Lib.hid (HY8.out.ext hb9)
      have HBs := Lib.hid (ext_trans HBs.out hb9)
      rw [← HCo.out] at hn1 hn2 ⊢
      rw [← HEv.out]
      have HN1 := Lib.hid hn1
      have HN2 := Lib.hid hn2
      clear hb9 hn1 hn2 HX8 HY8 HR7 HR8
      go_wp2_with fail
      refine (rvalid_any l (by omega) es (by omega) c hch y 0 Ay cy on LA EA lc ec _ (HL.out.ext HB9.out) (HV.out.ext HB9.out) HY9.out).mono ?_
      rintro e wa ⟨rfl, hba⟩
      have HBa := Lib.hid (ext_trans HB9.out hba)
      have HYa := Lib.hid (HY9.out.ext hba)
      have HBs := Lib.hid (ext_trans HBs.out hba)
      rw [← HCo.out]
      clear hba HY9
      go_wp2_with fail
      rw [HEv.out]
      refine (coded5_same A code HCk.out _ (HE.out.below HBa.out)).mono ?_
      rintro e wb ⟨rfl, hbb⟩
      have HBb := Lib.hid (ext_trans HBa.out hbb)
      have HYb := Lib.hid (HYa.out.ext hbb)
      have HBs := Lib.hid (ext_trans HBs.out hbb)
      clear hbb HYa
      rw [← HEv.out]
      go_wp2_with fail
      rw [HEv.out]
      refine (coded5_same A code HCk.out _ (HE.out.below HBb.out)).mono ?_
      rintro e wc ⟨rfl, hbc⟩
      have HBc := Lib.hid (ext_trans HBb.out hbc)
      have HYc := Lib.hid (HYb.out.ext hbc)
      have HBs := Lib.hid (ext_trans HBs.out hbc)
      clear hbc HYb
      rw [← HEv.out]
      by_cases hz : 0 < code
      · have hsn : sn = 0 := HS1.out (by omega)
        have hnz : n = 0 := HN1.out (by omega)
        subst hsn
        subst hnz
        go_wp2_with fail
        go_ret
        exact ⟨rfl, ext_trans HB0.out HBc.out⟩
      · have hcz : code = 0 := by have h := HCk.out; unfold CodeOk at h; omega
        subst hcz
        obtain ⟨hsn, hrs⟩ := HS2.out rfl
        subst hsn
        obtain ⟨_, _, hvo, _, _⟩ := codeV_zero HCo.out.symm
        have HRs := Lib.hid (hrs.ext HBs.out)
        have HNo := Lib.hid (HN2.out rfl)
        have HGo := Lib.hid hvo.1
        have HDo := Lib.hid (show ∀ x ∈ l, DOk x from fun x hx => hvo.2 x (by rw [List.take_length]; exact hx))
        have hg1 : 1 ≤ on := hvo.1.1
        have hg2 : on ≤ 3652059 := hvo.1.2
        clear hrs hvo hz HS1 HS2 HN1 HN2
        go_wp2_with fail
        refine (rstates_any l (by omega) es (by omega) c hch y 0 Ay cy on hg2 LA EA lc ec _ (HL.out.ext HBc.out) (HV.out.ext HBc.out) HYc.out HDo.out).mono ?_
        rintro e wd ⟨TA, tc, rfl, ht, hbd⟩
        have HBd := Lib.hid (ext_trans HBc.out hbd)
        have HYd := Lib.hid (HYc.out.ext hbd)
        have HRs := Lib.hid (HRs.out.ext hbd)
        have HRt := Lib.hid ht
        have hsl := states_len c l es on
        clear ht hbd HYc
        go_wp2_with fail
        refine (lsame_any (statesF c l es on) (by omega) SA TA sc tc _ HRs.out HRt.out).mono ?_
        rintro e we ⟨rfl, hbe⟩
        have HBe := Lib.hid (ext_trans HBd.out hbe)
        have HYe := Lib.hid (HYd.out.ext hbe)
        have HRe := Lib.hid (HRt.out.ext hbe)
        clear hbe HYd HRs HRt HBs
        go_wp2_with fail
        go_loopw [22, 23] (fun t22 t23 wr => ∃ i : Nat, t23 = .int .i64 i ∧ i ≤ es.length ∧ Hid (Below we.heap.size we wr) ∧ Hid (wr.ownsRow we.heap.size 78 4 t22 (pastF (es.take i) on).length ((pastF (es.take i) on).flatMap evCells))) (fun _ t23 _ => es.length - (intOf t23).toNat)
        case atStart => exact ⟨0, rfl, Nat.zero_le _, Below.refl _ _, World.ownsRow_nil _ _ _ _⟩
        case round =>
          obtain ⟨i, rfl, hi, HB, HO⟩ := hrel
          by_cases hlt : i < es.length
          · have hltc : (i : Int) < (es.length : Int) := by omega
            have HTK := Lib.hid (past_take (on := on) hlt)
            have hel : (pastF (es.take i) on).length ≤ i := by
              have := past_len (es.take i) on
              rw [List.length_take] at this
              omega
            obtain ⟨fb, fo, rfl, r0, r1, r2, r3⟩ := ev_at (HV.out.ext (ext_trans HBe.out HB.out)) hlt
            generalize pastF (es.take i) on = R at HO HTK hel
            generalize es[i] = x at r0 r1 r2 r3 HTK
            obtain ⟨xd, xn, xw, xv⟩ := x
            simp only at r0 r1 r2 r3 HTK
            by_cases hk : xd ≤ on
            · have HK := Lib.hid (HTK.out.trans (by rw [if_pos hk]))
              clear HTK
              go_wp2_with (at_builtin; go_loud (refine wpList_append_own _ rfl _ _ _ rfl we.heap.size 78 i0 _ 4 48 Tryz.underlying55 HI.out HZ0.out HZ1.out HZ2.out rfl (by omega) u22 R.length _ rfl (World.ownsRow.alloc HO.out _) ⟨wr.heap.size, 0, none⟩ 1 1 (evCells ⟨xd, xn, xw, xv⟩) rfl rfl (new_cells wr (evCells ⟨xd, xn, xw, xv⟩) _ _ rfl) (evs_one _) (by simp only [maxLen]; omega) (by omega) (by have := HB.out.size; simp; omega) ?_; intro v1 wf hown hg _; have HO2 := Lib.hid hown; have HB2x := Lib.hid (Below.grown (ext_trans HB.out (ext_alloc wr _)) hg (by have := HB.out.size; simp; omega) (fun g hg => (HO.out.lt g hg).1)); clear hown hg))
              go_roundw
              case rel =>
                refine ⟨i + 1, by go_num, by omega, HB2x.out, ?_⟩
                have ho := HO2.out
                show World.ownsRow _ _ _ _ _ _ _
                rw [HK.out]
                simpa using ho
              case measure => simp [intOf] <;> omega
            · have HK := Lib.hid (HTK.out.trans (by rw [if_neg hk, List.append_nil]))
              clear HTK
              go_wp2_with fail
              go_roundw
              case rel => exact ⟨i + 1, by go_num, by omega, HB.out, by show World.ownsRow _ _ _ _ _ _ _; rw [HK.out]; exact HO.out⟩
              case measure => simp [intOf] <;> omega
          · obtain rfl : es.length = i := by omega
            have hlc : ¬ (es.length : Int) < (es.length : Int) := by omega
            rw [List.take_length] at HO
            obtain ⟨PA, pc, rfl, _⟩ := own_slice HO.out
            have hpl := past_len es on
            have HBr := Lib.hid (ext_trans HBe.out HB.out)
            have HRp := Lib.hid (Rd.of_own HO.out)
            have HRt := Lib.hid (HRe.out.ext HB.out)
            have HYr := Lib.hid (HYe.out.ext HB.out)
            clear HO HB HYe HRe
            by_cases hnz : n = 0
            · subst hnz
              by_cases hf : 3652059 < on + 1500
              · have HKp := Lib.hid (next_zero (d := 3652059) HNo.out HGo.out hg2 (by omega))
                go_wp2_with fail
                refine (rstates_any l (by omega) (pastF es on) (by omega) c hch y 0 Ay cy 3652059 (by omega) LA PA lc pc _ (HL.out.ext HBr.out) HRp.out HYr.out HDo.out).mono ?_
                rintro e wg ⟨UA, uc, rfl, hu, hbg⟩
                rw [HKp.out] at hu ⊢
                have HU := Lib.hid hu
                have HBg := Lib.hid (ext_trans HBr.out hbg)
                have HRt := Lib.hid (HRt.out.ext hbg)
                clear hu hbg
                go_wp2_with fail
                refine (rsame_any (statesF c l es on) (statesF c l es on) (by omega) UA TA uc tc _ HU.out HRt.out).mono ?_
                rintro e wh ⟨rfl, hbh⟩
                have HBh := Lib.hid (ext_trans HBg.out hbh)
                rw [decide_eq_true (rfl : statesF c l es on = statesF c l es on)]
                clear hbh
                go_wp2_with fail
                go_ret
                exact ⟨rfl, ext_trans HB0.out HBh.out⟩
              · have HKp := Lib.hid (next_zero (d := on + 1500) HNo.out HGo.out (by omega) (by omega))
                go_wp2_with fail
                refine (rstates_any l (by omega) (pastF es on) (by omega) c hch y 0 Ay cy (on + 1500) (by omega) LA PA lc pc _ (HL.out.ext HBr.out) HRp.out HYr.out HDo.out).mono ?_
                rintro e wg ⟨UA, uc, rfl, hu, hbg⟩
                rw [HKp.out] at hu ⊢
                have HU := Lib.hid hu
                have HBg := Lib.hid (ext_trans HBr.out hbg)
                have HRt := Lib.hid (HRt.out.ext hbg)
                clear hu hbg
                go_wp2_with fail
                refine (rsame_any (statesF c l es on) (statesF c l es on) (by omega) UA TA uc tc _ HU.out HRt.out).mono ?_
                rintro e wh ⟨rfl, hbh⟩
                have HBh := Lib.hid (ext_trans HBg.out hbh)
                rw [decide_eq_true (rfl : statesF c l es on = statesF c l es on)]
                clear hbh
                go_wp2_with fail
                go_ret
                exact ⟨rfl, ext_trans HB0.out HBh.out⟩
            · obtain ⟨h1, h2, h3, h4⟩ := next_some HNo.out HGo.out hnz
              have HK1 := Lib.hid h3
              have HK2 := Lib.hid h4
              have qn : (n == 0) = false := by simpa using hnz
              clear h3 h4 hnz
              by_cases hf : 1500 < n - on
              · go_wp2_with fail
                go_ret
                exact ⟨rfl, ext_trans HB0.out HBr.out⟩
              · go_wp2_with fail
                refine (rstates_any l (by omega) (pastF es on) (by omega) c hch y 0 Ay cy (n - 1) (by omega) LA PA lc pc _ (HL.out.ext HBr.out) HRp.out HYr.out HDo.out).mono ?_
                rintro e wg ⟨UA, uc, rfl, hu, hbg⟩
                rw [HK1.out] at hu ⊢
                have HU := Lib.hid hu
                have HBg := Lib.hid (ext_trans HBr.out hbg)
                have HRt := Lib.hid (HRt.out.ext hbg)
                have HRp := Lib.hid (HRp.out.ext hbg)
                have HYr := Lib.hid (HYr.out.ext hbg)
                clear hu hbg
                go_wp2_with fail
                refine (rstates_any l (by omega) (pastF es on) (by omega) c hch y 0 Ay cy n (by omega) LA PA lc pc _ (HL.out.ext HBg.out) HRp.out HYr.out HDo.out).mono ?_
                rintro e wh ⟨VA, vc, rfl, hv2, hbh⟩
                have HV2 := Lib.hid hv2
                have HBh := Lib.hid (ext_trans HBg.out hbh)
                have HRt := Lib.hid (HRt.out.ext hbh)
                have HU := Lib.hid (HU.out.ext hbh)
                clear hv2 hbh
                go_wp2_with fail
                refine (rsame_any (statesF c l es on) (statesF c l es on) (by omega) UA TA uc tc _ HU.out HRt.out).mono ?_
                rintro e wi ⟨rfl, hbi⟩
                have HBi := Lib.hid (ext_trans HBh.out hbi)
                have HRt := Lib.hid (HRt.out.ext hbi)
                have HV3 := Lib.hid (HV2.out.ext hbi)
                rw [decide_eq_true (rfl : statesF c l es on = statesF c l es on)]
                clear hbi
                go_wp2_with fail
                refine (rsame_any (statesF c l (pastF es on) n) (statesF c l es on) (by have := states_len c l (pastF es on) n; omega) VA TA vc tc _ HV3.out HRt.out).mono ?_
                rintro e wj ⟨rfl, hbj⟩
                have HBj := Lib.hid (ext_trans HBi.out hbj)
                rw [decide_eq_false HK2.out]
                clear hbj
                go_wp2_with fail
                go_ret
                exact ⟨rfl, ext_trans HB0.out HBj.out⟩
end Go.Proofs.YtcpcejmlnhflpaaGreatDoor.DutiesStand

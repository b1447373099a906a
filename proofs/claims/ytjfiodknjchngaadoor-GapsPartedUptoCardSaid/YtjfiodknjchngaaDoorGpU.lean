/- Gaps: the program's judgement of a table. -/
import Derived.Test.YtjfiodknjchngaaDoorGpN
import Derived.Test.YtjfiodknjchngaaDoorGpV
import Derived.Test.YtjfiodknjchngaaDoorGpZ
namespace Go.Proofs.YtjfiodknjchngaaDoor.Gp
open Go.RowKit Mem Nest Fk Err

theorem blk_grown {w w1 : World} {K base n size : Nat} {T e : TypeId} {cs ys : List Value} {v : Value} {o : Obj} (h : Blk w K T cs) (ho : w.ownsRow base e size v n ys) (hT : T ≠ e) (hg : (w.alloc o).grownBy w1 v.ownBlock) : Blk w1 K T cs := by
  have hlt := h.lt
  have hb' : (w.alloc o).heap[K]? = some (Obj.cells cs.toArray T (0, 0)) := by rw [heap_alloc_old _ _ hlt]; exact h
  have hne : some K ≠ v.ownBlock := by
    intro e1
    obtain ⟨c', fz', h'⟩ := Lib.ownsRow_kind ho K e1.symm
    unfold Blk at h
    rw [h] at h'
    simp only [Option.some.injEq, Obj.cells.injEq] at h'
    exact hT h'.2.1
  unfold Blk
  rw [hg.block K (Array.getElem?_eq_some_iff.1 hb').1 hne]
  exact hb'
theorem dup_take (l : List (List UInt8)) (i : Nat) : dupB (l.take (i + 1)) i = dupB l i := by
  have h : ∀ m, m < i + 1 → txtAt (l.take (i + 1)) m = txtAt l m := fun m hm => by simp [txtAt, hm]
  unfold dupB
  exact anyTo_congr fun m hm => by rw [h m (by omega), h i (by omega)]
theorem str_infoU : (Tryd.prog.info? 9).map (fun i => (i.zero, i.size, i.bytes)) = some (some (.string ByteArray.empty), 1, 16) := by kernel_rfl
set_option maxRecDepth 100000 in
set_option maxHeartbeats 8000000 in
theorem pvalid_any (A : Nat → Addr) (qms : List QnM) (QA : Option Addr) (c : Nat) (ms : List RwM) (B : Option Addr) (bc : Nat) (hs : SmallT qms ms) (hcp : ∀ q ∈ qms, q.ans.length ≤ q.c) (w : World) (hE : Errs w A) (hq : QsP w QA qms) (hr : RowsP w B ms) :
    Calls Tryd.prog 25 #[.agg #[.slice QA qms.length c, .slice B ms.length bc]] w (ValidPost A (vcode (qms.map QnM.qn) (ms.map RwM.rw)) w) := by
  have hbk := Blk.new w 31 [.slice QA qms.length c, .slice B ms.length bc]
  have hx := ext_alloc w (.cells (List.toArray [.slice QA qms.length c, .slice B ms.length bc]) 31)
  obtain ⟨W, hW⟩ : ∃ W, W = w.alloc (.cells (List.toArray [.slice QA qms.length c, .slice B ms.length bc]) 31) := ⟨_, rfl⟩
  obtain ⟨K, hK⟩ : ∃ K, K = w.heap.size := ⟨_, rfl⟩
  rw [← hW] at hx hbk
  rw [← hK] at hbk
  have HX := Lib.hid hx
  have HE := Lib.hid (hE.below hx)
  have HQ := Lib.hid (hq.ext hx)
  have HR := Lib.hid (hr.ext hx)
  have HW := Lib.hid hW
  have HK := Lib.hid hK
  have HS := Lib.hid hs
  have HCp := Lib.hid hcp
  have r0 := hbk.cell 0 rfl
  have r1 := hbk.cell 1 rfl
  obtain ⟨qs, hqs⟩ : ∃ qs, qs = qms.map QnM.qn := ⟨_, rfl⟩
  obtain ⟨rs, hrs⟩ : ∃ rs, rs = ms.map RwM.rw := ⟨_, rfl⟩
  have HQS := Lib.hid hqs
  have HRS := Lib.hid hrs
  have hql : qms.length ≤ 1048576 := hs.ql
  have hrl : ms.length ≤ 1048576 := hs.rl
  rw [← hqs, ← hrs]
  obtain ⟨V, hV⟩ : ∃ V : Nat, V = vcode qs rs := ⟨_, rfl⟩
  rw [← hV]
  have HV := Lib.hid hV
  obtain ⟨i0, hi0, hz0, hz1, hz2⟩ := info_parts str_infoU
  have HI := Lib.hid hi0
  have HZ0 := Lib.hid hz0
  have HZ1 := Lib.hid hz1
  have HZ2 := Lib.hid hz2
  clear hbk hx hW hK hq hr hs hqs hrs hV hE hcp hi0 hz0 hz1 hz2
  go_enter Tryd.func25, Tryd.ntmps25
  go_upto_region 1 with fail
  rw [show w.alloc (.cells #[.slice QA qms.length c, .slice B ms.length bc] 31) = W from HW.out.symm, ← HK.out]
  clear HW
  obtain ⟨b0, hb0⟩ : ∃ zz : Bool, zz = (decide (12 < qms.length) || decide (60 < ms.length)) := ⟨_, rfl⟩
  have HB0 := Lib.hid hb0
  clear hb0
  go_cut [3] (fun t wx => t = .bool b0 ∧ W = wx)
  case first =>
    by_cases h1 : 12 < qms.length
    · have h1c : (12 : Int) < qms.length := by omega
      go_wp2_with fail
      go_meet
      exact ⟨by rw [HB0.out, decide_eq_true h1]; rfl, rfl⟩
    · have h1c : ¬ (12 : Int) < qms.length := by omega
      by_cases h2 : 60 < ms.length
      · have h2c : (60 : Int) < ms.length := by omega
        go_wp2_with fail
        go_meet
        exact ⟨by rw [HB0.out, decide_eq_false h1, decide_eq_true h2]; rfl, rfl⟩
      · have h2c : ¬ (60 : Int) < ms.length := by omega
        go_wp2_with fail
        go_meet
        exact ⟨by rw [HB0.out, decide_eq_false h1, decide_eq_false h2]; rfl, rfl⟩
  case rest =>
    obtain ⟨rfl, h2⟩ := hcut
    subst h2
    go_wp2_with fail
    go_loopw [3, 4, 5, 6, 32] (fun t3 t4 t5 t6 t8 wr => ∃ (i : Nat) (b n k : Bool) (v : Value), t3 = .bool b ∧ t4 = .bool n ∧ t5 = .bool k ∧ v = t6 ∧ t8 = .int .i64 i ∧ i ≤ qms.length ∧ Hid (wr.ownsRow W.heap.size 9 1 v i (strsV ((qs.map (·.name)).take i))) ∧ Hid (b = (b0 || boundQ qs i)) ∧ Hid (n = nameF qs i) ∧ Hid (k = kindQ qs i) ∧ Hid (Below W.heap.size W wr)) (fun _ _ _ _ t8 _ => qms.length - (intOf t8).toNat)
    case atStart => exact ⟨0, b0, false, false, _, rfl, rfl, rfl, rfl, rfl, by omega, World.ownsRow_nil _ _ _ _, (show b0 = (b0 || boundQ qs 0) by simp [boundQ, anyTo_zero]), rfl, rfl, Below.refl _ _⟩
    case round =>
      obtain ⟨i, b, n, k, v, rfl, rfl, rfl, rfl, rfl, hi, HOw, HB, HN, HKd, HBe⟩ := hrel
      have k0 := cell_ext HBe.out r0
      by_cases hlt : i < qms.length
      · have hcl : (i : Int) < qms.length := by omega
        as_aux_lemma =>
          obtain ⟨qb, qo, hA, z0, z1⟩ := (HQ.out.ext HBe.out).row hlt
          subst hA
          have HWd0 := Lib.hid (fun w => pword_any qms[i].name (HS.out.nm _ (List.getElem_mem hlt)) w)
          have HQi := Lib.hid (show qAt qs i = qms[i].qn by rw [HQS.out]; exact qAt_m hlt)
          have HNi := Lib.hid (show txtAt (qs.map (·.name)) i = qms[i].name by rw [HQS.out]; exact txt_m hlt)
          have hil : i < (qs.map (·.name)).length := by rw [HQS.out]; simpa using hlt
          have HTk := Lib.hid (show strsV ((qs.map (·.name)).take (i + 1)) = strsV ((qs.map (·.name)).take i) ++ [.string ⟨qms[i].name.toArray⟩] by
            rw [List.take_succ_eq_append_getElem hil, ← txtAt_get hil, HNi.out]
            simp [strsV])
          have hal := HS.out.al _ (List.getElem_mem hlt)
          have HAn := Lib.hid (HS.out.an _ (List.getElem_mem hlt))
          have HAr := Lib.hid (HQ.out.ans _ (List.getElem_mem hlt))
          have hac := HCp.out _ (List.getElem_mem hlt)
          generalize qms[i] = Q at *
          obtain ⟨nm, an, aA, ac⟩ := Q
          simp only [QnM.qn] at z0 z1 HWd0 HQi HNi hal HAn HAr HTk hac
          obtain ⟨na, hna⟩ : ∃ na, na = an.length := ⟨_, rfl⟩
          rw [← hna] at z1 hal
          have HNa := Lib.hid hna
          obtain ⟨wd, hwd⟩ : ∃ wd, wd = wordB nm := ⟨_, rfl⟩
          have HWd := Lib.hid (show ∀ w : World, Calls Tryd.prog 46 #[.string ⟨nm.toArray⟩] w (RetB wd w) from fun w => by rw [hwd]; exact HWd0.out w)
          have HWe := Lib.hid hwd
          obtain ⟨th, hth⟩ : ∃ th, (nm == [116, 104, 101, 110]) = th := ⟨_, rfl⟩
          have HTh := Lib.hid hth
          have hbk1 := Blk.new wr 88 [.string ⟨nm.toArray⟩, .slice aA na ac]
          have hx1 := ext_alloc wr (.cells (List.toArray [.string ⟨nm.toArray⟩, .slice aA na ac]) 88)
          obtain ⟨V1, hV1⟩ : ∃ V, V = wr.alloc (.cells (List.toArray [.string ⟨nm.toArray⟩, .slice aA na ac]) 88) := ⟨_, rfl⟩
          obtain ⟨K1, hK1⟩ : ∃ K, K = wr.heap.size := ⟨_, rfl⟩
          rw [← hV1] at hbk1 hx1
          rw [← hK1] at hbk1
          have HV1 := Lib.hid hV1
          have HK1 := Lib.hid hK1
          have HX1 := Lib.hid hx1
          have HB1 := Lib.hid hbk1
          have y0 := hbk1.cell 0 rfl
          have y1 := hbk1.cell 1 rfl
          have k1 := cell_ext hx1 k0
          have hsw : W.heap.size ≤ V1.heap.size := Nat.le_trans HBe.out.size hx1.size
          clear hna hwd hbk1 hx1 hV1 hK1 HWd0 hil
          go_upto_region 7 with fail
          rw [show wr.alloc (.cells #[.string ⟨nm.toArray⟩, .slice aA na ac] 88) = V1 from HV1.out.symm, ← HK1.out]
          clear HV1 HK1 z0 z1 k0
          go_cut [6] (fun t6 wx => ∃ v2, v2 = t6 ∧ Hid (wx.ownsRow W.heap.size 9 1 v2 (i + 1) (strsV ((qs.map (·.name)).take (i + 1)))) ∧ Hid (Below W.heap.size W wx) ∧ Hid (Blk wx K1 88 [.string ⟨nm.toArray⟩, .slice aA na ac]))
          case first =>
            go_wp2_with (at_builtin; refine wpList_append_own _ rfl _ _ _ rfl W.heap.size 9 i0 _ 1 16 Tryd.underlying50 HI.out HZ0.out HZ1.out HZ2.out rfl (by omega) v i (strsV ((qs.map (·.name)).take i)) rfl (World.ownsRow.alloc (own_ext HOw.out HX1.out) _) ⟨V1.heap.size, 0, none⟩ 1 1 [.string ⟨nm.toArray⟩] rfl rfl (new_cells V1 [.string ⟨nm.toArray⟩] _ _ rfl) (by intro u hu; simp only [List.mem_cons, List.not_mem_nil, or_false] at hu; rcases hu with rfl; rfl) (by unfold maxLen; omega) (by omega) (by simp; omega) ?_; intro v4 w4 hown4 hg4 _; have HO4 := Lib.hid hown4; have HG4 := Lib.hid hg4; clear hown4 hg4)
            go_meet
            exact ⟨v4, rfl, (show w4.ownsRow W.heap.size 9 1 v4 (i + 1) (strsV ((qs.map (·.name)).take (i + 1))) by rw [HTk.out]; exact HO4.out), (((ext_trans HBe.out HX1.out).alloc hsw _).grown HG4.out (by simp; omega) (fun g hg => (HOw.out.lt g hg).1)), blk_grown HB1.out (own_ext HOw.out HX1.out) (by decide) HG4.out⟩
          case rest =>
            obtain ⟨v2, rfl, HOw2, HBe2, HBk2⟩ := hcut
            clear y0 y1 k1
            obtain ⟨V2, hV2⟩ : ∃ V2, V2 = wc := ⟨_, rfl⟩
            rw [← hV2] at HOw2 HBe2 HBk2 ⊢
            clear hV2 wc
            have y0 := HBk2.out.cell 0 rfl
            have y1 := HBk2.out.cell 1 rfl
            obtain ⟨b2, hb2⟩ : ∃ zz : Bool, zz = (b || decide (12 < na)) := ⟨_, rfl⟩
            have HB2 := Lib.hid hb2
            clear hb2
            go_upto_region 8 with fail
            go_cut [3] (fun t wx => t = .bool b2 ∧ V2 = wx)
            case first =>
              cases b with
              | true =>
                go_wp2_with fail
                go_meet
                exact ⟨by rw [HB2.out]; rfl, rfl⟩
              | false =>
                by_cases h1 : 12 < na
                · have h1c : (12 : Int) < na := by omega
                  go_wp2_with fail
                  go_meet
                  exact ⟨by rw [HB2.out, decide_eq_true h1]; rfl, rfl⟩
                · have h1c : ¬ (12 : Int) < na := by omega
                  go_wp2_with fail
                  go_meet
                  exact ⟨by rw [HB2.out, decide_eq_false h1]; rfl, rfl⟩
            case rest =>
              obtain ⟨rfl, h2⟩ := hcut
              subst h2
              obtain ⟨k2, hk2⟩ : ∃ zz : Bool, zz = (k || (na == 0)) := ⟨_, rfl⟩
              have HK2 := Lib.hid hk2
              clear hk2
              go_upto_region 9 with fail
              go_cut [5] (fun t wx => t = .bool k2 ∧ V2 = wx)
              case first =>
                cases k with
                | true =>
                  go_wp2_with fail
                  go_meet
                  exact ⟨by rw [HK2.out]; rfl, rfl⟩
                | false =>
                  by_cases h1 : na = 0
                  · have h1c : ((na : Int) == 0) = true := by simp [h1]
                    go_wp2_with fail
                    go_meet
                    exact ⟨by rw [HK2.out, h1]; rfl, rfl⟩
                  · have h1c : ((na : Int) == 0) = false := by simp; omega
                    have h1d : (na == 0) = false := by simp [h1]
                    go_wp2_with fail
                    go_meet
                    exact ⟨by rw [HK2.out, h1d]; rfl, rfl⟩
              case rest =>
                obtain ⟨rfl, h2⟩ := hcut
                subst h2
                obtain ⟨NA, nc, rfl, hcap, _⟩ := own_slice HOw2.out
                obtain ⟨dp, hdp⟩ : ∃ dp, dp = dupB (qs.map (·.name)) i := ⟨_, rfl⟩
                have HTw := Lib.hid (show ∀ w', Below V2.heap.size V2 w' → Calls Tryd.prog 47 #[.slice NA ((i + 1 : Nat)) nc, .int .i64 i] w' (RetA dp w') from fun w' hb' => by
                  have hl : ((qs.map (·.name)).take (i + 1)).length = i + 1 := by
                    rw [List.length_take, List.length_map, HQS.out, List.length_map]
                    omega
                  have h := twice_any ((qs.map (·.name)).take (i + 1)) (by omega) NA nc (by omega) i (by omega) w' ((Rd.of_own HOw2.out).ext hb')
                  rw [hl, dup_take, ← hdp] at h
                  exact h)
                have HDp := Lib.hid hdp
                clear hdp
                obtain ⟨n2, hn2⟩ : ∃ zz : Bool, zz = (n || !wd || th || dp) := ⟨_, rfl⟩
                have HN2 := Lib.hid hn2
                clear hn2
                go_upto_region 10 with fail
                go_cut [4] (fun t wx => t = .bool n2 ∧ Hid (Below V2.heap.size V2 wx))
                case first =>
                  cases n with
                  | true =>
                    go_wp2_with fail
                    go_meet
                    exact ⟨by rw [HN2.out]; rfl, Below.refl _ _⟩
                  | false =>
                    go_wp2_with fail
                    refine (HWd.out V2).mono ?_
                    rintro e w' ⟨rfl, h2⟩
                    subst h2
                    cases wd with
                    | false =>
                      go_wp2_with fail
                      go_meet
                      exact ⟨by rw [HN2.out]; rfl, Below.refl _ _⟩
                    | true =>
                      cases th with
                      | true =>
                        go_wp2_with fail
                        go_meet
                        exact ⟨by rw [HN2.out]; rfl, Below.refl _ _⟩
                      | false =>
                        have HTv := Lib.hid (HTw.out V2 (Below.refl _ _))
                        go_wp2_with fail
                        refine HTv.out.mono ?_
                        rintro e w' ⟨rfl, hb4⟩
                        have HB4 := Lib.hid hb4
                        clear hb4
                        go_wp2_with fail
                        go_meet
                        exact ⟨by rw [HN2.out]; rfl, HB4.out⟩
                case rest =>
                  obtain ⟨rfl, HB4⟩ := hcut
                  obtain ⟨V3, hV3⟩ : ∃ V3, V3 = wc := ⟨_, rfl⟩
                  rw [← hV3] at HB4 ⊢
                  clear hV3 wc
                  have y0 := cell_ext HB4.out y0
                  have y1 := cell_ext HB4.out y1
                  have HAr3 := Lib.hid ((HAr.out.ext HBe2.out).ext HB4.out)
                  go_wp2_with fail
                  go_loopw [4, 76] (fun t4 t76 wr => ∃ (m : Nat) (z : Bool), t4 = .bool z ∧ t76 = .int .i64 m ∧ m ≤ na ∧ Hid (z = (n2 || anyTo (ansB an) m)) ∧ Hid (Below V3.heap.size V3 wr)) (fun _ t76 _ => na - (intOf t76).toNat)
                  case atStart => exact ⟨0, n2, rfl, rfl, by omega, (show n2 = (n2 || anyTo (ansB an) 0) by simp [anyTo_zero]), Below.refl _ _⟩
                  case round =>
                    obtain ⟨m, z, rfl, rfl, hm2, HZ, HB5⟩ := hrel
                    have y1 := cell_ext HB5.out y1
                    by_cases hlm : m < na
                    · have hcm2 : (m : Int) < na := by omega
                      have hma : m < an.length := by have := HNa.out; omega
                      obtain ⟨sb, so, hsA, s0⟩ := str_at (HAr3.out.ext HB5.out) hma
                      have HTq := Lib.hid (show ∀ w', Below wr.heap.size wr w' → Calls Tryd.prog 47 #[.slice aA na ac, .int .i64 m] w' (RetA (dupB an m) w') from fun w' hb' => by
                        have h := twice_any an (by have := HNa.out; omega) aA ac hac m hma w' ((HAr3.out.ext HB5.out).ext hb')
                        rw [← HNa.out] at h
                        exact h)
                      subst hsA
                      have HTm := Lib.hid (txtAt_get hma)
                      have HWm := Lib.hid (fun w => pword_any an[m] (HAn.out _ (List.getElem_mem hma)) w)
                      generalize an[m] = s at *
                      obtain ⟨wd2, hwd2⟩ : ∃ wd, wd = wordB s := ⟨_, rfl⟩
                      have HWm2 := Lib.hid (show ∀ w : World, Calls Tryd.prog 46 #[.string ⟨s.toArray⟩] w (RetB wd2 w) from fun w => by rw [hwd2]; exact HWm.out w)
                      have HWe2 := Lib.hid hwd2
                      obtain ⟨t1, ht1⟩ : ∃ th, (s == [110, 111, 110, 101]) = th := ⟨_, rfl⟩
                      have HT1 := Lib.hid ht1
                      obtain ⟨t2, ht2⟩ : ∃ th, (s == [116, 104, 101, 110]) = th := ⟨_, rfl⟩
                      have HT2 := Lib.hid ht2
                      obtain ⟨d2, hd2⟩ : ∃ d2, d2 = dupB an m := ⟨_, rfl⟩
                      rw [← hd2] at HTq
                      have HD2 := Lib.hid hd2
                      clear hwd2 HWm hd2
                      obtain ⟨V4, hV4⟩ : ∃ V4, V4 = wr := ⟨_, rfl⟩
                      rw [← hV4] at HB5 y1 s0 HTq ⊢
                      clear hV4 wr
                      obtain ⟨z2, hz2⟩ : ∃ zz : Bool, zz = (z || !wd2 || t1 || t2 || d2) := ⟨_, rfl⟩
                      have HZ2 := Lib.hid hz2
                      clear hz2
                      have HZ3 := Lib.hid (show (n2 || anyTo (ansB an) (m + 1)) = z2 by
                        rw [anyTo_succ, or_move, ← HZ.out, HZ2.out]
                        unfold ansB noneT thenT
                        rw [HTm.out, ← HWe2.out, HT1.out, HT2.out, ← HD2.out]
                        simp only [Bool.or_assoc])
                      clear HWe2 HT1 HT2 HD2 HZ HTm
                      go_upto_region 14 with fail
                      clear s0
                      cases z with
                      | true =>
                        go_wp2_with fail
                        go_roundw
                        case rel => exact ⟨m + 1, true, rfl, by go_num, by omega, (show true = (n2 || anyTo (ansB an) (m + 1)) by rw [HZ3.out, HZ2.out]; rfl), HB5.out⟩
                        case measure => simp [intOf]; omega
                      | false =>
                        go_wp2_with fail
                        refine (HWm2.out V4).mono ?_
                        rintro e w' ⟨rfl, h2⟩
                        subst h2
                        cases wd2 with
                        | false =>
                          go_wp2_with fail
                          go_roundw
                          case rel => exact ⟨m + 1, true, rfl, by go_num, by omega, (show true = (n2 || anyTo (ansB an) (m + 1)) by rw [HZ3.out, HZ2.out]; rfl), HB5.out⟩
                          case measure => simp [intOf]; omega
                        | true =>
                          cases t1 with
                          | true =>
                            go_wp2_with fail
                            go_roundw
                            case rel => exact ⟨m + 1, true, rfl, by go_num, by omega, (show true = (n2 || anyTo (ansB an) (m + 1)) by rw [HZ3.out, HZ2.out]; rfl), HB5.out⟩
                            case measure => simp [intOf]; omega
                          | false =>
                            cases t2 with
                            | true =>
                              go_wp2_with fail
                              go_roundw
                              case rel => exact ⟨m + 1, true, rfl, by go_num, by omega, (show true = (n2 || anyTo (ansB an) (m + 1)) by rw [HZ3.out, HZ2.out]; rfl), HB5.out⟩
                              case measure => simp [intOf]; omega
                            | false =>
                              have HTv := Lib.hid (HTq.out V4 (Below.refl _ _))
                              go_wp2_with fail
                              refine HTv.out.mono ?_
                              rintro e w' ⟨rfl, hb6⟩
                              have HB6 := Lib.hid hb6
                              clear hb6 y1
                              go_wp2_with fail
                              go_roundw
                              case rel => exact ⟨m + 1, d2, rfl, by go_num, by omega, (show d2 = (n2 || anyTo (ansB an) (m + 1)) by rw [HZ3.out, HZ2.out]; rfl), ext_trans HB5.out HB6.out⟩
                              case measure => simp [intOf]; omega
                    · obtain rfl : na = m := by omega
                      have hcm2 : ¬ (na : Int) < na := by omega
                      go_wp2_with fail
                      go_roundw
                      case rel => exact ⟨i + 1, b2, z, k2, _, rfl, rfl, rfl, rfl, by go_num, by omega, own_ext HOw2.out (ext_trans HB4.out HB5.out), (show b2 = (b0 || boundQ qs (i + 1)) by
                          unfold boundQ
                          rw [anyTo_succ, or_move, HQi.out, HB2.out, HB.out, HNa.out]
                          rfl), (show z = nameF qs (i + 1) by
                          have e2 : qnB qs i = (!wd || th || dp) := by
                            unfold qnB thenT
                            rw [HQi.out, HTh.out, ← HWe.out, ← HDp.out]
                          rw [nameF_succ, e2, HQi.out, HZ.out, HN2.out, HN.out, HNa.out]
                          simp only [Bool.or_assoc]), (show k2 = kindQ qs (i + 1) by
                          unfold kindQ
                          rw [anyTo_succ, HQi.out, HK2.out, HKd.out, HNa.out]
                          rfl), HBe2.out.trans ((ext_trans HB4.out HB5.out).mono HBe2.out.size)⟩
                      case measure => simp [intOf]; omega
      · obtain rfl : qms.length = i := by omega
        as_aux_lemma =>
          have hcl0 : ¬ (qms.length : Int) < qms.length := by omega
          obtain ⟨V1, hV1⟩ : ∃ V1, V1 = wr := ⟨_, rfl⟩
          rw [← hV1] at HBe k0 HOw ⊢
          clear hV1 wr
          have k1 := cell_ext HBe.out r1
          have HQL := Lib.hid (show qs.length = qms.length by rw [HQS.out, List.length_map])
          have HRL := Lib.hid (show rs.length = ms.length by rw [HRS.out, List.length_map])
          go_wp2_with fail
          go_loopw [5, 11, 12, 106] (fun t5 t6 t7 t14 wr => ∃ (j : Nat) (kd od tx : Bool), t5 = .bool kd ∧ t6 = .bool od ∧ t7 = .bool tx ∧ t14 = .int .i64 j ∧ j ≤ ms.length ∧ Hid (kd = (k || kindR qs rs j)) ∧ Hid (od = ordR rs j) ∧ Hid (tx = textF rs j) ∧ Hid (Below V1.heap.size V1 wr)) (fun _ _ _ t14 _ => ms.length - (intOf t14).toNat)
          case atStart => exact ⟨0, k, false, false, rfl, rfl, rfl, rfl, by omega, (show k = (k || kindR qs rs 0) by simp [kindR, anyTo_zero]), rfl, rfl, Below.refl _ _⟩
          case round =>
            obtain ⟨j, kd, od, tx, rfl, rfl, rfl, rfl, hj, HKk, HOd, HTx, HB2⟩ := hrel
            have k0 := cell_ext HB2.out k0
            have k1 := cell_ext HB2.out k1
            by_cases hlj : j < ms.length
            · have hcj : (j : Int) < ms.length := by omega
              obtain ⟨rb, ro, hBB, z0, z1⟩ := ((HR.out.ext HBe.out).ext HB2.out).row hlj
              subst hBB
              have HRj := Lib.hid (show rAt rs j = ms[j].rw by rw [HRS.out]; exact rAt_m hlj)
              have HLn0 := Lib.hid (fun w hE => pline_any ms[j].out (HS.out.out _ (List.getElem_mem hlj)) A w hE)
              have hnc := HS.out.cl _ (List.getElem_mem hlj)
              have HCe := Lib.hid (((HR.out.ext HBe.out).ext HB2.out).cells _ (List.getElem_mem hlj))
              generalize ms[j] = r at *
              obtain ⟨cs, cA, cc, out⟩ := r
              simp only at z0 z1 HLn0 hnc HCe
              obtain ⟨nc, hnce⟩ : ∃ nc, nc = cs.length := ⟨_, rfl⟩
              rw [← hnce] at z0 hnc
              have HNc := Lib.hid hnce
              obtain ⟨lb, hlb⟩ : ∃ lb, lb = lineB out := ⟨_, rfl⟩
              have HLn := Lib.hid (show ∀ w : World, Errs w A → Calls Tryd.prog 48 #[.string ⟨out.toArray⟩] w (LinePost lb A w) from fun w hE => by rw [hlb]; exact HLn0.out w hE)
              have HLb := Lib.hid hlb
              obtain ⟨em, hem⟩ : ∃ em, out.isEmpty = em := ⟨_, rfl⟩
              have HEm := Lib.hid (show (out == []) = em by rw [← hem]; cases out <;> rfl)
              have hbk1 := Blk.new wr 91 [.slice cA nc cc, .string ⟨out.toArray⟩]
              have hx1 := ext_alloc wr (.cells (List.toArray [.slice cA nc cc, .string ⟨out.toArray⟩]) 91)
              obtain ⟨V2, hV2⟩ : ∃ V, V = wr.alloc (.cells (List.toArray [.slice cA nc cc, .string ⟨out.toArray⟩]) 91) := ⟨_, rfl⟩
              obtain ⟨K2, hK2⟩ : ∃ K, K = wr.heap.size := ⟨_, rfl⟩
              rw [← hV2] at hbk1 hx1
              rw [← hK2] at hbk1
              have HV2 := Lib.hid hV2
              have HK2 := Lib.hid hK2
              have HX1 := Lib.hid hx1
              have y0 := hbk1.cell 0 rfl
              have y1 := hbk1.cell 1 rfl
              have k0 := cell_ext hx1 k0
              have HE2 := Lib.hid (HE.out.below (ext_trans HBe.out (ext_trans HB2.out hx1)))
              clear hnce hlb hbk1 hx1 hV2 hK2 HLn0
              go_upto_region 21 with fail
              rw [show wr.alloc (.cells #[.slice cA nc cc, .string ⟨out.toArray⟩] 91) = V2 from HV2.out.symm, ← HK2.out]
              clear HV2 HK2 z0 z1 k1
              obtain ⟨tx2, htx2⟩ : ∃ zz : Bool, zz = (tx || em || !lb) := ⟨_, rfl⟩
              have HTX2 := Lib.hid htx2
              clear htx2
              go_cut [12] (fun t wx => t = .bool tx2 ∧ Hid (Below V2.heap.size V2 wx))
              case first =>
                cases tx with
                | true =>
                  go_wp2_with fail
                  go_meet
                  exact ⟨by rw [HTX2.out]; rfl, Below.refl _ _⟩
                | false =>
                  cases em with
                  | true =>
                    go_wp2_with fail
                    go_meet
                    exact ⟨by rw [HTX2.out]; rfl, Below.refl _ _⟩
                  | false =>
                    have HLv := Lib.hid (HLn.out V2 HE2.out)
                    go_wp2_with fail
                    refine HLv.out.mono ?_
                    rintro e w' ⟨⟨v, rfl, h1, h2⟩, hb⟩
                    have HB3 := Lib.hid hb
                    clear hb
                    cases lb with
                    | true =>
                      obtain rfl := h1 rfl
                      go_wp2_with fail
                      go_meet
                      exact ⟨by rw [HTX2.out]; rfl, HB3.out⟩
                    | false =>
                      obtain ⟨kk, rfl⟩ := h2 rfl
                      unfold sentV
                      go_wp2_with fail
                      go_meet
                      exact ⟨by rw [HTX2.out]; rfl, HB3.out⟩
              case rest =>
                obtain ⟨rfl, HB21⟩ := hcut
                have y0 := cell_ext HB21.out y0
                have k0 := cell_ext HB21.out k0
                have HX1 := Lib.hid (ext_trans HX1.out HB21.out)
                obtain ⟨V2, hV2⟩ : ∃ V2, V2 = wc := ⟨_, rfl⟩
                rw [← hV2] at HX1 y0 k0 ⊢
                clear hV2 HB21 y1 wc
                clear hem HLn
                obtain ⟨kd2, hkd2⟩ : ∃ zz : Bool, zz = (kd || !(nc == qms.length)) := ⟨_, rfl⟩
                have HKD2 := Lib.hid hkd2
                clear hkd2
                go_upto_region 22 with fail
                go_cut [5] (fun t wx => t = .bool kd2 ∧ V2 = wx)
                case first =>
                  cases kd with
                  | true =>
                    go_wp2_with fail
                    go_meet
                    exact ⟨by rw [HKD2.out]; rfl, rfl⟩
                  | false =>
                    by_cases h1 : nc = qms.length
                    · have h1c : ((nc : Int) != (qms.length : Int)) = false := by simp [h1]
                      have h1d : (nc == qms.length) = true := by simp [h1]
                      have HE := Lib.hid (show kd2 = false by rw [HKD2.out, h1d]; rfl)
                      clear h1 h1d
                      go_wp2_with fail
                      go_meet
                      exact ⟨by rw [HE.out], rfl⟩
                    · have h1c : ((nc : Int) != (qms.length : Int)) = true := by simp; omega
                      have h1d : (nc == qms.length) = false := by simp [h1]
                      have HE := Lib.hid (show kd2 = true by rw [HKD2.out, h1d]; rfl)
                      clear h1 h1d
                      go_wp2_with fail
                      go_meet
                      exact ⟨by rw [HE.out], rfl⟩
                case rest =>
                  obtain ⟨rfl, h2⟩ := hcut
                  subst h2
                  go_wp2_with fail
                  go_loopw [5, 11, 135] (fun t5 t6 t16 wr => ∃ (p : Nat) (kx ox : Bool), t5 = .bool kx ∧ t6 = .bool ox ∧ t16 = .int .i64 p ∧ p ≤ nc ∧ Hid (kx = (kd2 || kindL qs (rAt rs j) p)) ∧ Hid (ox = (od || ordL (rAt rs j) p)) ∧ Hid (Below V2.heap.size V2 wr)) (fun _ _ t16 _ => nc - (intOf t16).toNat)
                  case atStart => exact ⟨0, kd2, od, rfl, rfl, rfl, by omega, (show kd2 = (kd2 || kindL qs (rAt rs j) 0) by simp [kindL, anyTo_zero]), (show od = (od || ordL (rAt rs j) 0) by simp [ordL, anyTo_zero]), Below.refl _ _⟩
                  case round =>
                    obtain ⟨p, kx, ox, rfl, rfl, rfl, hp, HKx, HOx, HB3⟩ := hrel
                    have k0 := cell_ext HB3.out k0
                    have y0 := cell_ext HB3.out y0
                    by_cases hlp : p < nc
                    · have hcp : (p : Int) < nc := by omega
                      have hpcs : p < cs.length := by have := HNc.out; omega
                      obtain ⟨cb, co, hcA, c1⟩ := ((HCe.out.ext HX1.out).ext HB3.out).cell hpcs
                      subst hcA
                      have HLi := Lib.hid (((HCe.out.ext HX1.out).ext HB3.out).ints _ (List.getElem_mem hpcs))
                      have hnl := HCe.out.len _ (List.getElem_mem hpcs)
                      have HCa := Lib.hid (show cAt (rAt rs j) p = cs[p].l.getD [] by rw [HRj.out]; exact cAt_m hpcs)
                      generalize cs[p] = x at *
                      obtain ⟨xl, xA, xc⟩ := x
                      unfold cellV at c1
                      simp only at c1 HLi hnl HCa
                      obtain ⟨l, hl⟩ : ∃ l, l = xl.getD [] := ⟨_, rfl⟩
                      rw [← hl] at c1 HLi hnl HCa
                      obtain ⟨nl, hnle⟩ : ∃ nl, nl = l.length := ⟨_, rfl⟩
                      rw [← hnle] at c1 hnl
                      have HNl := Lib.hid hnle
                      clear hl hnle
                      obtain ⟨V3, hV3⟩ : ∃ V3, V3 = wr := ⟨_, rfl⟩
                      rw [← hV3] at HB3 k0 y0 c1 HLi ⊢
                      clear hV3 wr
                      go_wp2_with fail
                      clear c1
                      go_loopw [5, 11, 142] (fun t5 t6 t18 wr => ∃ (m : Nat) (ky oy : Bool), t5 = .bool ky ∧ t6 = .bool oy ∧ t18 = .int .i64 m ∧ m ≤ nl ∧ Hid (ky = (kx || anyTo (kindC qs p l) m)) ∧ Hid (oy = (ox || anyTo (ordC l) m)) ∧ Hid (Below V3.heap.size V3 wr)) (fun _ _ t18 _ => nl - (intOf t18).toNat)
                      case atStart => exact ⟨0, kx, ox, rfl, rfl, rfl, by omega, (show kx = (kx || anyTo (kindC qs p l) 0) by simp [anyTo_zero]), (show ox = (ox || anyTo (ordC l) 0) by simp [anyTo_zero]), Below.refl _ _⟩
                      case round =>
                        obtain ⟨m, ky, oy, rfl, rfl, rfl, hm, HKy, HOy, HB4⟩ := hrel
                        have k0 := cell_ext HB4.out k0
                        by_cases hlm : m < nl
                        · have hcm : (m : Int) < nl := by omega
                          have hml : m < l.length := by have := HNl.out; omega
                          obtain ⟨lb2, lo2, hxA, i0⟩ := int_at (HLi.out.ext HB4.out) hml
                          subst hxA
                          have HIt := Lib.hid (iAt_get hml)
                          generalize l[m] = z at *
                          obtain ⟨kz, hkz⟩ : ∃ kz, kz = (ky || kindC qs p l m) := ⟨_, rfl⟩
                          have HKz := Lib.hid hkz
                          have hkC : kindC qs p l m = (decide (qms.length ≤ p) || decide (z < 0) || decide (((qAt qs p).ans.length : Int) ≤ z)) := by
                            unfold kindC
                            rw [HQL.out, HIt.out]
                          have HKC := Lib.hid hkC
                          clear hkz hkC
                          go_upto_region 29 with fail
                          go_cut [5] (fun t wx => t = .bool kz ∧ Hid (Below wr.heap.size wr wx))
                          case first =>
                            cases ky with
                            | true =>
                              go_wp2_with fail
                              go_meet
                              exact ⟨by rw [HKz.out]; rfl, Below.refl _ _⟩
                            | false =>
                              have HKz2 := Lib.hid (show kz = (decide (qms.length ≤ p) || decide (z < 0) || decide (((qAt qs p).ans.length : Int) ≤ z)) by rw [HKz.out, HKC.out]; rfl)
                              by_cases g1 : qms.length ≤ p
                              · have g1c : (qms.length : Int) ≤ p := by omega
                                have HE := Lib.hid (show kz = true by rw [HKz2.out, decide_eq_true g1]; rfl)
                                go_wp2_with fail
                                go_meet
                                exact ⟨by rw [HE.out], Below.refl _ _⟩
                              · have g1c : ¬ (qms.length : Int) ≤ p := by omega
                                by_cases g2 : z < 0
                                · have HE := Lib.hid (show kz = true by rw [HKz2.out, decide_eq_false g1, decide_eq_true g2]; rfl)
                                  go_wp2_with fail
                                  go_meet
                                  exact ⟨by rw [HE.out], Below.refl _ _⟩
                                · have hpq : p < qms.length := by omega
                                  have hpqc : (p : Int) < qms.length := by omega
                                  obtain ⟨qb2, qo2, hA2, q0, q1⟩ := (((((HQ.out.ext HBe.out).ext HB2.out).ext HX1.out).ext HB3.out).ext HB4.out).row hpq
                                  subst hA2
                                  have HQp := Lib.hid (show (qAt qs p).ans.length = qms[p].ans.length by rw [HQS.out, qAt_m hpq]; rfl)
                                  generalize qms[p] = Q2 at *
                                  obtain ⟨nm2, an2, aA2, ac2⟩ := Q2
                                  simp only at q1 HQp
                                  obtain ⟨na2, hna2⟩ : ∃ na2, na2 = an2.length := ⟨_, rfl⟩
                                  rw [← hna2] at q1 HQp
                                  clear hna2 q0
                                  by_cases g3 : (na2 : Int) ≤ z
                                  · have HE := Lib.hid (show kz = true by rw [HKz2.out, HQp.out, decide_eq_true g3]; simp)
                                    go_wp2_with fail
                                    go_meet
                                    exact ⟨by rw [HE.out], Below.refl _ _⟩
                                  · have HE := Lib.hid (show kz = false by rw [HKz2.out, HQp.out, decide_eq_false g1, decide_eq_false g2, decide_eq_false g3]; rfl)
                                    go_wp2_with fail
                                    go_meet
                                    exact ⟨by rw [HE.out], Below.refl _ _⟩
                          case rest =>
                            obtain ⟨rfl, HB5⟩ := hcut
                            have i0 := cell_ext HB5.out i0
                            have k0 := cell_ext HB5.out k0
                            have HOC := Lib.hid (show ordC l m = (decide (0 < m) && decide (z ≤ iAt l (m - 1))) by
                              unfold ordC
                              rw [HIt.out])
                            cases oy with
                            | true =>
                              go_upto_region 30 with fail
                              have HB6 := Lib.hid (ext_trans HB4.out HB5.out)
                              clear k0 i0
                              go_wp2_with fail
                              go_roundw
                              case rel => exact ⟨m + 1, kz, true, rfl, rfl, by go_num, by omega, (show kz = (kx || anyTo (kindC qs p l) (m + 1)) by rw [anyTo_succ, or_move, ← HKy.out, HKz.out]), (show true = (ox || anyTo (ordC l) (m + 1)) by rw [anyTo_succ, or_move, ← HOy.out]; rfl), HB6.out⟩
                              case measure => simp [intOf]; omega
                            | false =>
                              by_cases m0 : m = 0
                              · have m0c : ¬ (0 : Int) < m := by omega
                                have HE := Lib.hid (show ordC l m = false by rw [HOC.out, decide_eq_false (by omega : ¬ 0 < m)]; rfl)
                                go_upto_region 30 with fail
                                have HB6 := Lib.hid (ext_trans HB4.out HB5.out)
                                clear k0 i0
                                go_wp2_with fail
                                go_roundw
                                case rel => exact ⟨m + 1, kz, false, rfl, rfl, by go_num, by omega, (show kz = (kx || anyTo (kindC qs p l) (m + 1)) by rw [anyTo_succ, or_move, ← HKy.out, HKz.out]), (show false = (ox || anyTo (ordC l) (m + 1)) by rw [anyTo_succ, or_move, ← HOy.out, HE.out]; rfl), HB6.out⟩
                                case measure => simp [intOf]; omega
                              · have m0c : (0 : Int) < m := by omega
                                have m0n : 0 < m := by omega
                                have hm1 : m - 1 < l.length := by omega
                                have hw1 : IntKind.i64.wrap ((m : Int) - 1) = ((m - 1 : Nat) : Int) := by
                                  rw [IntWalk.i64_in _ (by omega)]
                                  omega
                                have hm1c : ((m - 1 : Nat) : Int) < nl := by omega
                                obtain ⟨lb3, lo3, hxA3, i1⟩ := int_at ((HLi.out.ext HB4.out).ext HB5.out) hm1
                                cases hxA3
                                have HI1 := Lib.hid (iAt_get hm1)
                                generalize l[m - 1] = z1 at *
                                obtain ⟨m1, hm1e⟩ : ∃ m1, m1 = m - 1 := ⟨_, rfl⟩
                                have hidx : (m : Int) - 1 = (m1 : Int) := by omega
                                rw [← hm1e] at hw1 hm1c i1
                                clear hm1e
                                by_cases g : z ≤ z1
                                · have HE := Lib.hid (show ordC l m = true by rw [HOC.out, HI1.out, decide_eq_true (by omega : 0 < m), decide_eq_true g]; rfl)
                                  go_upto_region 30 with fail
                                  have HB6 := Lib.hid (ext_trans HB4.out HB5.out)
                                  clear k0 i0
                                  go_wp2_with fail
                                  go_roundw
                                  case rel => exact ⟨m + 1, kz, true, rfl, rfl, by go_num, by omega, (show kz = (kx || anyTo (kindC qs p l) (m + 1)) by rw [anyTo_succ, or_move, ← HKy.out, HKz.out]), (show true = (ox || anyTo (ordC l) (m + 1)) by rw [anyTo_succ, or_move, ← HOy.out, HE.out]; rfl), HB6.out⟩
                                  case measure => simp [intOf]; omega
                                · have HE := Lib.hid (show ordC l m = false by rw [HOC.out, HI1.out, decide_eq_true (by omega : 0 < m), decide_eq_false g]; rfl)
                                  go_upto_region 30 with fail
                                  have HB6 := Lib.hid (ext_trans HB4.out HB5.out)
                                  clear k0 i0
                                  go_wp2_with fail
                                  go_roundw
                                  case rel => exact ⟨m + 1, kz, false, rfl, rfl, by go_num, by omega, (show kz = (kx || anyTo (kindC qs p l) (m + 1)) by rw [anyTo_succ, or_move, ← HKy.out, HKz.out]), (show false = (ox || anyTo (ordC l) (m + 1)) by rw [anyTo_succ, or_move, ← HOy.out, HE.out]; rfl), HB6.out⟩
                                  case measure => simp [intOf]; omega
                        · obtain rfl : nl = m := by omega
                          have hcm : ¬ (nl : Int) < nl := by omega
                          go_wp2_with fail
                          go_roundw
                          case rel => exact ⟨p + 1, ky, oy, rfl, rfl, by go_num, by omega, (show ky = (kd2 || kindL qs (rAt rs j) (p + 1)) by
                            unfold kindL
                            rw [anyTo_succ, or_move, HCa.out, HKy.out, HKx.out, HNl.out]
                            rfl), (show oy = (od || ordL (rAt rs j) (p + 1)) by
                            unfold ordL
                            rw [anyTo_succ, or_move, HCa.out, HOy.out, HOx.out, HNl.out]
                            rfl), ext_trans HB3.out HB4.out⟩
                          case measure => simp [intOf]; omega
                    · obtain rfl : nc = p := by omega
                      have hcp : ¬ (nc : Int) < nc := by omega
                      go_wp2_with fail
                      go_roundw
                      case rel => exact ⟨j + 1, kx, ox, tx2, rfl, rfl, rfl, by go_num, by omega, (show kx = (k || kindR qs rs (j + 1)) by
                          have e : (rAt rs j).cells.length = nc := by rw [HRj.out, HNc.out]; simp [RwM.rw]
                          have e2 : kindR qs rs (j + 1) = (kindR qs rs j || (!((rAt rs j).cells.length == qs.length) || kindL qs (rAt rs j) (rAt rs j).cells.length)) := anyTo_succ _ _
                          rw [e2, e, HQL.out, HKx.out, HKD2.out, HKk.out]
                          simp only [Bool.or_assoc]), (show ox = ordR rs (j + 1) by
                          have e : (rAt rs j).cells.length = nc := by rw [HRj.out, HNc.out]; simp [RwM.rw]
                          have e2 : ordR rs (j + 1) = (ordR rs j || ordL (rAt rs j) (rAt rs j).cells.length) := anyTo_succ _ _
                          rw [e2, e, HOx.out, HOd.out]), (show tx2 = textF rs (j + 1) by
                          have e2 : textF rs (j + 1) = (textF rs j || (((rAt rs j).out == []) || !lineB (rAt rs j).out)) := anyTo_succ _ _
                          rw [e2, HRj.out, HTX2.out, HTx.out, or_move]
                          show _ = (textF rs j || (out == []) || !lineB out)
                          rw [HEm.out, HLb.out]), ext_trans HB2.out (ext_trans HX1.out HB3.out)⟩
                      case measure => simp [intOf]; omega
            · obtain rfl : ms.length = j := by omega
              have hcj : ¬ (ms.length : Int) < ms.length := by omega
              have HF := Lib.hid (show V = codeOf b n kd od tx by
                rw [HV.out]
                unfold vcode boundF kindF
                rw [HQL.out, HRL.out, HB.out, HN.out, HKk.out, HKd.out, HOd.out, HTx.out, HB0.out])
              have HEnd := Lib.hid (ext_trans HX.out (ext_trans HBe.out HB2.out))
              have hEe := HE.out.below (ext_trans HBe.out HB2.out)
              have v0 := hEe.v0
              have v1 := hEe.v1
              have v6 := hEe.v6
              have v7 := hEe.v7
              have v8 := hEe.v8
              unfold sentV at v0 v1 v6 v7 v8
              clear hEe
              cases b with
              | true =>
                go_wp2_with fail
                go_ret
                exact ⟨by rw [HF.out]; rfl, HEnd.out⟩
              | false =>
                cases n with
                | true =>
                  go_wp2_with fail
                  go_ret
                  exact ⟨by rw [HF.out]; rfl, HEnd.out⟩
                | false =>
                  cases kd with
                  | true =>
                    go_wp2_with fail
                    go_ret
                    exact ⟨by rw [HF.out]; rfl, HEnd.out⟩
                  | false =>
                    cases od with
                    | true =>
                      go_wp2_with fail
                      go_ret
                      exact ⟨by rw [HF.out]; rfl, HEnd.out⟩
                    | false =>
                      cases tx with
                      | true =>
                        go_wp2_with fail
                        go_ret
                        exact ⟨by rw [HF.out]; rfl, HEnd.out⟩
                      | false =>
                        go_wp2_with fail
                        go_ret
                        exact ⟨by rw [HF.out]; rfl, HEnd.out⟩
end Go.Proofs.YtjfiodknjchngaaDoor.Gp

/- Gaps: the statement's copy of a table. -/
import Derived.Test.YtjfiodknjchngaaDoorGqA
import Derived.StillTailTactics
import Derived.Deep.DeepCutAuto
namespace Go.Proofs.YtjfiodknjchngaaDoor.Gp
open Go.RowKit Mem Nest Fk App

def rcL (x : RC) : Option (List Int) := if x.all = true then none else some x.l
def rrRw (r : RR) : Rw := ⟨r.cells.map rcL, r.out⟩
theorem strs_infoT : (Tryd.prog.info? 9).map (fun i => (i.zero, i.size, i.bytes)) = some (some (.string ByteArray.empty), 1, 16) := by kernel_rfl
theorem qn_infoT : (Tryd.prog.info? 88).map (fun i => (i.zero, i.size, i.bytes)) = some (some (.agg #[.string ByteArray.empty, .slice none 0 0]), 2, 40) := by kernel_rfl
theorem row_infoT : (Tryd.prog.info? 91).map (fun i => (i.zero, i.size, i.bytes)) = some (some (.agg #[.slice none 0 0, .string ByteArray.empty]), 2, 40) := by kernel_rfl
theorem cel_infoT : (Tryd.prog.info? 46).map (fun i => (i.zero, i.size, i.bytes)) = some (some (.slice none 0 0), 1, 24) := by kernel_rfl
theorem int_infoT : (Tryd.prog.info? 3).map (fun i => (i.zero, i.size, i.bytes)) = some (some (.int .i64 0), 1, 8) := by kernel_rfl
theorem strs_oneT (zs : List (List UInt8)) : ∀ u ∈ strsV zs, u.oneCell' = true := fun u hu => by
  simp only [strsV, List.mem_map] at hu
  obtain ⟨_, _, rfl⟩ := hu
  rfl
theorem ints_oneT (zs : List Int) : ∀ u ∈ ints zs, u.oneCell' = true := fun u hu => by
  simp only [ints, List.mem_map] at hu
  obtain ⟨_, _, rfl⟩ := hu
  rfl
/-- what the copy tells -/
def TabPost (qms : List QnM) (rrs : List RR) (w : World) (e : Ending) (w' : World) : Prop :=
  ∃ (q2 : List QnM) (QA : Option Addr) (qc : Nat) (m2 : List RwM) (RA : Option Addr) (rc : Nat), e = .returned (.agg #[.slice QA q2.length qc, .slice RA m2.length rc]) ∧ q2.map QnM.qn = qms.map QnM.qn ∧ m2.map RwM.rw = rrs.map rrRw ∧
    QsP w' QA q2 ∧ RowsP w' RA m2 ∧ (∀ q ∈ q2, q.ans.length ≤ q.c) ∧ Below w.heap.size w w'
/-- kinds of blocks that a walk writes -/
def KQ : TypeId → Prop := fun T => T = 31 ∨ T = 88
def KR : TypeId → Prop := fun T => T = 31 ∨ T = 91
def KC : TypeId → Prop := fun T => T = 91 ∨ T = 46
def KT : TypeId → Prop := fun T => T = 31
structure RcOk (x : RC) : Prop where
  nil : x.A = none → x.c = 0
  len : x.l.length ≤ 1048576
set_option maxRecDepth 100000 in
set_option maxHeartbeats 8000000 in
theorem table_any (qms : List QnM) (A : Option Addr) (c : Nat) (rrs : List RR) (B : Option Addr) (bc : Nat) (hql : qms.length ≤ 1048576) (hrl : rrs.length ≤ 1048576) (hal : ∀ q ∈ qms, q.ans.length ≤ 1048576 ∧ (q.A = none → q.c = 0)) (hcl : ∀ r ∈ rrs, r.cells.length ≤ 1048576 ∧ ∀ x ∈ r.cells, RcOk x) (w : World) (hq : QsP w A qms) (hr : RawR w B rrs) (hri : ∀ r ∈ rrs, ∀ x ∈ r.cells, Rd w x.A (ints x.l)) :
    Calls Tryd.prog 8 #[.agg #[.slice A qms.length c, .slice B rrs.length bc]] w (TabPost qms rrs w) := by
  have hbk := Blk.new w 25 [.slice A qms.length c, .slice B rrs.length bc]
  have hx1 := ext_alloc w (.cells (List.toArray [.slice A qms.length c, .slice B rrs.length bc]) 25)
  obtain ⟨W1, hW1⟩ : ∃ W, W = w.alloc (.cells (List.toArray [.slice A qms.length c, .slice B rrs.length bc]) 25) := ⟨_, rfl⟩
  rw [← hW1] at hx1 hbk
  have hbk2 := Blk.new W1 31 [.slice none 0 0, .slice none 0 0]
  have hx2 := ext_alloc W1 (.cells (List.toArray [.slice none 0 0, .slice none 0 0]) 31)
  obtain ⟨W2, hW2⟩ : ∃ W, W = W1.alloc (.cells (List.toArray [.slice none 0 0, .slice none 0 0]) 31) := ⟨_, rfl⟩
  rw [← hW2] at hx2 hbk2
  obtain ⟨K, hK⟩ : ∃ K, K = w.heap.size := ⟨_, rfl⟩
  have hs1 : W1.heap.size = K + 1 := by rw [hW1, World.size_alloc, hK]
  have hs2 : W2.heap.size = K + 2 := by rw [hW2, World.size_alloc, hs1]
  rw [hs1] at hbk2
  rw [← hK] at hbk
  have hbk3 := Blk.new W2 31 [.slice none 0 0, .slice none 0 0]
  have hx3 := ext_alloc W2 (.cells (List.toArray [.slice none 0 0, .slice none 0 0]) 31)
  obtain ⟨W3, hW3⟩ : ∃ W, W = W2.alloc (.cells (List.toArray [.slice none 0 0, .slice none 0 0]) 31) := ⟨_, rfl⟩
  rw [← hW3] at hx3 hbk3
  rw [hs2] at hbk3
  have HX := Lib.hid (show Below K w W3 by rw [hK]; exact ext_trans hx1 (ext_trans hx2 hx3))
  have r0 := cell_ext (ext_trans hx2 hx3) (hbk.cell 0 rfl)
  have r1 := cell_ext (ext_trans hx2 hx3) (hbk.cell 1 rfl)
  have HRes := Lib.hid (blk_ext5 hbk2 hx3)
  have HOut := Lib.hid hbk3
  have HQ := Lib.hid hq
  have HR := Lib.hid hr
  have HAl := Lib.hid hal
  have HCl := Lib.hid hcl
  have HRi := Lib.hid hri
  have HK := Lib.hid hK
  have HW1 := Lib.hid hW1
  have HW2 := Lib.hid hW2
  have HW3 := Lib.hid hW3
  have HS1 := Lib.hid hs1
  have HS2 := Lib.hid hs2
  obtain ⟨j1, hi, hz0, hz1, hz2⟩ := info_parts strs_infoT
  have HI1 := Lib.hid (And.intro hi (And.intro hz0 (And.intro hz1 hz2)))
  clear hi hz0 hz1 hz2
  obtain ⟨j2, hi, hz0, hz1, hz2⟩ := info_parts qn_infoT
  have HI2 := Lib.hid (And.intro hi (And.intro hz0 (And.intro hz1 hz2)))
  clear hi hz0 hz1 hz2
  obtain ⟨j3, hi, hz0, hz1, hz2⟩ := info_parts row_infoT
  have HI3 := Lib.hid (And.intro hi (And.intro hz0 (And.intro hz1 hz2)))
  clear hi hz0 hz1 hz2
  obtain ⟨j4, hi, hz0, hz1, hz2⟩ := info_parts cel_infoT
  have HI4 := Lib.hid (And.intro hi (And.intro hz0 (And.intro hz1 hz2)))
  clear hi hz0 hz1 hz2
  obtain ⟨j5, hi, hz0, hz1, hz2⟩ := info_parts int_infoT
  have HI5 := Lib.hid (And.intro hi (And.intro hz0 (And.intro hz1 hz2)))
  clear hi hz0 hz1 hz2
  clear hbk hbk2 hbk3 hx1 hx2 hx3 hW1 hW2 hW3 hs1 hs2 hq hr hal hcl hK hri
  go_enter Tryd.func8, Tryd.ntmps8
  go_upto_region 2 with fail
  rw [show w.alloc (.cells #[.slice A qms.length c, .slice B rrs.length bc] 25) = W1 from HW1.out.symm]
  rw [show W1.alloc (.cells #[.slice none 0 0, .slice none 0 0] 31) = W2 from HW2.out.symm]
  rw [show W2.alloc (.cells #[.slice none 0 0, .slice none 0 0] 31) = W3 from HW3.out.symm]
  rw [← HK.out, show K + 1 + 1 = K + 2 from rfl]
  clear HW1 HW2 HW3 HS1 HS2
  go_wp2_with fail
  go_loopw [4] (fun t4 wr => ∃ (i : Nat) (q2 : List QnM) (v : Value), t4 = .int .i64 i ∧ i ≤ qms.length ∧ Hid (Below (K + 2) W3 wr) ∧ Hid (Blk wr (K + 2) 31 [v, .slice none 0 0]) ∧ Hid (q2.map QnM.qn = (qms.take i).map QnM.qn) ∧ Hid (wr.ownsRow (K + 3) 88 2 v i (q2.flatMap qmCells)) ∧ Hid (∀ q ∈ q2, QnK wr q)) (fun t4 _ => qms.length - (intOf t4).toNat)
  case atStart => exact ⟨0, [], _, rfl, by omega, Below.refl _ _, HOut.out, rfl, World.ownsRow_nil _ _ _ _, fun q hq => by cases hq⟩
  case round =>
    obtain ⟨i, q2, v, rfl, hi, HB, HO, HQ2, HOw, HK2⟩ := hrel
    have hs4 : K + 2 < wr.heap.size := HO.out.lt
    have HBw := Lib.hid (show Below w.heap.size w wr by rw [← HK.out]; exact HX.out.trans (HB.out.mono (by omega)))
    have r0 := Mem.cell_keep HB.out (show K < K + 2 by omega) r0
    have r1 := Mem.cell_keep HB.out (show K < K + 2 by omega) r1
    by_cases hlt : i < qms.length
    · have hcl : (i : Int) < qms.length := by omega
      obtain ⟨qb, qo, hQ, z0, z1⟩ := (HQ.out.ext HBw.out).row hlt
      subst hQ
      have hal := (HAl.out _ (List.getElem_mem hlt)).1
      have HAn := Lib.hid (HAl.out _ (List.getElem_mem hlt)).2
      have HAs := Lib.hid ((HQ.out.ext HBw.out).ans _ (List.getElem_mem hlt))
      have HQi := Lib.hid (show (qms.take (i + 1)).map QnM.qn = (qms.take i).map QnM.qn ++ [qms[i].qn] by
        rw [List.take_succ_eq_append_getElem hlt, List.map_append]
        rfl)
      generalize qms[i] = Q at *
      obtain ⟨nm, an, aA, ac⟩ := Q
      simp only [QnM.qn] at z0 z1 hal HAn HAs HQi
      obtain ⟨V1, hV1⟩ : ∃ V, V = wr.alloc (.cells (List.toArray [.string ⟨nm.toArray⟩, .slice none 0 0]) 88) := ⟨_, rfl⟩
      have hx1 : Below wr.heap.size wr V1 := by rw [hV1]; exact ext_alloc _ _
      have hbk1 : Blk V1 wr.heap.size 88 [.string ⟨nm.toArray⟩, .slice none 0 0] := by rw [hV1]; exact Blk.new _ _ _
      have hsv : wr.heap.size + 1 ≤ V1.heap.size := by rw [hV1, World.size_alloc]; exact Nat.le_refl _
      have HV1 := Lib.hid hV1
      have HX1 := Lib.hid hx1
      have HB1 := Lib.hid hbk1
      have k0 := cell_ext hx1 r0
      have k1 := hbk1.cell 1 rfl
      have k2 := cell_ext hx1 z1
      have k3 := hbk1.free 1
      clear hV1 hx1 hbk1 r1
      go_upto_region 6 with fail
      rw [show wr.alloc (.cells #[.string ⟨nm.toArray⟩, .slice none 0 0] 88) = V1 from HV1.out.symm]
      clear HV1 z0 z1 r0
      have hal2 := hal
      go_cut [] (fun wx => ∃ (A1 : Option Addr) (c1 : Nat), Hid (Below wr.heap.size wr wx) ∧ Hid (Blk wx wr.heap.size 88 [.string ⟨nm.toArray⟩, .slice A1 an.length c1]) ∧ Hid (wx.ownsRow (wr.heap.size + 1) 9 1 (.slice A1 an.length c1) an.length (strsV an)))
      case first =>
        go_still_tail 8, (by kernel_rfl)
        change wpList _ _ _ _ _ V1.drew
        go_wp2_with (at_builtin; refine wpList_append_rd _ rfl _ _ _ rfl (wr.heap.size + 1) 9 j1 _ 1 16 Tryd.underlying50 HI1.out.1 HI1.out.2.1 HI1.out.2.2.1 HI1.out.2.2.2 rfl (by omega) (.slice none 0 0) 0 [] rfl (World.ownsRow_nil _ _ _ _) aA an.length ac (strsV an) rfl HAn.out (by simp [strsV]) (HAs.out.ext (ext_trans HX1.out (ext_drewN V1 1))) (strs_oneT an) (by unfold maxLen; omega) (by omega) (by simp; omega) ?_; intro v1 w1 hown1 hg1; obtain ⟨A1, c1, hv1, hc1⟩ := own_slice hown1; subst hv1; have HO1 := Lib.hid hown1; have HBw1 := Lib.hid (ext_trans (ext_drewN V1 1) (ext_grown5 hg1)); have HRb1 := Lib.hid (blk_ext5 HB1.out HBw1.out); have z1 := HRb1.out.cell 1 rfl; have z2 := HRb1.out.free 1; clear hown1 hg1)
        go_meet
        refine ⟨A1, c1, (ext_trans HX1.out HBw1.out).setCell (by simp) _, HRb1.out.set 1 _, ?_⟩
        have ho := ownsRow_setCell_below HO1.out (a := ⟨wr.heap.size, 1, none⟩) (by simp) (.slice A1 (0 + an.length) c1)
        show World.ownsRow _ _ _ _ _ _ _
        simpa using ho
      case rest =>
        clear k0 k1 k2 k3 HX1 HB1 hsv
        obtain ⟨A1, c1, HBx, HRb, HOi⟩ := hcut
        have hcc := Lib.hid (show an.length ≤ c1 by
          obtain ⟨A2, c2, e, h1, h2⟩ := own_slice HOi.out
          cases e
          exact h1)
        have HO2 := Lib.hid (blk_ext5 HO.out HBx.out)
        have k1 := HO2.out.cell 0 rfl
        have q0 := HRb.out.cell 0 rfl
        have q1 := HRb.out.cell 1 rfl
        have HO3 := Lib.hid (own_ext HOw.out HBx.out)
        have hs2 : K + 3 ≤ wc.heap.size := by have := HO2.out.lt; omega
        go_wp2_with (at_builtin; refine wpList_append_own _ rfl _ _ _ rfl (K + 3) 88 j2 _ 2 40 Tryd.underlying28 HI2.out.1 HI2.out.2.1 HI2.out.2.2.1 HI2.out.2.2.2 rfl (by omega) v i _ rfl (World.ownsRow.alloc HO3.out _) ⟨wc.heap.size, 0, none⟩ 1 1 [.string ⟨nm.toArray⟩, .slice A1 an.length c1] rfl rfl (new_cells wc [.string ⟨nm.toArray⟩, .slice A1 an.length c1] _ _ rfl) (by intro u hu; simp only [List.mem_cons, List.not_mem_nil, or_false] at hu; rcases hu with rfl | rfl <;> rfl) (by simp only [maxLen]; omega) (by omega) (by simp; omega) ?_; intro v1 w1 hown1 hg1 _; obtain ⟨A2, c2, hv1, _⟩ := own_slice hown1; subst hv1; have HO1 := Lib.hid hown1; have HG1 := Lib.hid hg1; have HBg := Lib.hid (Below.grown (B := K + 3) ((Below.refl _ wc).alloc hs2 (.cells #[.string ⟨nm.toArray⟩, .slice A1 an.length c1] 88)) hg1 (by simp; omega) (fun g hg => (HO3.out.lt g hg).1)); have HOb3 := Lib.hid (HO2.out.ext HBg.out); have z1 := HOb3.out.cell 0 rfl; have z2 := HOb3.out.free 0; clear hown1 hg1)
        go_roundw
        case rel =>
          have hkp : Kp KQ wr (w1.setCell ⟨K + 2, 0, none⟩ (.slice A2 (i + 1) c2)) := (Kp.of KQ HBx.out).trans ((Kp.of KQ (ext_alloc wc _)).trans ((Kp.grown (World.ownsRow.alloc HO3.out _) HG1.out (.inr rfl)).trans (Kp.set HOb3.out (.inl rfl) 0 _)))
          have hkp2 : Kp KQ wc (w1.setCell ⟨K + 2, 0, none⟩ (.slice A2 (i + 1) c2)) := (Kp.of KQ (ext_alloc wc _)).trans ((Kp.grown (World.ownsRow.alloc HO3.out _) HG1.out (.inr rfl)).trans (Kp.set HOb3.out (.inl rfl) 0 _))
          refine ⟨i + 1, q2 ++ [⟨nm, an, A1, c1⟩], _, by go_num, by omega, ?_, HOb3.out.set 0 _, ?_, ?_, ?_⟩
          · exact ((HB.out.trans (HBx.out.mono (by omega))).trans (HBg.out.mono (by omega))).setCell (by simp) _
          · show List.map _ _ = _
            rw [List.map_append, HQ2.out, HQi.out]
            rfl
          · have ho := ownsRow_setCell_below HO1.out (a := ⟨K + 2, 0, none⟩) (by simp) (.slice A2 (i + 1) c2)
            show World.ownsRow _ _ _ _ _ _ _
            simpa [List.flatMap_append, qmCells] using ho
          · show ∀ q ∈ _, _
            intro q hq
            rcases List.mem_append.1 hq with hq | hq
            · exact (HK2.out q hq).kp hkp (by unfold KQ; decide)
            · rw [List.mem_singleton] at hq
              subst hq
              exact ⟨hkp2.rdk (RdK.of_own HOi.out) (by unfold KQ; decide), hcc.out⟩
        case measure => simp [intOf]; omega
    · obtain rfl : qms.length = i := by omega
      have hcl : ¬ (qms.length : Int) < qms.length := by omega
      have HQ3 := Lib.hid (show q2.map QnM.qn = qms.map QnM.qn by have := HQ2.out; rwa [List.take_length] at this)
      have hq2l : q2.length = qms.length := by
        have := congrArg List.length HQ3.out
        simpa using this
      have HLen := Lib.hid hq2l
      obtain ⟨QA2, qc2, rfl, _, _⟩ := own_slice HOw.out
      obtain ⟨V2, hV2⟩ : ∃ V2, V2 = wr := ⟨_, rfl⟩
      rw [← hV2] at HB HO HOw HK2 hs4 HBw r0 r1 ⊢
      have HQR := Lib.hid (RdK.of_own HOw.out)
      obtain ⟨S2, hS2⟩ : ∃ S2, S2 = V2.heap.size := ⟨_, rfl⟩
      have hS2k : K + 3 ≤ S2 := by omega
      have hS2l : S2 ≤ V2.heap.size := by omega
      clear hV2 wr hq2l HQ2 HOw hS2
      go_wp2_with fail
      clear r0
      go_loopw [6] (fun t6 wr => ∃ (i : Nat) (m2 : List RwM) (v : Value), t6 = .int .i64 i ∧ i ≤ rrs.length ∧ Hid (Below (K + 2) V2 wr) ∧ S2 ≤ wr.heap.size ∧ Hid (Blk wr (K + 2) 31 [.slice QA2 qms.length qc2, v]) ∧ Hid (m2.map RwM.rw = (rrs.take i).map rrRw) ∧ Hid (wr.ownsRow S2 91 2 v i (m2.flatMap rwmCells)) ∧ Hid (∀ m ∈ m2, RoK wr m) ∧ Hid (RdK wr 88 QA2 (q2.flatMap qmCells)) ∧ Hid (∀ q ∈ q2, QnK wr q)) (fun t6 _ => rrs.length - (intOf t6).toNat)
      case atStart => exact ⟨0, [], _, rfl, by omega, Below.refl _ _, by omega, HO.out, rfl, World.ownsRow_nil _ _ _ _, (fun m hm => by cases hm), HQR.out, HK2.out⟩
      case round =>
        clear HO HQR HK2
        obtain ⟨i, m2, v, rfl, hi, HB2, hsz, HO, HM2, HOw, HRo, HQR, HQk⟩ := hrel
        have HBw2 := Lib.hid (show Below w.heap.size w wr by rw [← HK.out]; exact (HX.out.trans (HB.out.mono (by omega))).trans (HB2.out.mono (by omega)))
        have r1 := Mem.cell_keep HB2.out (show K < K + 2 by omega) r1
        by_cases hlt : i < rrs.length
        · have hcl : (i : Int) < rrs.length := by omega
          obtain ⟨rb, ro, hB, z0, z1⟩ := (HR.out.ext HBw2.out).row hlt
          subst hB
          have hnc := (HCl.out _ (List.getElem_mem hlt)).1
          have HCo := Lib.hid (HCl.out _ (List.getElem_mem hlt)).2
          have HCi := Lib.hid (HRi.out _ (List.getElem_mem hlt))
          have HCe := Lib.hid (HR.out.cells _ (List.getElem_mem hlt))
          have HMi := Lib.hid (show (rrs.take (i + 1)).map rrRw = (rrs.take i).map rrRw ++ [rrRw rrs[i]] by
            rw [List.take_succ_eq_append_getElem hlt, List.map_append]
            rfl)
          generalize rrs[i] = r at *
          obtain ⟨cs, cA, cc, out⟩ := r
          simp only at z0 z1 hnc HCo HCe HMi HCi
          obtain ⟨V3, hV3⟩ : ∃ V, V = wr.alloc (.cells (List.toArray [.slice none 0 0, .string ⟨out.toArray⟩]) 91) := ⟨_, rfl⟩
          obtain ⟨K3, hK3⟩ : ∃ K, K = wr.heap.size := ⟨_, rfl⟩
          have hx3 : Below wr.heap.size wr V3 := by rw [hV3]; exact ext_alloc _ _
          have hbk3 : Blk V3 K3 91 [.slice none 0 0, .string ⟨out.toArray⟩] := by rw [hV3, hK3]; exact Blk.new _ _ _
          have hk3K : K < K3 := by rw [hK3]; exact cell_lt r1
          have hk3r : rb < K3 := by rw [hK3]; exact cell_lt z0
          have HV3 := Lib.hid hV3
          have HK3 := Lib.hid hK3
          have HX3 := Lib.hid hx3
          have HB3 := Lib.hid hbk3
          have k1 := cell_ext hx3 r1
          have y0 := cell_ext hx3 z0
          have hk2 : K + 2 < K3 := by rw [hK3]; exact HO.out.lt
          clear hV3 hK3 hx3 hbk3
          go_upto_region 12 with fail
          rw [show wr.alloc (.cells #[.slice none 0 0, .string ⟨out.toArray⟩] 91) = V3 from HV3.out.symm, ← HK3.out]
          clear HV3 z0 z1 r1
          go_wp2_with fail
          obtain ⟨wo, hwo⟩ : ∃ wo, wo = wr := ⟨_, rfl⟩
          rw [← hwo] at HB2 HO HOw HRo HQR HQk HBw2 hsz HK3 HX3
          clear hwo wr
          go_loopw [8] (fun t8 wr => ∃ (k : Nat) (xs : List CellM) (v' : Value), t8 = .int .i64 k ∧ k ≤ cs.length ∧ Hid (Below K3 V3 wr) ∧ Hid (Blk wr K3 91 [v', .string ⟨out.toArray⟩]) ∧ Hid (xs.map (·.l) = (cs.take k).map rcL) ∧ Hid (wr.ownsRow (K3 + 1) 46 1 v' k (xs.map cellV)) ∧ Hid (∀ x ∈ xs, CelK wr x)) (fun t8 _ => cs.length - (intOf t8).toNat)
          case atStart => exact ⟨0, [], _, rfl, by omega, Below.refl _ _, HB3.out, rfl, World.ownsRow_nil _ _ _ _, fun x hx => by cases hx⟩
          case round =>
            clear HB3
            obtain ⟨k, xs, v', rfl, hk, HBx, HB3, HXs, HOx, HXk⟩ := hrel
            have k1 := Mem.cell_keep HBx.out hk3K k1
            have y0 := Mem.cell_keep HBx.out hk3r y0
            have HBwx := Lib.hid (show Below w.heap.size w wr from HBw2.out.trans ((HX3.out.mono HBw2.out.size).trans (HBx.out.mono (by rw [HK3.out]; exact HBw2.out.size))))
            have hk4 : K3 < wr.heap.size := HB3.out.lt
            by_cases hlk : k < cs.length
            · have hck : (k : Int) < cs.length := by omega
              obtain ⟨cb, co, hcA, c0, c1⟩ := rc_at (HCe.out.ext HBwx.out) hlk
              subst hcA
              have HXo := Lib.hid (HCo.out _ (List.getElem_mem hlk))
              have HCs := Lib.hid (show (cs.take (k + 1)).map rcL = (cs.take k).map rcL ++ [rcL cs[k]] by
                rw [List.take_succ_eq_append_getElem hlk, List.map_append]
                rfl)
              have HXr := Lib.hid ((HCi.out _ (List.getElem_mem hlk)).ext HBwx.out)
              generalize cs[k] = x at *
              obtain ⟨xa, xl, xA, xc⟩ := x
              simp only [rcL] at c0 c1 HXo HCs HXr
              have hxl : xl.length ≤ 1048576 := HXo.out.len
              obtain ⟨V4, hV4⟩ : ∃ V, V = wr.alloc (.cells (List.toArray [.bool xa, .slice xA xl.length xc]) 77) := ⟨_, rfl⟩
              have hx4 : Below wr.heap.size wr V4 := by rw [hV4]; exact ext_alloc _ _
              have hbk4 : Blk V4 wr.heap.size 77 [.bool xa, .slice xA xl.length xc] := by rw [hV4]; exact Blk.new _ _ _
              have hs5 : wr.heap.size + 1 ≤ V4.heap.size := by rw [hV4, World.size_alloc]; exact Nat.le_refl _
              have HV4 := Lib.hid hV4
              have HX4 := Lib.hid hx4
              have a0 := hbk4.cell 0 rfl
              have a1 := hbk4.cell 1 rfl
              have HB4 := Lib.hid (blk_ext5 HB3.out hx4)
              have HOx4 := Lib.hid (own_ext HOx.out hx4)
              have k0 := HB4.out.cell 0 rfl
              clear hV4 hx4 hbk4
              go_upto_region 16 with fail
              rw [show wr.alloc (.cells #[.bool xa, .slice xA xl.length xc] 77) = V4 from HV4.out.symm]
              clear HV4 c0 c1 k1 y0
              cases xa with
              | true =>
                have hbl : K3 + 1 ≤ V4.heap.size := by omega
                go_wp2_with (at_builtin; refine wpList_append_own _ rfl _ _ _ rfl (K3 + 1) 46 j4 _ 1 24 Tryd.underlying39 HI4.out.1 HI4.out.2.1 HI4.out.2.2.1 HI4.out.2.2.2 rfl (by omega) v' k _ rfl (World.ownsRow.alloc HOx4.out _) ⟨V4.heap.size, 0, none⟩ 1 1 [.slice none 0 0] rfl rfl (new_cells V4 [.slice none 0 0] _ _ rfl) (by intro u hu; simp only [List.mem_cons, List.not_mem_nil, or_false] at hu; rcases hu with rfl <;> rfl) (by simp only [maxLen]; omega) (by omega) (by simp; omega) ?_; intro v1 w1 hown1 hg1 _; obtain ⟨A2, c2, hv1, _⟩ := own_slice hown1; subst hv1; have HO1 := Lib.hid hown1; have HG1 := Lib.hid hg1; have HBg := Lib.hid (Below.grown (B := K3 + 1) ((Below.refl _ V4).alloc hbl (.cells #[.slice none 0 0] 46)) hg1 (by simp; omega) (fun g hg => ((HOx4.out).lt g hg).1)); have HOb3 := Lib.hid (Blk.ext HB4.out HBg.out); have z1 := HOb3.out.cell 0 rfl; have z2 := HOb3.out.free 0; clear hown1 hg1)
                go_roundw
                case rel =>
                  have hkp : Kp KC V4 (w1.setCell ⟨K3, 0, none⟩ (.slice A2 (k + 1) c2)) := (Kp.of KC (ext_alloc V4 _)).trans ((Kp.grown (World.ownsRow.alloc (HOx4.out) _) HG1.out (.inr rfl)).trans (Kp.set HOb3.out (.inl rfl) 0 _))
                  refine ⟨k + 1, xs ++ [⟨none, none, 0⟩], _, by go_num, by omega, ?_, HOb3.out.set 0 _, ?_, ?_, ?_⟩
                  · exact ((HBx.out.trans (HX4.out.mono (by omega))).trans (HBg.out.mono (by omega))).setCell (by simp) _
                  · show List.map _ _ = _
                    rw [List.map_append, HXs.out, HCs.out]
                    rfl
                  · have ho := ownsRow_setCell_below HO1.out (a := ⟨K3, 0, none⟩) (by simp) (.slice A2 (k + 1) c2)
                    show World.ownsRow _ _ _ _ _ _ _
                    simpa [cellV] using ho
                  · show ∀ x ∈ _, _
                    intro x hx
                    rcases List.mem_append.1 hx with hx | hx
                    · exact (((HXk.out x hx).kp (Kp.of KC HX4.out) (by unfold KC; decide))).kp hkp (by unfold KC; decide)
                    · rw [List.mem_singleton] at hx
                      subst hx
                      exact ⟨RdK.nil, fun _ => ⟨rfl, rfl⟩, fun h => absurd rfl h, by simp⟩
                case measure => simp [intOf]; omega
              | false =>
                obtain ⟨V5, hV5⟩ : ∃ V, V = V4.alloc (.cells #[] 3) := ⟨_, rfl⟩
                have hx5 : Below V4.heap.size V4 V5 := by rw [hV5]; exact ext_alloc _ _
                have HV5 := Lib.hid hV5
                have HX5 := Lib.hid hx5
                have hs6 : V4.heap.size + 1 ≤ V5.heap.size := by rw [hV5, World.size_alloc]; exact Nat.le_refl _
                have a1 := cell_ext hx5 a1
                have HOl := Lib.hid (show V5.ownsRow V4.heap.size 3 1 (.slice (some ⟨V4.heap.size, 0, none⟩) 0 0) 0 [] by
                  rw [hV5]
                  exact World.ownsRow_made V4 #[] 0 (Nat.le_refl _) (by simp [maxLen]) rfl)
                have HRl := Lib.hid (show Rd V5 xA (ints xl) from HXr.out.ext (ext_trans HX4.out HX5.out))
                clear hV5 hx5 k0
                go_upto_region 19 with fail
                clear a0
                rw [show V4.alloc (.cells #[] 3) = V5 from HV5.out.symm]
                clear HV5
                go_upto_region 20 with (at_builtin; refine wpList_append_lit _ rfl _ _ _ rfl V4.heap.size 3 j5 _ 1 8 Tryd.underlying46 HI5.out.1 HI5.out.2.1 HI5.out.2.2.1 HI5.out.2.2.2 rfl (by omega) V4.heap.size rfl HOl.out xA xl.length xc (ints xl) rfl HXo.out.nil (by simp [ints]) HRl.out (ints_oneT xl) (by unfold maxLen; omega) (by omega) (by omega) ?_; intro A5 c5 w5 hne5 hown5 hg5; have HN5 := Lib.hid hne5; have HO5 := Lib.hid hown5; have HX6 := Lib.hid (Below.grown (B := V4.heap.size) HX5.out hg5 (by omega) (fun g hg => by cases hg; exact Nat.le_refl _)); clear hne5 hown5 hg5)
                have HB5 := Lib.hid (blk_ext5 HB4.out HX6.out)
                have HOx5 := Lib.hid (own_ext HOx4.out HX6.out)
                have k0 := HB5.out.cell 0 rfl
                have hs7 : V4.heap.size ≤ w5.heap.size := HX6.out.size
                have hbl5 : K3 + 1 ≤ w5.heap.size := by omega
                have HX7 := Lib.hid (ext_trans HX4.out HX6.out)
                clear a1
                go_wp2_with (at_builtin; refine wpList_append_own _ rfl _ _ _ rfl (K3 + 1) 46 j4 _ 1 24 Tryd.underlying39 HI4.out.1 HI4.out.2.1 HI4.out.2.2.1 HI4.out.2.2.2 rfl (by omega) v' k _ rfl (World.ownsRow.alloc HOx5.out _) ⟨w5.heap.size, 0, none⟩ 1 1 [.slice A5 xl.length c5] rfl rfl (new_cells w5 [.slice A5 xl.length c5] _ _ rfl) (by intro u hu; simp only [List.mem_cons, List.not_mem_nil, or_false] at hu; rcases hu with rfl <;> rfl) (by simp only [maxLen]; omega) (by omega) (by simp; omega) ?_; intro v1 w1 hown1 hg1 _; obtain ⟨A2, c2, hv1, _⟩ := own_slice hown1; subst hv1; have HO1 := Lib.hid hown1; have HG1 := Lib.hid hg1; have HBg := Lib.hid (Below.grown (B := K3 + 1) ((Below.refl _ w5).alloc hbl5 (.cells #[.slice A5 xl.length c5] 46)) hg1 (by simp; omega) (fun g hg => ((HOx5.out).lt g hg).1)); have HOb3 := Lib.hid (Blk.ext HB5.out HBg.out); have z1 := HOb3.out.cell 0 rfl; have z2 := HOb3.out.free 0; clear hown1 hg1)
                go_roundw
                case rel =>
                  have hkp : Kp KC w5 (w1.setCell ⟨K3, 0, none⟩ (.slice A2 (k + 1) c2)) := (Kp.of KC (ext_alloc w5 _)).trans ((Kp.grown (World.ownsRow.alloc (HOx5.out) _) HG1.out (.inr rfl)).trans (Kp.set HOb3.out (.inl rfl) 0 _))
                  refine ⟨k + 1, xs ++ [⟨some xl, A5, c5⟩], _, by go_num, by omega, ?_, HOb3.out.set 0 _, ?_, ?_, ?_⟩
                  · exact ((HBx.out.trans (HX7.out.mono (by omega))).trans (HBg.out.mono (by omega))).setCell (by simp) _
                  · show List.map _ _ = _
                    rw [List.map_append, HXs.out, HCs.out]
                    rfl
                  · have ho := ownsRow_setCell_below HO1.out (a := ⟨K3, 0, none⟩) (by simp) (.slice A2 (k + 1) c2)
                    show World.ownsRow _ _ _ _ _ _ _
                    simpa [cellV] using ho
                  · show ∀ x ∈ _, _
                    intro x hx
                    rcases List.mem_append.1 hx with hx | hx
                    · exact (((HXk.out x hx).kp (Kp.of KC HX7.out) (by unfold KC; decide))).kp hkp (by unfold KC; decide)
                    · rw [List.mem_singleton] at hx
                      subst hx
                      exact ⟨hkp.rdk (RdK.of_own HO5.out) (by unfold KC; decide), (fun h => by cases h), (fun _ => HN5.out), hxl⟩
                case measure => simp [intOf]; omega
            · obtain rfl : cs.length = k := by omega
              have hck : ¬ (cs.length : Int) < cs.length := by omega
              have HXm := Lib.hid (show xs.map (·.l) = cs.map rcL by have := HXs.out; rwa [List.take_length] at this)
              have hxsl : xs.length = cs.length := by
                have := congrArg List.length HXm.out
                simpa using this
              have HXl := Lib.hid hxsl
              obtain ⟨XA, xc3, rfl, _, _⟩ := own_slice HOx.out
              have HBoo := Lib.hid (show Below wo.heap.size wo wr from HX3.out.trans (by rw [← HK3.out]; exact HBx.out))
              have HOo := Lib.hid (blk_ext5 HO.out HBoo.out)
              have HOw2 := Lib.hid (own_ext HOw.out HBoo.out)
              have h1 := HOo.out.cell 1 rfl
              have h2 := HB3.out.cell 0 rfl
              have h3 := HB3.out.cell 1 rfl
              have hsz6 : S2 ≤ wr.heap.size := Nat.le_trans hsz HBoo.out.size
              clear hxsl
              go_wp2_with (at_builtin; refine wpList_append_own _ rfl _ _ _ rfl (S2) 91 j3 _ 2 40 Tryd.underlying29 HI3.out.1 HI3.out.2.1 HI3.out.2.2.1 HI3.out.2.2.2 rfl (by omega) v i _ rfl (World.ownsRow.alloc HOw2.out _) ⟨wr.heap.size, 0, none⟩ 1 1 [.slice XA cs.length xc3, .string ⟨out.toArray⟩] rfl rfl (new_cells wr [.slice XA cs.length xc3, .string ⟨out.toArray⟩] _ _ rfl) (by intro u hu; simp only [List.mem_cons, List.not_mem_nil, or_false] at hu; rcases hu with rfl | rfl <;> rfl) (by simp only [maxLen]; omega) (by omega) (by simp; omega) ?_; intro v1 w1 hown1 hg1 _; obtain ⟨A2, c2, hv1, _⟩ := own_slice hown1; subst hv1; have HO1 := Lib.hid hown1; have HG1 := Lib.hid hg1; have HBg := Lib.hid (Below.grown (B := S2) ((Below.refl _ wr).alloc hsz6 (.cells #[.slice XA cs.length xc3, .string ⟨out.toArray⟩] 91)) hg1 (by simp; omega) (fun g hg => (HOw2.out.lt g hg).1)); have HOb3 := Lib.hid (HOo.out.ext (HBg.out.mono hS2k)); have z1 := HOb3.out.cell 1 rfl; have z2 := HOb3.out.free 1; clear hown1 hg1)
              go_roundw
              case rel =>
                have hkp2 : Kp KR wr (w1.setCell ⟨K + 2, 1, none⟩ (.slice A2 (i + 1) c2)) := (Kp.of KR (ext_alloc wr _)).trans ((Kp.grown (World.ownsRow.alloc HOw2.out _) HG1.out (.inr rfl)).trans (Kp.set HOb3.out (.inl rfl) 1 _))
                have hkp : Kp KR wo (w1.setCell ⟨K + 2, 1, none⟩ (.slice A2 (i + 1) c2)) := (Kp.of KR HBoo.out).trans hkp2
                refine ⟨i + 1, m2 ++ [⟨xs, XA, xc3, out⟩], _, by go_num, by omega, ?_, ?_, HOb3.out.set 1 _, ?_, ?_, ?_, ?_, ?_⟩
                · exact ((HB2.out.trans (HBoo.out.mono (by omega))).trans (HBg.out.mono (by omega))).setCell (by simp) _
                · have := HBg.out.size
                  simp
                  omega
                · show List.map _ _ = _
                  rw [List.map_append, HM2.out, HMi.out]
                  congr 1
                  show [RwM.rw _] = _
                  unfold RwM.rw rrRw
                  simp only [List.cons.injEq, and_true]
                  rw [HXm.out]
                · have ho := ownsRow_setCell_below HO1.out (a := ⟨K + 2, 1, none⟩) (by simp; omega) (.slice A2 (i + 1) c2)
                  show World.ownsRow _ _ _ _ _ _ _
                  simpa [List.flatMap_append, rwmCells, HXl.out] using ho
                · show ∀ m ∈ _, _
                  intro m hm
                  rcases List.mem_append.1 hm with hm | hm
                  · exact (HRo.out m hm).kp hkp (by unfold KR; decide) (by unfold KR; decide)
                  · rw [List.mem_singleton] at hm
                    subst hm
                    exact ⟨hkp2.rdk (RdK.of_own HOx.out) (by unfold KR; decide), fun x hx => (HXk.out x hx).kp hkp2 (by unfold KR; decide)⟩
                · exact hkp.rdk HQR.out (by unfold KR; decide)
                · exact fun q hq => (HQk.out q hq).kp hkp (by unfold KR; decide)
              case measure => simp [intOf]; omega
        · obtain rfl : rrs.length = i := by omega
          have hcl : ¬ (rrs.length : Int) < rrs.length := by omega
          have HMm := Lib.hid (show m2.map RwM.rw = rrs.map rrRw by have := HM2.out; rwa [List.take_length] at this)
          have hml : m2.length = rrs.length := by
            have := congrArg List.length HMm.out
            simpa using this
          have HMl := Lib.hid hml
          obtain ⟨RA2, rc2, rfl, _, _⟩ := own_slice HOw.out
          have HZ := Lib.hid ((HRes.out.ext HB.out).ext HB2.out)
          have z0 := HO.out.cell 0 rfl
          have z1 := HO.out.cell 1 rfl
          have y0 := HZ.out.cell 0 rfl
          have y1 := HZ.out.cell 1 rfl
          have f0 := HZ.out.free 0
          have f1 := HZ.out.free 1
          have s1 := ((HZ.out.set 0 (.slice QA2 qms.length qc2)).set 1 (.slice RA2 rrs.length rc2)).cell 1 rfl
          have s2 := ((HZ.out.set 0 (.slice QA2 qms.length qc2)).set 1 (.slice RA2 rrs.length rc2)).cell 0 rfl
          clear hml
          go_wp2_with fail
          have hkt : Kp KT wr ((wr.setCell ⟨K + 1, 0, none⟩ (.slice QA2 qms.length qc2)).setCell ⟨K + 1, 1, none⟩ (.slice RA2 rrs.length rc2)) := (Kp.set HZ.out (show KT 31 from rfl) 0 _).trans (Kp.set (HZ.out.set 0 (.slice QA2 qms.length qc2)) (show KT 31 from rfl) 1 _)
          refine bodyPost_ret (v := .agg #[.slice QA2 qms.length qc2, .slice RA2 rrs.length rc2]) (by simp [results, Tryd.results8, go_sem, s1, s2]) rfl ⟨q2, QA2, qc2, m2, RA2, rc2, by rw [HLen.out, HMl.out], HQ3.out, HMm.out, ⟨?_, fun q hq => ?_⟩, ⟨?_, fun m hm => ?_⟩, fun q hq => (HQk.out q hq).cap, ?_⟩
          · exact (hkt.rdk HQR.out (by unfold KT; decide)).rd
          · exact ((HQk.out q hq).kp hkt (by unfold KT; decide)).ans.rd
          · exact (hkt.rdk (RdK.of_own HOw.out) (by unfold KT; decide)).rd
          · exact ((HRo.out m hm).kp hkt (by unfold KT; decide) (by unfold KT; decide)).cellsP
          · exact ((HBw2.out).setCell (by simp; rw [HK.out]; omega) _).setCell (by simp; rw [HK.out]; omega) _
end Go.Proofs.YtjfiodknjchngaaDoor.Gp

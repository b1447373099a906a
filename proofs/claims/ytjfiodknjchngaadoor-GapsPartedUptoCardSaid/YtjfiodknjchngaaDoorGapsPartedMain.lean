/- GapsParted: the law's walk. -/
import Derived.Test.YtjfiodknjchngaaDoorGqP
import Derived.Test.YtjfiodknjchngaaDoorGrE
import Derived.Test.YtjfiodknjchngaaDoorGrL
import Derived.Test.YtjfiodknjchngaaDoorGsD
namespace Go.Proofs.YtjfiodknjchngaaDoor.GapsParted
open Go.RowKit Mem Nest Fk Err Gp

theorem ns_of (q2 : List QnM) : (q2.map fun q => q.ans.length) = (q2.map QnM.qn).map fun q => q.ans.length := by
  rw [List.map_map]
  rfl
theorem part_small {qs : List Qn} {rs : List Rw} {lf : Nat → Nat → Nat → Nat} {fo : Nat → List UInt8} {R : List Rw} (h : SmallP qs rs) (hv : vcode qs rs = 0) (hlf : lf = fun (m q i : Nat) => lft rs q (i : Nat) m rs.length) (hfo : fo = fun m => (firstF rs m).getD []) (hR : R = restF lf fo (qs.map fun q => q.ans.length) 0 (2 ^ rs.length - 1)) (h60 : R.length ≤ 60) : SmallP qs R where
  nm := h.nm
  an := h.an
  al := h.al
  ql := h.ql
  rl := by omega
  out := fun r hr => by
    rw [hR] at hr
    obtain ⟨l', h0, hl', e⟩ := restF_inv (fun l => l < 2 ^ rs.length) lf fo (fun l q i hl => by rw [hlf]; exact lft_low hl) _ _ _ (by have := Nat.two_pow_pos rs.length; omega) _ hr
    obtain ⟨k, hk, hf⟩ := first_some h0 hl'
    rw [e, hfo]
    simp only [hf, Option.getD_some]
    rw [rAt_get hk]
    exact h.out _ (List.getElem_mem hk)
  cl := fun r hr => by
    have h1 := (valid_of (part_valid hv hlf hfo hR h60)).cl r hr
    have := h.ql
    omega
set_option maxRecDepth 100000 in
set_option maxHeartbeats 8000000 in
theorem gp_walk (E : Nat → Addr) (qms : List QnM) (A : Option Addr) (c : Nat) (rrs : List RR) (B : Option Addr) (bc : Nat) (hsm : SmallP (qms.map QnM.qn) (rrs.map rrRw)) (hal : ∀ q ∈ qms, q.ans.length ≤ 1048576 ∧ (q.A = none → q.c = 0)) (hcl : ∀ r ∈ rrs, r.cells.length ≤ 1048576 ∧ ∀ x ∈ r.cells, RcOk x)
    (w : World) (hE : Errs w E) (hq : QsP w A qms) (hr : RawR w B rrs) (hri : ∀ r ∈ rrs, ∀ x ∈ r.cells, Rd w x.A (ints x.l)) :
    Calls Tryd.prog 3 #[.agg #[.slice A qms.length c, .slice B rrs.length bc]] w (RetA true w) := by
  have hql : qms.length ≤ 1048576 := by have := hsm.ql; rwa [List.length_map] at this
  have hrl : rrs.length ≤ 1048576 := by have := hsm.rl; rwa [List.length_map] at this
  have hbk := Blk.new w 25 [.slice A qms.length c, .slice B rrs.length bc]
  have hx := ext_alloc w (.cells (List.toArray [.slice A qms.length c, .slice B rrs.length bc]) 25)
  obtain ⟨W, hW⟩ : ∃ W, W = w.alloc (.cells (List.toArray [.slice A qms.length c, .slice B rrs.length bc]) 25) := ⟨_, rfl⟩
  obtain ⟨K, hK⟩ : ∃ K, K = w.heap.size := ⟨_, rfl⟩
  rw [← hW] at hx hbk
  rw [← hK] at hbk
  have HX := Lib.hid hx
  have HE := Lib.hid (hE.below hx)
  have HQ := Lib.hid (hq.ext hx)
  have HR := Lib.hid (hr.ext hx)
  have HRi := Lib.hid (fun r h x h2 => (hri r h x h2).ext hx)
  have HS := Lib.hid hsm
  have HAl := Lib.hid hal
  have HCl := Lib.hid hcl
  have HW := Lib.hid hW
  have HK := Lib.hid hK
  have r0 := hbk.cell 0 rfl
  have r1 := hbk.cell 1 rfl
  have HG := Lib.hid (gapped_any E W HE.out)
  have HFe := Lib.hid (fun w' (hb : Below W.heap.size W w') => fewcells_any qms A c rrs B bc hql hrl (fun q h => (hal q h).1) (fun r h => (hcl r h).1) w' (HQ.out.ext hb) (HR.out.ext hb))
  have HTb := Lib.hid (fun w' (hb : Below W.heap.size W w') => table_any qms A c rrs B bc hql hrl hal hcl w' (HQ.out.ext hb) (HR.out.ext hb) (fun r h x h2 => (HRi.out r h x h2).ext hb))
  obtain ⟨V, hV⟩ : ∃ V, V = vcode (qms.map QnM.qn) (rrs.map rrRw) := ⟨_, rfl⟩
  have HV := Lib.hid hV
  obtain ⟨ns, hns⟩ : ∃ ns, ns = qms.map fun q => q.ans.length := ⟨_, rfl⟩
  have HNs := Lib.hid hns
  obtain ⟨rs, hrs⟩ : ∃ rs, rs = rrs.map rrRw := ⟨_, rfl⟩
  have HRs := Lib.hid hrs
  clear hbk hx hW hK hE hq hr hri hsm hal hcl hV hns hrs
  go_enter Tryd.func3, Tryd.ntmps3
  go_upto_region 1 with fail
  rw [show w.alloc (.cells #[.slice A qms.length c, .slice B rrs.length bc] 25) = W from HW.out.symm, ← HK.out]
  clear HW
  go_wp2_with fail
  refine HG.out.mono ?_
  rintro e w1 ⟨rfl, hb1⟩
  have HB1 := Lib.hid hb1
  have r0 := cell_ext hb1 r0
  have r1 := cell_ext hb1 r1
  clear hb1 HG
  go_wp2_with fail
  refine (HFe.out w1 HB1.out).mono ?_
  rintro e w2 ⟨few, rfl, hfw, hb2⟩
  have HB2 := Lib.hid (ext_trans HB1.out hb2)
  have HFw := Lib.hid hfw
  have r0 := cell_ext hb2 r0
  have r1 := cell_ext hb2 r1
  clear hb2 hfw HFe
  cases few with
  | false =>
    go_wp2_with fail
    go_ret
    exact retA rfl (ext_trans HX.out HB2.out)
  | true =>
    have HDr := Lib.hid (fun (w' : World) (hb : Below W.heap.size W w') => drows_of (HR.out.ext hb) (fun r h x h2 => (HRi.out r h x h2).ext hb) HCl.out (HFw.out rfl))
    have HTv := Lib.hid (show ∀ w', Below W.heap.size W w' → Calls Tryd.prog 9 #[.agg #[.slice A qms.length c, .slice B rrs.length bc]] w' (RetI (V : Int) w') from fun w' hb => by
      have h := tvalid_any qms A c (rrs.map rrM) B bc (HS.out.small rfl (rrM_rw rrs)) w' (HQ.out.ext hb) (HDr.out w' hb)
      rw [rrM_rw, List.length_map, ← HV.out] at h
      exact h)
    go_wp2_with fail
    refine (HTb.out w2 HB2.out).mono ?_
    rintro e w3 ⟨q2, QA, qc, m2, RA, rc, rfl, hq2, hm2, hQ2, hR2, hcp, hb3⟩
    have HB3 := Lib.hid (ext_trans HB2.out hb3)
    have HQ2 := Lib.hid hQ2
    have HR2 := Lib.hid hR2
    have HCp := Lib.hid hcp
    have HQe := Lib.hid hq2
    have HMe := Lib.hid hm2
    have r0 := cell_ext hb3 r0
    have r1 := cell_ext hb3 r1
    clear hb3 hQ2 hR2 hcp hq2 hm2 HTb
    have HQn := Lib.hid (show (q2.map fun q => q.ans.length) = ns by rw [ns_of, HQe.out, ← ns_of, HNs.out])
    have HVl := Lib.hid (show ∀ w', Below w3.heap.size w3 w' → Calls Tryd.prog 25 #[.agg #[.slice QA q2.length qc, .slice RA m2.length rc]] w' (ValidPost E V w') from fun w' hb => by
      have h := pvalid_any E q2 QA qc m2 RA rc (HS.out.small HQe.out HMe.out) HCp.out w' (HE.out.below (ext_trans HB3.out hb)) (HQ2.out.ext hb) (HR2.out.ext hb)
      rw [HQe.out, HMe.out, ← HV.out] at h
      exact h)
    have HVs := Lib.hid (show vcode (q2.map QnM.qn) (m2.map RwM.rw) = V by rw [HQe.out, HMe.out, HV.out])
    obtain ⟨lf, hlf⟩ : ∃ lf : Nat → Nat → Nat → Nat, lf = fun (m q i : Nat) => lft rs q (i : Nat) m rs.length := ⟨_, rfl⟩
    obtain ⟨fo, hfo⟩ : ∃ fo : Nat → List UInt8, fo = fun m => (firstF rs m).getD [] := ⟨_, rfl⟩
    obtain ⟨R, hR⟩ : ∃ R, R = restF lf fo ns 0 (2 ^ rs.length - 1) := ⟨_, rfl⟩
    have HLf := Lib.hid hlf
    have HFo := Lib.hid hfo
    have HRR := Lib.hid hR
    have HPa := Lib.hid (show ∀ w', Below w3.heap.size w3 w' → Calls Tryd.prog 7 #[.agg #[.slice QA q2.length qc, .slice RA m2.length rc]] w' (PartedPost V q2 R E w') from fun w' hb => by
      have hml : m2.length = rs.length := by
        have := congrArg List.length HMe.out
        rw [List.length_map] at this
        rw [this, ← HRs.out]
      have h := parted_any E q2 QA qc m2 RA rc w' (HE.out.below (ext_trans HB3.out hb)) (HQ2.out.ext hb) (HR2.out.ext hb) (fun w'' hb2 => by rw [HVs.out]; exact HVl.out w'' (ext_trans hb hb2)) lf (by rw [HMe.out, ← HRs.out]; exact hlf) fo (by rw [HMe.out, ← HRs.out]; exact hfo)
      have hR2 : restF lf fo (q2.map fun q => q.ans.length) 0 (2 ^ m2.length - 1) = R := by rw [HQn.out, hml, hR]
      rw [HVs.out, hR2] at h
      exact h)
    clear hlf hfo hR HVl
    go_wp2_with fail
    by_cases hv : V = 0
    · subst hv
      rw [show ((0 : Nat) : Int) = 0 from rfl] at HTv
      have hvt := valid_of HV.out.symm
      have hq12 : qms.length ≤ 12 := by have := hvt.q12; rwa [List.length_map] at this
      have hr60 : rrs.length ≤ 60 := by have := hvt.r60; rwa [List.length_map] at this
      have HA12 := Lib.hid (show ∀ q ∈ qms, q.ans.length ≤ 1000 from fun q hq => Nat.le_trans (hvt.a12 q.qn (List.mem_map.2 ⟨q, hq, rfl⟩)) (by omega))
      have HN1 := Lib.hid (show ∀ n ∈ ns, 1 ≤ n from fun n hn => by
        rw [HNs.out] at hn
        obtain ⟨q, hq, rfl⟩ := List.mem_map.1 hn
        exact hvt.a1 q.qn (List.mem_map.2 ⟨q, hq, rfl⟩))
      have HNl := Lib.hid (show ns.length = qms.length by rw [HNs.out, List.length_map])
      have HCn := Lib.hid (show ∀ r ∈ rs, r.cells.length = ns.length from fun r hr => by
        rw [HNl.out]
        rw [HRs.out] at hr
        have := hvt.cl r hr
        rwa [List.length_map] at this)
      have HCo := Lib.hid (fun (w' : World) (hb : Below W.heap.size W w') => show Calls Tryd.prog 11 #[.agg #[.slice A qms.length c, .slice B rrs.length bc], .int .i64 600] w' (CasesPost (casesF 600 ns) w') from by
        have h := casesof_any (.slice B rrs.length bc) qms A c 600 (by omega) (by omega) HA12.out w' (HQ.out.ext hb)
        rw [← HNs.out] at h
        exact h)
      have HRlen := Lib.hid (show R.length ≤ (exts ns).length by rw [HRR.out]; exact restF_len _ _ _ _ _)
      by_cases h60 : 60 < R.length
      · have HP1 := Lib.hid (show ∀ w', Below w3.heap.size w3 w' → Calls Tryd.prog 7 #[.agg #[.slice QA q2.length qc, .slice RA m2.length rc]] w' (fun e w'' => e = .returned (.tuple #[.agg #[.slice none 0 0, .slice none 0 0], .iface 227 (.pointer (some (E 1)))]) ∧ Below w'.heap.size w' w'') from fun w' hb => (HPa.out w' hb).mono fun e w'' h => by
          obtain ⟨hb2, h⟩ := h
          rcases h with ⟨h0, _⟩ | ⟨_, _, h⟩ | ⟨_, h6, _⟩
          · exact absurd rfl h0
          · exact ⟨h, hb2⟩
          · omega)
        have HCd := Lib.hid (show ∀ w', Below W.heap.size W w' → Calls Tryd.prog 10 #[.iface 227 (.pointer (some (E 1))), .int .i64 2] w' (RetA true w') from fun w' hb => coded5V_any E 2 (by omega) w' (HE.out.below hb))
        clear HPa hvt
        refine (HP1.out w3 (Below.refl _ _)).mono ?_
        rintro e w4 ⟨rfl, hb4⟩
        have r0 := cell_ext hb4 r0
        have r1 := cell_ext hb4 r1
        obtain ⟨W5, hW5⟩ : ∃ W, W = w4.alloc (.cells (List.toArray [.slice none 0 0, .slice none 0 0]) 31) := ⟨_, rfl⟩
        obtain ⟨K5, hK5⟩ : ∃ K, K = w4.heap.size := ⟨_, rfl⟩
        have hx5 : Below w4.heap.size w4 W5 := by rw [hW5]; exact ext_alloc _ _
        have HB5 := Lib.hid (show Below W.heap.size W W5 from ext_trans HB3.out (ext_trans hb4 hx5))
        have r0 := cell_ext hx5 r0
        have r1 := cell_ext hx5 r1
        have HW5 := Lib.hid hW5
        have HK5 := Lib.hid hK5
        clear hb4 hx5 hW5 hK5 HP1
        go_upto_region 6 with fail
        rw [show w4.alloc (.cells #[.slice none 0 0, .slice none 0 0] 31) = W5 from HW5.out.symm, ← HK5.out]
        clear HW5 HK5
        go_wp2_with fail
        refine (HTv.out W5 HB5.out).mono ?_
        rintro e w6 ⟨rfl, hb6⟩
        have HB6 := Lib.hid (ext_trans HB5.out hb6)
        have r0 := cell_ext hb6 r0
        have r1 := cell_ext hb6 r1
        clear hb6 HTv
        go_wp2_with fail
        refine (HCo.out w6 HB6.out).mono ?_
        rintro e wa ⟨LA, lc, xs, rfl, hxs, hL, hba⟩
        have HBa := Lib.hid (ext_trans HB6.out hba)
        have HXs := Lib.hid hxs
        clear hba hxs hL HCo
        by_cases h6 : 600 < xs.length
        · have h6c : (600 : Int) < xs.length := by omega
          go_wp2_with fail
          go_ret
          exact retA rfl (ext_trans HX.out HBa.out)
        · have h6c : ¬ (600 : Int) < xs.length := by omega
          have hXe : xs.map LM.l = exts ns := by
            rw [HXs.out]
            refine casesF_small 600 ns HN1.out ?_
            rw [← HXs.out, List.length_map]
            omega
          have h7 : 60 < xs.length := by
            have h := congrArg List.length hXe
            rw [List.length_map] at h
            have := HRlen.out
            omega
          have h7c : (60 : Int) < xs.length := by omega
          have h7d : decide ((60 : Int) < xs.length) = true := by simp; omega
          clear hXe
          go_wp2_with fail
          refine (HCd.out wa HBa.out).mono ?_
          rintro e w7 ⟨rfl, hb7⟩
          have HB7 := Lib.hid (ext_trans HBa.out hb7)
          clear hb7
          go_wp2_with fail
          go_ret
          exact retA rfl (ext_trans HX.out HB7.out)
      · have hpv : vcode (qms.map QnM.qn) R = 0 := by
          have hRq : R = restF lf fo ((qms.map QnM.qn).map fun q => q.ans.length) 0 (2 ^ rs.length - 1) := by rw [HRR.out, HNs.out, ns_of]
          have hv0 : vcode (qms.map QnM.qn) rs = 0 := by rw [HRs.out]; exact HV.out.symm
          exact part_valid hv0 HLf.out HFo.out hRq (by omega)
        have hps : SmallP (qms.map QnM.qn) R := by
          have hRq : R = restF lf fo ((qms.map QnM.qn).map fun q => q.ans.length) 0 (2 ^ rs.length - 1) := by rw [HRR.out, HNs.out, ns_of]
          have hv0 : vcode (qms.map QnM.qn) rs = 0 := by rw [HRs.out]; exact HV.out.symm
          exact part_small (by rw [HRs.out]; exact HS.out) hv0 HLf.out HFo.out hRq (by omega)
        have HPv := Lib.hid hpv
        have HPs := Lib.hid hps
        have HP1 := Lib.hid (show Calls Tryd.prog 7 #[.agg #[.slice QA q2.length qc, .slice RA m2.length rc]] w3 (fun e w'' => ∃ (QA' : Option Addr) (qc' : Nat) (q3 : List QnM) (RA' : Option Addr) (rc' : Nat) (m3 : List RwM), e = .returned (.tuple #[.agg #[.slice QA' q3.length qc', .slice RA' m3.length rc'], .nilIface]) ∧ q3.map QnM.qn = q2.map QnM.qn ∧ QsP w'' QA' q3 ∧ (∀ q ∈ q3, q.A = none → q.c = 0) ∧ m3.map RwM.rw = R ∧ RowsP w'' RA' m3 ∧ Below w3.heap.size w3 w'') from (HPa.out w3 (Below.refl _ _)).mono fun e w'' h => by
          obtain ⟨hb2, h⟩ := h
          rcases h with ⟨h0, _⟩ | ⟨_, h6, _⟩ | ⟨_, _, QA', qc', q3, RA', rc', m3, h1, h2, h3, h4, h5, h6⟩
          · exact absurd rfl h0
          · omega
          · exact ⟨QA', qc', q3, RA', rc', m3, h1, h2, h3, h4, h5, h6, hb2⟩)
        clear HPa hvt hpv hps
        refine HP1.out.mono ?_
        rintro e w4 ⟨QP, qcp, q3, RP, rcp, m3, rfl, hq3, hQ3, hn3, hm3, hR3, hb4⟩
        have r0 := cell_ext hb4 r0
        have r1 := cell_ext hb4 r1
        obtain ⟨W5, hW5⟩ : ∃ W, W = w4.alloc (.cells (List.toArray [.slice QP q3.length qcp, .slice RP m3.length rcp]) 31) := ⟨_, rfl⟩
        obtain ⟨K5, hK5⟩ : ∃ K, K = w4.heap.size := ⟨_, rfl⟩
        have hx5 : Below w4.heap.size w4 W5 := by rw [hW5]; exact ext_alloc _ _
        have hb5 : Blk W5 K5 31 [.slice QP q3.length qcp, .slice RP m3.length rcp] := by rw [hW5, hK5]; exact Blk.new _ _ _
        have HB5 := Lib.hid (show Below W.heap.size W W5 from ext_trans HB3.out (ext_trans hb4 hx5))
        have HQ3 := Lib.hid (hQ3.ext hx5)
        have HR3 := Lib.hid (hR3.ext hx5)
        have HQe3 := Lib.hid (show q3.map QnM.qn = qms.map QnM.qn by rw [hq3, HQe.out])
        have HMe3 := Lib.hid hm3
        have HN3 := Lib.hid hn3
        have t0 := hb5.cell 0 rfl
        have t1 := hb5.cell 1 rfl
        have r0 := cell_ext hx5 r0
        have r1 := cell_ext hx5 r1
        have HW5 := Lib.hid hW5
        have HK5 := Lib.hid hK5
        clear hb4 hx5 hb5 hW5 hK5 HP1 hq3 hQ3 hn3 hm3 hR3
        go_upto_region 6 with fail
        rw [show w4.alloc (.cells #[.slice QP q3.length qcp, .slice RP m3.length rcp] 31) = W5 from HW5.out.symm, ← HK5.out]
        clear HW5 HK5
        go_wp2_with fail
        refine (HTv.out W5 HB5.out).mono ?_
        rintro e w6 ⟨rfl, hb6⟩
        have HB56 := Lib.hid hb6
        have HB6 := Lib.hid (ext_trans HB5.out hb6)
        have r0 := cell_ext hb6 r0
        have r1 := cell_ext hb6 r1
        have t0 := cell_ext hb6 t0
        have t1 := cell_ext hb6 t1
        clear hb6 HTv
        go_wp2_with fail
        refine (HCo.out w6 HB6.out).mono ?_
        rintro e wa ⟨LA, lc, xs, rfl, hxs, hL, hba⟩
        have HB5a := Lib.hid (ext_trans HB56.out hba)
        have HBa := Lib.hid (ext_trans HB6.out hba)
        have HXs := Lib.hid hxs
        have HL := Lib.hid hL
        have r0 := cell_ext hba r0
        have r1 := cell_ext hba r1
        have t0 := cell_ext hba t0
        have t1 := cell_ext hba t1
        clear hba hxs hL HCo
        by_cases h6 : 600 < xs.length
        · have h6c : (600 : Int) < xs.length := by omega
          go_wp2_with fail
          go_ret
          exact retA rfl (ext_trans HX.out HBa.out)
        · have h6c : ¬ (600 : Int) < xs.length := by omega
          have HXe := Lib.hid (show xs.map LM.l = exts ns by
            rw [HXs.out]
            refine casesF_small 600 ns HN1.out ?_
            rw [← HXs.out, List.length_map]
            omega)
          have hal3 : ∀ q ∈ q3, q.ans.length ≤ 1048576 ∧ (q.A = none → q.c = 0) := fun q hq => ⟨((HPs.out.small HQe3.out HMe3.out).al q hq), HN3.out q hq⟩
          have hcl3 : ∀ r ∈ m3, r.cells.length ≤ 1048576 := (HPs.out.small HQe3.out HMe3.out).cl
          have HTo := Lib.hid (tabof_any q3 QP qcp m3 RP rcp (HPs.out.small HQe3.out HMe3.out).ql (HPs.out.small HQe3.out HMe3.out).rl hal3 hcl3 wa (HQ3.out.ext HB5a.out) (HR3.out.ext HB5a.out))
          clear hal3 hcl3
          go_wp2_with fail
          refine HTo.out.mono ?_
          rintro e wb ⟨q4, Q4, qc4, m4, R4, rc4, rfl, hq4, hm4, hQ4, hR4, hbb⟩
          obtain ⟨W7, hW7⟩ : ∃ W, W = wb.alloc (.cells (List.toArray [.slice Q4 q4.length qc4, .slice R4 m4.length rc4]) 25) := ⟨_, rfl⟩
          obtain ⟨K7, hK7⟩ : ∃ K, K = wb.heap.size := ⟨_, rfl⟩
          have hx7 : Below wb.heap.size wb W7 := by rw [hW7]; exact ext_alloc _ _
          have hb7 : Blk W7 K7 25 [.slice Q4 q4.length qc4, .slice R4 m4.length rc4] := by rw [hW7, hK7]; exact Blk.new _ _ _
          have HB7 := Lib.hid (show Below W.heap.size W W7 from ext_trans HBa.out (ext_trans hbb hx7))
          have HLa := Lib.hid (show LRows W7 LA xs from HL.out.ext (ext_trans hbb hx7))
          have HQ4 := Lib.hid (hQ4.ext hx7)
          have HR4 := Lib.hid (hR4.ext hx7)
          have HMe4 := Lib.hid (show m4.map RwM.rw = R by rw [hm4, HMe3.out])
          have HQe4 := Lib.hid (show q4.map QnM.qn = qms.map QnM.qn by rw [hq4, HQe3.out])
          have HTq := Lib.hid (show Calls Tryd.prog 9 #[.agg #[.slice Q4 q4.length qc4, .slice R4 m4.length rc4]] W7 (RetI 0 W7) from by
            have h := tvalid_any q4 Q4 qc4 m4 R4 rc4 (HPs.out.small HQe4.out HMe4.out) W7 HQ4.out HR4.out
            rw [HQe4.out, HMe4.out, HPv.out] at h
            exact h)
          have s0 := hb7.cell 0 rfl
          have s1 := hb7.cell 1 rfl
          have r0 := cell_ext (ext_trans hbb hx7) r0
          have r1 := cell_ext (ext_trans hbb hx7) r1
          have HW7 := Lib.hid hW7
          have HK7 := Lib.hid hK7
          clear hx7 hb7 hW7 hK7 hbb hQ4 hR4 hm4 hq4 t0 t1 HTo
          go_upto_region 15 with fail
          rw [show wb.alloc (.cells #[.slice Q4 q4.length qc4, .slice R4 m4.length rc4] 25) = W7 from HW7.out.symm, ← HK7.out]
          clear HW7 HK7
          go_wp2_with fail
          refine HTq.out.mono ?_
          rintro e w8 ⟨rfl, hb8⟩
          have HB78 := Lib.hid hb8
          have HB8 := Lib.hid (ext_trans HB7.out hb8)
          have r0 := cell_ext hb8 r0
          have r1 := cell_ext hb8 r1
          have s0 := cell_ext hb8 s0
          have s1 := cell_ext hb8 s1
          clear hb8 HTq
          go_wp2_with fail
          have HSx := Lib.hid (And.intro r0 (And.intro r1 (And.intro s0 s1)))
          clear r0 r1 s0 s1
          go_loopw [10] (fun t10 wr => ∃ i : Nat, t10 = .int .i64 i ∧ i ≤ xs.length ∧ Hid (Below w8.heap.size w8 wr)) (fun t10 _ => xs.length - (intOf t10).toNat)
          case atStart => exact ⟨0, rfl, by omega, Below.refl _ _⟩
          case round =>
            obtain ⟨i, rfl, hi, HBr⟩ := hrel
            have HBt := Lib.hid (show Below W.heap.size W wr from ext_trans HB8.out HBr.out)
            by_cases hlt : i < xs.length
            · have hci : (i : Int) < xs.length := by omega
              have r0 := cell_ext HBr.out HSx.out.1
              have r1 := cell_ext HBr.out HSx.out.2.1
              have s0 := cell_ext HBr.out HSx.out.2.2.1
              have s1 := cell_ext HBr.out HSx.out.2.2.2
              have hLr := HLa.out.ext (ext_trans HB78.out HBr.out)
              obtain ⟨lb, lo, hLA, l0⟩ := hLr.at hlt
              subst hLA
              have HIn := Lib.hid (hLr.ints _ (List.getElem_mem hlt))
              have HXi := Lib.hid (show xs[i].l ∈ exts ns by rw [← HXe.out]; exact List.mem_map.2 ⟨_, List.getElem_mem hlt, rfl⟩)
              clear hLr
              generalize xs[i] = X at *
              obtain ⟨l, lA, lc2⟩ := X
              simp only at l0 HIn HXi
              have hll : l.length = ns.length := exts_len HXi.out
              have HPs2 := Lib.hid (part_says HCn.out HLf.out HFo.out HRR.out HXi.out)
              have hm4l : m4.length ≤ 60 := by
                have := congrArg List.length HMe4.out
                rw [List.length_map] at this
                omega
              go_wp2_with fail
              go_loopw [11, 12] (fun t11 t12 wr2 => ∃ k tm : Nat, t11 = .int .i64 tm ∧ t12 = .int .i64 k ∧ k ≤ m4.length ∧ Hid (tm = ((R.take k).filter fun r => fitR r.cells l).length) ∧ Hid (Below wr.heap.size wr wr2)) (fun _ t12 _ => m4.length - (intOf t12).toNat)
              case atStart => exact ⟨0, 0, rfl, rfl, by omega, (show 0 = ((R.take 0).filter fun r => fitR r.cells l).length by simp), Below.refl _ _⟩
              case round =>
                obtain ⟨k, tm, rfl, rfl, hk, HTm, HB2⟩ := hrel
                have s0 := cell_ext HB2.out s0
                have s1 := cell_ext HB2.out s1
                have l0 := cell_ext HB2.out l0
                have r0 := cell_ext HB2.out r0
                by_cases hlk : k < m4.length
                · have hck : (k : Int) < m4.length := by omega
                  have hRW := HR4.out.ext (ext_trans HB78.out (ext_trans HBr.out HB2.out))
                  obtain ⟨rb, ro, hRA, z0, z1⟩ := hRW.row hlk
                  subst hRA
                  have HCk := Lib.hid (hRW.cells _ (List.getElem_mem hlk))
                  have HRk := Lib.hid (show R.take (k + 1) = R.take k ++ [m4[k].rw] by
                    rw [← HMe4.out, List.take_succ_eq_append_getElem (by rwa [List.length_map]), List.getElem_map])
                  have hcl4 : m4[k].cells.length = ns.length := by
                    have h1 : m4[k].rw ∈ R := by rw [← HMe4.out]; exact List.mem_map.2 ⟨_, List.getElem_mem hlk, rfl⟩
                    rw [HRR.out] at h1
                    have h2 := restF_clen h1
                    unfold RwM.rw at h2
                    rwa [List.length_map] at h2
                  clear hRW
                  generalize m4[k] = Y at *
                  obtain ⟨ys, yA, yc, yo⟩ := Y
                  simp only at z0 z1 HCk HRk hcl4
                  obtain ⟨f, hf⟩ : ∃ f, f = fitR (ys.map (·.l)) l := ⟨_, rfl⟩
                  have HFc := Lib.hid (fun (w' : World) (hb : Below wr.heap.size wr w') => show Calls Tryd.prog 13 #[.agg #[.slice yA ys.length yc, .string ⟨yo.toArray⟩], .slice lA l.length lc2] w' (RetA f w') from by
                    rw [hf]
                    exact rfits_any ys yA yc _ l lA lc2 (by omega) (by rw [hll, HNl.out]; omega) w' (HCk.out.ext hb) (HIn.out.ext (ext_trans HB2.out hb)))
                  have HF := Lib.hid hf
                  clear hf
                  have HTm2 := Lib.hid (show (tm + if f = true then 1 else 0) = ((R.take (k + 1)).filter fun r => fitR r.cells l).length by
                    rw [HRk.out, List.filter_append, List.length_append, ← HTm.out, HF.out]
                    congr 1
                    show _ = (List.filter (fun r : Rw => fitR r.cells l) [(⟨ys.map (·.l), yo⟩ : Rw)]).length
                    cases h : fitR (ys.map (·.l)) l <;> simp [h])
                  have htm : tm ≤ k := by rw [HTm.out]; exact Nat.le_trans (List.length_filter_le _ _) (by rw [List.length_take]; omega)
                  clear hcl4 hll r0
                  have hdr := ext_drewN wr 1
                  generalize l.length = ll at *
                  go_upto_region 24 with fail
                  go_region_held3 (fun w' => w'.cell? ⟨K7, 1, none⟩ = some (.slice (some ⟨rb, ro, none⟩) m4.length rc4) ∧ w'.cell? ⟨rb, ro + k * 2, none⟩ = some (.slice yA ys.length yc) ∧ w'.cell? ⟨rb, ro + k * 2 + 1, none⟩ = some (.string ⟨yo.toArray⟩) ∧ w'.cell? ⟨lb, lo + i, none⟩ = some (.slice lA ll lc2))
                    ((first | exact ⟨s1, z0, z1, l0⟩ | exact ⟨cell_ext hdr s1, cell_ext hdr z0, cell_ext hdr z1, cell_ext hdr l0⟩ | exact ⟨cell_ext HBs.out s1, cell_ext HBs.out z0, cell_ext HBs.out z1, cell_ext HBs.out l0⟩))
                    ((go_at_call 13; refine (HFc.out _ hdr).mono ?_; rintro e wc ⟨rfl, hb⟩; have HBs := Lib.hid (ext_trans hdr hb); clear hb))
                  cases f with
                  | true =>
                    go_wp2_with fail
                    go_roundw
                    case rel => exact ⟨k + 1, tm + 1, by go_num, by go_num, by omega, HTm2.out, ext_trans HB2.out HBs.out⟩
                    case measure => simp [intOf]; omega
                  | false =>
                    go_wp2_with fail
                    go_roundw
                    case rel => exact ⟨k + 1, tm, rfl, by go_num, by omega, HTm2.out, ext_trans HB2.out HBs.out⟩
                    case measure => simp [intOf]; omega
                · obtain rfl : m4.length = k := by omega
                  have hck : ¬ (m4.length : Int) < m4.length := by omega
                  have HSa := Lib.hid (fun (w' : World) (hb : Below wr.heap.size wr w') => show Calls Tryd.prog 14 #[.agg #[.slice A qms.length c, .slice B rrs.length bc], .slice lA l.length lc2] w' (SayPost (sayO rs l) w') from by
                    have hrm : (rrs.map rrM).length ≤ 1048576 := by rw [List.length_map]; exact hrl
                    have h := dsays_any (.slice A qms.length c) (rrs.map rrM) B bc l lA lc2 (fun r hr => by
                      have h1 : r.rw ∈ rs := by rw [HRs.out, ← rrM_rw]; exact List.mem_map.2 ⟨r, hr, rfl⟩
                      have h2 := HCn.out _ h1
                      unfold RwM.rw at h2
                      rw [List.length_map] at h2
                      omega) hrm (by rw [hll, HNl.out]; omega) w' (HDr.out w' (ext_trans HBt.out (ext_trans HB2.out hb))) (HIn.out.ext (ext_trans HB2.out hb))
                    rw [rrM_rw, List.length_map, ← HRs.out] at h
                    exact h)
                  have HSb := Lib.hid (fun (w' : World) (hb : Below wr.heap.size wr w') => show Calls Tryd.prog 14 #[.agg #[.slice Q4 q4.length qc4, .slice (R4) m4.length rc4], .slice lA l.length lc2] w' (SayPost (sayO rs l) w') from by
                    have h := dsays_any (.slice Q4 q4.length qc4) m4 R4 rc4 l lA lc2 (fun r hr => by
                      have h1 : r.rw ∈ R := by rw [← HMe4.out]; exact List.mem_map.2 ⟨r, hr, rfl⟩
                      rw [HRR.out] at h1
                      have h2 := restF_clen h1
                      unfold RwM.rw at h2
                      rw [List.length_map] at h2
                      omega) (by omega) (by rw [hll, HNl.out]; omega) w' (HR4.out.ext (ext_trans HB78.out (ext_trans HBr.out (ext_trans HB2.out hb)))) (HIn.out.ext (ext_trans HB2.out hb))
                    rw [HMe4.out, HPs2.out.1] at h
                    exact h)
                  have htm : tm ≤ 1 := by
                    have h := HTm.out
                    have hRl : R.length = m4.length := by rw [← HMe4.out, List.length_map]
                    rw [← hRl, List.take_length] at h
                    rw [h]
                    exact HPs2.out.2
                  have r1 := cell_ext HB2.out r1
                  obtain ⟨u, hu⟩ : ∃ u, u = sayO rs l := ⟨_, rfl⟩
                  rw [← hu] at HSa HSb
                  unfold SayPost at HSa HSb
                  obtain ⟨ut, hut⟩ : ∃ ut, ut = u.getD [] := ⟨_, rfl⟩
                  obtain ⟨ub, hub⟩ : ∃ ub, ub = u.isSome := ⟨_, rfl⟩
                  rw [← hut, ← hub] at HSa HSb
                  clear hu hut hub hll hm4l
                  generalize l.length = ll at *
                  have hdr := ext_drewN wr 1
                  go_upto_region 27 with fail
                  go_region_held3 (fun w' => w'.cell? ⟨K, 0, none⟩ = some (.slice A qms.length c) ∧ w'.cell? ⟨K, 1, none⟩ = some (.slice B rrs.length bc) ∧ w'.cell? ⟨lb, lo + i, none⟩ = some (.slice lA ll lc2))
                    ((first | exact ⟨r0, r1, l0⟩ | exact ⟨cell_ext hdr r0, cell_ext hdr r1, cell_ext hdr l0⟩ | exact ⟨cell_ext HBs.out r0, cell_ext HBs.out r1, cell_ext HBs.out l0⟩))
                    ((go_at_call 14; refine (HSa.out _ hdr).mono ?_; rintro e wc ⟨rfl, hb⟩; have HBs := Lib.hid (ext_trans hdr hb); clear hb))
                  have s0 := cell_ext HBs.out s0
                  have s1 := cell_ext HBs.out s1
                  have l0 := cell_ext HBs.out l0
                  have HB27 := Lib.hid HBs.out
                  have hdr2 := ext_drewN wc 1
                  go_upto_region 28 with fail
                  go_region_held3 (fun w' => w'.cell? ⟨K7, 0, none⟩ = some (.slice Q4 q4.length qc4) ∧ w'.cell? ⟨K7, 1, none⟩ = some (.slice R4 m4.length rc4) ∧ w'.cell? ⟨lb, lo + i, none⟩ = some (.slice lA ll lc2))
                    ((first | exact ⟨s0, s1, l0⟩ | exact ⟨cell_ext hdr2 s0, cell_ext hdr2 s1, cell_ext hdr2 l0⟩ | exact ⟨cell_ext HBu.out s0, cell_ext HBu.out s1, cell_ext HBu.out l0⟩))
                    ((go_at_call 14; refine (HSb.out _ (ext_trans HB27.out hdr2)).mono ?_; rintro e wd ⟨rfl, hb⟩; have HBu := Lib.hid (ext_trans hdr2 hb); clear hb))
                  have htc : ¬ (1 : Int) < (tm : Int) := by omega
                  go_wp2_with fail
                  go_roundw
                  case rel => exact ⟨i + 1, by go_num, by omega, ext_trans HBr.out (ext_trans HB2.out (ext_trans HB27.out HBu.out))⟩
                  case measure => simp [intOf]; omega
            · obtain rfl : xs.length = i := by omega
              have hci : ¬ (xs.length : Int) < xs.length := by omega
              go_wp2_with fail
              go_ret
              exact retA rfl (ext_trans HX.out HBt.out)
    · obtain ⟨ev, hev⟩ : ∃ ev, ev = errVal E V := ⟨_, rfl⟩
      have HCd := Lib.hid (show ∀ w', Below W.heap.size W w' → Calls Tryd.prog 10 #[ev, .int .i64 (V : Int)] w' (RetA true w') from fun w' hb => by
        rw [hev, HV.out]
        exact coded5V_any E _ (vcode_le _ _) w' (HE.out.below hb))
      have HP1 := Lib.hid (show ∀ w', Below w3.heap.size w3 w' → Calls Tryd.prog 7 #[.agg #[.slice QA q2.length qc, .slice RA m2.length rc]] w' (fun e w'' => e = .returned (.tuple #[.agg #[.slice none 0 0, .slice none 0 0], ev]) ∧ Below w'.heap.size w' w'') from fun w' hb => (HPa.out w' hb).mono fun e w'' h => by
        obtain ⟨hb2, h⟩ := h
        rcases h with ⟨_, h⟩ | ⟨h0, _⟩ | ⟨h0, _⟩
        · exact ⟨by rw [h, hev]; rfl, hb2⟩
        · exact absurd h0 hv
        · exact absurd h0 hv)
      have hVp : (0 : Int) < (V : Int) := by omega
      clear hev hv HPa
      refine (HP1.out w3 (Below.refl _ _)).mono ?_
      rintro e w4 ⟨rfl, hb4⟩
      have r0 := cell_ext hb4 r0
      have r1 := cell_ext hb4 r1
      obtain ⟨W5, hW5⟩ : ∃ W, W = w4.alloc (.cells (List.toArray [.slice none 0 0, .slice none 0 0]) 31) := ⟨_, rfl⟩
      obtain ⟨K5, hK5⟩ : ∃ K, K = w4.heap.size := ⟨_, rfl⟩
      have hx5 : Below w4.heap.size w4 W5 := by rw [hW5]; exact ext_alloc _ _
      have hb5 : Blk W5 K5 31 [.slice none 0 0, .slice none 0 0] := by rw [hW5, hK5]; exact Blk.new _ _ _
      have HB5 := Lib.hid (show Below W.heap.size W W5 from ext_trans HB3.out (ext_trans hb4 hx5))
      have t0 := hb5.cell 0 rfl
      have t1 := hb5.cell 1 rfl
      have r0 := cell_ext hx5 r0
      have r1 := cell_ext hx5 r1
      have HW5 := Lib.hid hW5
      have HK5 := Lib.hid hK5
      clear hb4 hx5 hb5 hW5 hK5 HP1
      go_upto_region 6 with fail
      rw [show w4.alloc (.cells #[.slice none 0 0, .slice none 0 0] 31) = W5 from HW5.out.symm, ← HK5.out]
      clear HW5 HK5
      go_wp2_with fail
      refine (HTv.out W5 HB5.out).mono ?_
      rintro e w6 ⟨rfl, hb6⟩
      have HB6 := Lib.hid (ext_trans HB5.out hb6)
      have t0 := cell_ext hb6 t0
      have t1 := cell_ext hb6 t1
      clear hb6 HTv r0 r1
      go_wp2_with fail
      refine (HCd.out w6 HB6.out).mono ?_
      rintro e w7 ⟨rfl, hb7⟩
      have HB7 := Lib.hid (ext_trans HB6.out hb7)
      have t0 := cell_ext hb7 t0
      have t1 := cell_ext hb7 t1
      clear hb7
      go_wp2_with fail
      go_ret
      exact retA rfl (ext_trans HX.out HB7.out)
end Go.Proofs.YtjfiodknjchngaaDoor.GapsParted

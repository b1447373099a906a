/- GapsFound: the law's walk. -/
import Derived.Test.YtednlkchbjpabaaDoorGqP
namespace Go.Proofs.YtednlkchbjpabaaDoor.GapsFound
open Go.RowKit Mem Nest Fk Err Gp

theorem bool_info : (Tryd.prog.info? 4).map (fun i => (i.zero, i.size, i.bytes)) = some (some (.bool false), 1, 1) := by kernel_rfl
def bools (G : List Bool) : List Value := G.map Value.bool
theorem make_bools (n : Nat) (hn : n ≤ 1000000) (w : World) : (Instr.makeSlice 47 (.int .i64 (n : Int)) (.int .i64 (n : Int))).run Tryd.prog w = .ok (.slice (some ⟨w.heap.size, 0, none⟩) n n) (w.alloc (.cells (bools (List.replicate n false)).toArray 4)) := by
  obtain ⟨i0, hi, hz0, hz1, hz2⟩ := info_parts bool_info
  have h := run_makeSlice (P := Tryd.prog) w 47 4 i0 _ Tryd.underlying47 hi hz0 .i64 .i64 n n (by omega) (by omega) (by rw [hz1]; simp; omega) (by rw [hz2]; omega) (by omega)
  rw [hz1] at h
  simp only [Int.toNat_natCast, Nat.mul_one] at h
  have e : madeCells (Value.bool false).cells n = (bools (List.replicate n false)).toArray := by
    apply Array.ext
    · simp [madeCells, bools]
    · intro j h1 h2
      simp [madeCells, bools, Value.cells, Nat.mod_one]
  rw [e] at h
  exact h
theorem bools_set (G : List Bool) (i : Nat) : (bools G).set i (.bool true) = bools (G.set i true) := by simp [bools, List.map_set]
theorem clAt_len {ns : List Nat} {rs : List Rw} {i k : Nat} {cs : List Int} (hN : ∀ r ∈ rs, r.cells.length = ns.length) (hi : i < rs.length) (hk : k < rs.length) (h : clAt ns rs i k = some cs) : cs.length = ns.length := by
  have e1 : (rAt rs i).cells.length = ns.length := by rw [rAt_get hi]; exact hN _ (List.getElem_mem hi)
  have e2 : (rAt rs k).cells.length = ns.length := by rw [rAt_get hk]; exact hN _ (List.getElem_mem hk)
  unfold clAt at h
  split at h
  · cases h
  · rw [← comm_find ns _ _ e1 e2] at h
    exact exts_len (List.mem_of_find?_eq_some h)
theorem ns_of (q2 : List QnM) : (q2.map fun q => q.ans.length) = (q2.map QnM.qn).map fun q => q.ans.length := by
  rw [List.map_map]
  rfl
def GapO (res : Option (List Int)) (w : World) (e : Ending) (w' : World) : Prop := ∃ (A' : Option Addr) (c' : Nat), e = .returned (.tuple #[.slice A' (res.getD []).length c', .bool res.isSome, .nilIface]) ∧ Rd w' A' (ints (res.getD [])) ∧ Below w.heap.size w w'
def ClashO (ns : List Nat) (rs : List Rw) (w : World) (e : Ending) (w' : World) : Prop := ∃ (a b : Int) (cs : List Int) (sm : Bool) (A' : Option Addr) (c' : Nat), e = .returned (.tuple #[.int .i64 a, .int .i64 b, .slice A' cs.length c', .bool sm, .nilIface]) ∧ ClRes ns rs a b cs sm ∧ cs.length ≤ ns.length ∧ Rd w' A' (ints cs) ∧ Below w.heap.size w w'
def IdleO (l : List Int) (w : World) (e : Ending) (w' : World) : Prop := ∃ (A' : Option Addr) (c' : Nat), e = .returned (.tuple #[.slice A' l.length c', .nilIface]) ∧ Rd w' A' (ints l) ∧ Below w.heap.size w w'
theorem gapO {res : Option (List Int)} {E : Nat → Addr} {w w' : World} {e : Ending} (h : GapPost 0 res E w e w') : GapO res w e w' := by
  obtain ⟨hb, h⟩ := h
  rcases h with ⟨h0, _⟩ | ⟨_, rfl, rfl⟩ | ⟨_, cs, A', c', rfl, rfl, hr⟩
  · exact absurd rfl h0
  · exact ⟨none, 0, rfl, Rd.nil, hb⟩
  · exact ⟨A', c', rfl, hr, hb⟩
theorem clashO {ns : List Nat} {rs : List Rw} {E : Nat → Addr} {w w' : World} {e : Ending} (hN : ∀ r ∈ rs, r.cells.length = ns.length) (h : ClashPost 0 ns rs E w e w') : ClashO ns rs w e w' := by
  obtain ⟨hb, h⟩ := h
  rcases h with ⟨h0, _⟩ | ⟨_, hn, rfl⟩ | ⟨_, i, k, cs, A', c', h1, h2, h3, h4, rfl, hr⟩
  · exact absurd rfl h0
  · exact ⟨0, 0, [], false, none, 0, rfl, .inl ⟨rfl, rfl, rfl, rfl, hn⟩, Nat.zero_le _, Rd.nil, hb⟩
  · exact ⟨i, k, cs, true, A', c', rfl, .inr ⟨rfl, i, k, rfl, rfl, h1, h2, h3, h4⟩, Nat.le_of_eq (clAt_len hN (by omega) h2 h4), hr, hb⟩
theorem idleO {l : List Int} {E : Nat → Addr} {w w' : World} {e : Ending} (h : IdlePost 0 l E w e w') : IdleO l w e w' := by
  obtain ⟨hb, h⟩ := h
  rcases h with ⟨h0, _⟩ | ⟨_, A', c', rfl, hr⟩
  · exact absurd rfl h0
  · exact ⟨A', c', rfl, hr, hb⟩
set_option maxRecDepth 100000 in
set_option maxHeartbeats 8000000 in
theorem gf_walk (E : Nat → Addr) (qms : List QnM) (A : Option Addr) (c : Nat) (rrs : List RR) (B : Option Addr) (bc : Nat) (hsm : SmallP (qms.map QnM.qn) (rrs.map rrRw)) (hal : ∀ q ∈ qms, q.ans.length ≤ 1048576 ∧ (q.A = none → q.c = 0)) (hcl : ∀ r ∈ rrs, r.cells.length ≤ 1048576 ∧ ∀ x ∈ r.cells, RcOk x)
    (w : World) (hE : Errs w E) (hq : QsP w A qms) (hr : RawR w B rrs) (hri : ∀ r ∈ rrs, ∀ x ∈ r.cells, Rd w x.A (ints x.l)) :
    Calls Tryd.prog 3 #[.agg #[.slice A qms.length c, .slice B rrs.length bc]] w (RetA true w) := by
  have hql : qms.length ≤ 1048576 := by have := hsm.ql; rwa [List.length_map] at this
  have hrl : rrs.length ≤ 1048576 := by have := hsm.rl; rwa [List.length_map] at this
  have hbk := Blk.new w 25 [.slice A qms.length c, .slice B rrs.length bc]
  have hx := ext_alloc w (.cells (List.toArray [.slice A qms.length c, .slice B rrs.length bc]) 25)
  obtain ⟨W, hW⟩ : ∃ W, W = w.alloc (.cells (List.toArray [.slice A qms.length c, .slice B rrs.length bc]) 25) := ⟨_, rfl⟩
  obtain ⟨K, hK⟩ : ∃ K, K = w.heap.size := ⟨_, rfl⟩
  rw [← hW] at hx hbk
  rw [← hK] at hbk
  have HX := Lib.hid hx
  have HE := Lib.hid (hE.below hx)
  have HQ := Lib.hid (hq.ext hx)
  have HR := Lib.hid (hr.ext hx)
  have HRi := Lib.hid (fun r h x h2 => (hri r h x h2).ext hx)
  have HS := Lib.hid hsm
  have HAl := Lib.hid hal
  have HCl := Lib.hid hcl
  have HW := Lib.hid hW
  have HK := Lib.hid hK
  have r0 := hbk.cell 0 rfl
  have r1 := hbk.cell 1 rfl
  have HG := Lib.hid (gapped_any E W HE.out)
  have HFe := Lib.hid (fun w' (hb : Below W.heap.size W w') => fewcells_any qms A c rrs B bc hql hrl (fun q h => (hal q h).1) (fun r h => (hcl r h).1) w' (HQ.out.ext hb) (HR.out.ext hb))
  have HTb := Lib.hid (fun w' (hb : Below W.heap.size W w') => table_any qms A c rrs B bc hql hrl hal hcl w' (HQ.out.ext hb) (HR.out.ext hb) (fun r h x h2 => (HRi.out r h x h2).ext hb))
  obtain ⟨V, hV⟩ : ∃ V, V = vcode (qms.map QnM.qn) (rrs.map rrRw) := ⟨_, rfl⟩
  have HV := Lib.hid hV
  obtain ⟨ns, hns⟩ : ∃ ns, ns = qms.map fun q => q.ans.length := ⟨_, rfl⟩
  have HNs := Lib.hid hns
  obtain ⟨rs, hrs⟩ : ∃ rs, rs = rrs.map rrRw := ⟨_, rfl⟩
  have HRs := Lib.hid hrs
  clear hbk hx hW hK hE hq hr hri hsm hal hcl hV hns hrs
  go_enter Tryd.func3, Tryd.ntmps3
  go_upto_region 1 with fail
  rw [show w.alloc (.cells #[.slice A qms.length c, .slice B rrs.length bc] 25) = W from HW.out.symm, ← HK.out]
  clear HW
  go_wp2_with fail
  refine HG.out.mono ?_
  rintro e w1 ⟨rfl, hb1⟩
  have HB1 := Lib.hid hb1
  have r0 := cell_ext hb1 r0
  have r1 := cell_ext hb1 r1
  clear hb1 HG
  go_wp2_with fail
  refine (HFe.out w1 HB1.out).mono ?_
  rintro e w2 ⟨few, rfl, hfw, hb2⟩
  have HB2 := Lib.hid (ext_trans HB1.out hb2)
  have HFw := Lib.hid hfw
  have r0 := cell_ext hb2 r0
  have r1 := cell_ext hb2 r1
  clear hb2 hfw HFe
  cases few with
  | false =>
    go_wp2_with fail
    go_ret
    exact retA rfl (ext_trans HX.out HB2.out)
  | true =>
    have HDr := Lib.hid (fun (w' : World) (hb : Below W.heap.size W w') => drows_of (HR.out.ext hb) (fun r h x h2 => (HRi.out r h x h2).ext hb) HCl.out (HFw.out rfl))
    have HTv := Lib.hid (show ∀ w', Below W.heap.size W w' → Calls Tryd.prog 10 #[.agg #[.slice A qms.length c, .slice B rrs.length bc]] w' (RetI (V : Int) w') from fun w' hb => by
      have h := tvalid_any qms A c (rrs.map rrM) B bc (HS.out.small rfl (rrM_rw rrs)) w' (HQ.out.ext hb) (HDr.out w' hb)
      rw [rrM_rw, List.length_map, ← HV.out] at h
      exact h)
    go_wp2_with fail
    refine (HTb.out w2 HB2.out).mono ?_
    rintro e w3 ⟨q2, QA, qc, m2, RA, rc, rfl, hq2, hm2, hQ2, hR2, hcp, hb3⟩
    have HB3 := Lib.hid (ext_trans HB2.out hb3)
    have HQ2 := Lib.hid hQ2
    have HR2 := Lib.hid hR2
    have HCp := Lib.hid hcp
    have HQe := Lib.hid hq2
    have HMe := Lib.hid hm2
    have r0 := cell_ext hb3 r0
    have r1 := cell_ext hb3 r1
    clear hb3 hQ2 hR2 hcp hq2 hm2 HTb
    have HQn := Lib.hid (show (q2.map fun q => q.ans.length) = ns by rw [ns_of, HQe.out, ← ns_of, HNs.out])
    have HVl := Lib.hid (show ∀ w', Below w3.heap.size w3 w' → Calls Tryd.prog 14 #[.agg #[.slice QA q2.length qc, .slice RA m2.length rc]] w' (ValidPost E V w') from fun w' hb => by
      have h := pvalid_any E q2 QA qc m2 RA rc (HS.out.small HQe.out HMe.out) HCp.out w' (HE.out.below (ext_trans HB3.out hb)) (HQ2.out.ext hb) (HR2.out.ext hb)
      rw [HQe.out, HMe.out, ← HV.out] at h
      exact h)
    have HVs := Lib.hid (show vcode (q2.map QnM.qn) (m2.map RwM.rw) = V by rw [HQe.out, HMe.out, HV.out])
    obtain ⟨res, hres⟩ : ∃ res, res = (exts ns).find? fun c => (saysF rs c).isNone := ⟨_, rfl⟩
    have HRes := Lib.hid hres
    have HGp := Lib.hid (show ∀ w', Below w3.heap.size w3 w' → Calls Tryd.prog 11 #[.agg #[.slice QA q2.length qc, .slice RA m2.length rc]] w' (GapPost V res E w') from fun w' hb => by
      have h := gap_any E q2 QA qc m2 RA rc w' (HQ2.out.ext hb) (HR2.out.ext hb) (fun w'' hb2 => by rw [HVs.out]; exact HVl.out w'' (ext_trans hb hb2)) res (by rw [HQn.out, HMe.out, ← HRs.out]; exact hres)
      rw [HVs.out] at h
      exact h)
    have HCp2 := Lib.hid (show ∀ w', Below w3.heap.size w3 w' → Calls Tryd.prog 12 #[.agg #[.slice QA q2.length qc, .slice RA m2.length rc]] w' (ClashPost V ns rs E w') from fun w' hb => by
      have h := clash_any E q2 QA qc m2 RA rc w' (HQ2.out.ext hb) (HR2.out.ext hb) (fun w'' hb2 => by rw [HVs.out]; exact HVl.out w'' (ext_trans hb hb2))
      rw [HVs.out, HQn.out, HMe.out, ← HRs.out] at h
      exact h)
    have HRl := Lib.hid (show rs.length = rrs.length by rw [HRs.out, List.length_map])
    obtain ⟨il, hil⟩ : ∃ il, il = idleTo ns rs rs.length := ⟨_, rfl⟩
    have HIl := Lib.hid hil
    have HIp := Lib.hid (show ∀ w', Below w3.heap.size w3 w' → Calls Tryd.prog 13 #[.agg #[.slice QA q2.length qc, .slice RA m2.length rc]] w' (IdlePost V il E w') from fun w' hb => by
      have hml : m2.length = rs.length := by
        have := congrArg List.length HMe.out
        rw [List.length_map] at this
        rw [this, ← HRs.out]
      have h := idle_any E q2 QA qc m2 RA rc w' (HQ2.out.ext hb) (HR2.out.ext hb) (fun w'' hb2 => by rw [HVs.out]; exact HVl.out w'' (ext_trans hb hb2)) il (by rw [HQn.out, HMe.out, ← HRs.out, hml]; exact hil)
      rw [HVs.out] at h
      exact h)
    obtain ⟨W4, hW4⟩ : ∃ W, W = w3.alloc (.cells (List.toArray [.slice QA q2.length qc, .slice RA m2.length rc]) 31) := ⟨_, rfl⟩
    obtain ⟨K4, hK4⟩ : ∃ K, K = w3.heap.size := ⟨_, rfl⟩
    have hx4 : Below w3.heap.size w3 W4 := by rw [hW4]; exact ext_alloc _ _
    have hbk4 : Blk W4 K4 31 [.slice QA q2.length qc, .slice RA m2.length rc] := by rw [hW4, hK4]; exact Blk.new _ _ _
    have HW4 := Lib.hid hW4
    have HK4 := Lib.hid hK4
    have HX4 := Lib.hid hx4
    have t0 := hbk4.cell 0 rfl
    have t1 := hbk4.cell 1 rfl
    have r0 := cell_ext hx4 r0
    have r1 := cell_ext hx4 r1
    clear hres hil hW4 hK4 hx4 hbk4
    go_upto_region 6 with fail
    rw [show w3.alloc (.cells #[.slice QA q2.length qc, .slice RA m2.length rc] 31) = W4 from HW4.out.symm, ← HK4.out]
    clear HW4 HK4
    go_wp2_with fail
    refine (HTv.out W4 (ext_trans HB3.out HX4.out)).mono ?_
    rintro e w5 ⟨rfl, hb5⟩
    have HB5 := Lib.hid (ext_trans HX4.out hb5)
    have t0 := cell_ext hb5 t0
    have t1 := cell_ext hb5 t1
    have r0 := cell_ext hb5 r0
    have r1 := cell_ext hb5 r1
    clear hb5 HTv
    by_cases hv : V = 0
    · subst hv
      rw [show ((0 : Nat) : Int) = 0 from rfl]
      have hvt := valid_of HV.out.symm
      have hq12 : qms.length ≤ 12 := by have := hvt.q12; rwa [List.length_map] at this
      have hr60 : rrs.length ≤ 60 := by have := hvt.r60; rwa [List.length_map] at this
      have HA12 := Lib.hid (show ∀ q ∈ qms, q.ans.length ≤ 1000 from fun q hq => Nat.le_trans (hvt.a12 q.qn (List.mem_map.2 ⟨q, hq, rfl⟩)) (by omega))
      have HN1 := Lib.hid (show ∀ n ∈ ns, 1 ≤ n from fun n hn => by
        rw [HNs.out] at hn
        obtain ⟨q, hq, rfl⟩ := List.mem_map.1 hn
        exact hvt.a1 q.qn (List.mem_map.2 ⟨q, hq, rfl⟩))
      have HNl := Lib.hid (show ns.length = qms.length by rw [HNs.out, List.length_map])
      have HCn := Lib.hid (show ∀ r ∈ rs, r.cells.length = ns.length from fun r hr => by
        rw [HNl.out]
        rw [HRs.out] at hr
        have := hvt.cl r hr
        rwa [List.length_map] at this)
      have HG1 := Lib.hid (fun w' hb => (HGp.out w' hb).mono fun e w'' h => gapO h)
      have HC1 := Lib.hid (fun w' hb => (HCp2.out w' hb).mono fun e w'' h => clashO HCn.out h)
      have HI1 := Lib.hid (fun w' hb => (HIp.out w' hb).mono fun e w'' h => idleO h)
      have HV1 := Lib.hid (show ∀ w', Below w3.heap.size w3 w' → Calls Tryd.prog 14 #[.agg #[.slice QA q2.length qc, .slice RA m2.length rc]] w' (fun e w'' => e = .returned .nilIface ∧ Below w'.heap.size w' w'') from fun w' hb => (HVl.out w' hb).mono fun e w'' h => ⟨h.1, h.2⟩)
      have hr60m : (rrs.map rrM).length ≤ 1048576 := by rw [List.length_map]; exact hrl
      have HSy := Lib.hid (fun (X : LM) (hX : X.l.length = ns.length) (w' : World) (hb : Below W.heap.size W w') (hc : Rd w' X.A (ints X.l)) => show Calls Tryd.prog 17 #[.agg #[.slice A qms.length c, .slice B rrs.length bc], .slice X.A X.l.length X.c] w' (RetI (idxI (saysF rs X.l)) w') from by
        have h := saysof_any (.slice A qms.length c) (rrs.map rrM) B bc X.l X.A X.c (fun r hr => by
          rw [hX]
          have h1 : r.rw ∈ rs := by rw [HRs.out, ← rrM_rw]; exact List.mem_map.2 ⟨r, hr, rfl⟩
          have h2 := HCn.out _ h1
          unfold RwM.rw at h2
          rw [List.length_map] at h2
          omega) hr60m (by rw [hX, HNl.out]; omega) w' (HDr.out w' hb) hc
        rw [rrM_rw, List.length_map, ← HRs.out] at h
        exact h)
      have HCo := Lib.hid (fun (w' : World) (hb : Below W.heap.size W w') => show Calls Tryd.prog 16 #[.agg #[.slice A qms.length c, .slice B rrs.length bc], .int .i64 600] w' (CasesPost (casesF 600 ns) w') from by
        have h := casesof_any (.slice B rrs.length bc) qms A c 600 (by omega) (by omega) HA12.out w' (HQ.out.ext hb)
        rw [← HNs.out] at h
        exact h)
      obtain ⟨gs, hgs⟩ : ∃ gs, gs = res.getD [] := ⟨_, rfl⟩
      obtain ⟨gb, hgb⟩ : ∃ gb, gb = res.isSome := ⟨_, rfl⟩
      unfold GapO at HG1
      rw [← hgs, ← hgb] at HG1
      have HGs := Lib.hid hgs
      have HGb := Lib.hid hgb
      clear hvt HGp HCp2 HIp HVl hr60m hgs hgb
      go_wp2_with fail
      refine (HG1.out w5 HB5.out).mono ?_
      rintro e w6 ⟨GA, gc, rfl, hgr, hb6⟩
      have HB6 := Lib.hid (ext_trans HB5.out hb6)
      have HGr := Lib.hid hgr
      have t0 := cell_ext hb6 t0
      have t1 := cell_ext hb6 t1
      have r0 := cell_ext hb6 r0
      have r1 := cell_ext hb6 r1
      clear hb6 hgr HG1
      go_wp2_with fail
      refine (HC1.out w6 HB6.out).mono ?_
      rintro e w7 ⟨ca, cb, ccs, csm, CA, ccc, rfl, hcr, hcle, hcd, hb7⟩
      have HB7 := Lib.hid (ext_trans HB6.out hb7)
      have HCr := Lib.hid hcr
      have HCd := Lib.hid hcd
      have HGr := Lib.hid (HGr.out.ext hb7)
      have hcle2 : ccs.length ≤ 12 := by have := HNl.out; omega
      have t0 := cell_ext hb7 t0
      have t1 := cell_ext hb7 t1
      have r0 := cell_ext hb7 r0
      have r1 := cell_ext hb7 r1
      clear hb7 hcr hcd HC1 hcle
      go_wp2_with fail
      refine (HI1.out w7 HB7.out).mono ?_
      rintro e w8 ⟨IA, ic, rfl, hir, hb8⟩
      have HB8 := Lib.hid (ext_trans HB7.out hb8)
      have HIr := Lib.hid hir
      have HGr := Lib.hid (HGr.out.ext hb8)
      have HCd := Lib.hid (HCd.out.ext hb8)
      have t0 := cell_ext hb8 t0
      have t1 := cell_ext hb8 t1
      have r0 := cell_ext hb8 r0
      have r1 := cell_ext hb8 r1
      clear hb8 hir HI1
      go_wp2_with fail
      refine (HV1.out w8 HB8.out).mono ?_
      rintro e w9 ⟨rfl, hb9⟩
      have HB9 := Lib.hid (ext_trans HB3.out (ext_trans HB8.out hb9))
      have HGr := Lib.hid (HGr.out.ext hb9)
      have HCd := Lib.hid (HCd.out.ext hb9)
      have HIr := Lib.hid (HIr.out.ext hb9)
      have r0 := cell_ext hb9 r0
      have r1 := cell_ext hb9 r1
      clear hb9 HV1 t0 t1
      go_wp2_with fail
      refine (HCo.out w9 HB9.out).mono ?_
      rintro e wa ⟨LA, lc, xs, rfl, hxs, hL, hba⟩
      have HBa := Lib.hid (ext_trans HB9.out hba)
      have HXs := Lib.hid hxs
      have HL := Lib.hid hL
      have HGr := Lib.hid (HGr.out.ext hba)
      have HCd := Lib.hid (HCd.out.ext hba)
      have HIr := Lib.hid (HIr.out.ext hba)
      have r0 := cell_ext hba r0
      have r1 := cell_ext hba r1
      clear hba hxs hL HCo
      by_cases h6 : 600 < xs.length
      · have h6c : (600 : Int) < xs.length := by omega
        go_wp2_with fail
        go_ret
        exact retA rfl (ext_trans HX.out HBa.out)
      · have h6c : ¬ (600 : Int) < xs.length := by omega
        have HXe := Lib.hid (show xs.map LM.l = exts ns by
          rw [HXs.out]
          refine casesF_small 600 ns HN1.out ?_
          rw [← HXs.out, List.length_map]
          omega)
        have HXl := Lib.hid (show ∀ x ∈ xs, x.l.length = ns.length from fun x h => exts_len (by rw [← HXe.out]; exact List.mem_map.2 ⟨x, h, rfl⟩))
        have hmk := make_bools rrs.length (by omega)
        obtain ⟨wb, hwb⟩ : ∃ wb, wb = wa.alloc (.cells (bools (List.replicate rrs.length false)).toArray 4) := ⟨_, rfl⟩
        obtain ⟨Kb, hKb⟩ : ∃ Kb, Kb = wa.heap.size := ⟨_, rfl⟩
        have HWb := Lib.hid hwb
        have HKb := Lib.hid hKb
        have hbb : Blk wb Kb 4 (bools (List.replicate rrs.length false)) := by rw [hwb, hKb]; exact Blk.new _ _ _
        have HBb := Lib.hid hbb
        have HXb := Lib.hid (show Below wa.heap.size wa wb by rw [hwb]; exact ext_alloc _ _)
        clear hwb hKb hbb
        go_upto_region 20 with fail
        rw [show wa.alloc (.cells (bools (List.replicate rrs.length false)).toArray 4) = wb from HWb.out.symm, ← HKb.out]
        clear HWb hmk
        go_wp2_with fail
        have HLa := Lib.hid (show ∀ (w' : World), Below wa.heap.size wa w' → LRows w' LA xs from fun w' hb => HL.out.ext hb)
        have HKl := Lib.hid (show Kb = wa.heap.size from HKb.out)
        have hUl : ∀ us : List Bool, UsedR rs xs xs.length us → True := fun _ _ => trivial
        clear hUl
        go_loopw [21, 23] (fun t21 t23 wr => ∃ (j : Nat) (g z : Int) (us : List Bool), t21 = .int .i64 g ∧ t23 = .int .i64 z ∧ Hid (z + 1 = (j : Int)) ∧ j ≤ xs.length ∧ Hid (GapR rs xs j g) ∧ Hid (UsedR rs xs j us) ∧ Hid (Blk wr Kb 4 (bools us)) ∧ Hid (Below wa.heap.size wa wr)) (fun _ t23 _ => (intOf t23 + 1).toNat)
        case atStart => exact ⟨xs.length, -1, _, List.replicate rrs.length false, rfl, rfl, (show ((xs.length : Int) - 1) + 1 = (xs.length : Int) by omega), Nat.le_refl _, GapR.start rs xs, (show UsedR rs xs xs.length (List.replicate rrs.length false) by rw [← HRl.out]; exact UsedR.start rs xs), HBb.out, HXb.out⟩
        case round =>
          clear HBb HXb
          obtain ⟨j, g, z, us, rfl, rfl, HZ, hj, HGa, HUs, HBb, HXb⟩ := hrel
          have r0 := cell_ext HXb.out r0
          have r1 := cell_ext HXb.out r1
          have HBr := Lib.hid (ext_trans HBa.out HXb.out)
          by_cases hj0 : j = 0
          · obtain rfl : z = -1 := by have := HZ.out; omega
            subst hj0
            clear HZ
            obtain ⟨V9, hV9⟩ : ∃ V9, V9 = wr := ⟨_, rfl⟩
            rw [← hV9] at r0 r1 HBb HXb HBr ⊢
            clear hV9 wr
            have HUl := Lib.hid HUs.out.1
            have HSa := Lib.hid (fun (w' : World) (hb : Below V9.heap.size V9 w') => clashes_any (.slice A qms.length c) (rrs.map rrM) B bc xs LA lc ca cb ccs CA ccc csm ns rs (by rw [rrM_rw, HRs.out]) HXe.out HCn.out (by rw [List.length_map]; exact hr60) (by have := HNl.out; omega) (by omega) (by omega) HCr.out w' (HDr.out w' (ext_trans HBr.out hb)) (HLa.out w' (ext_trans HXb.out hb)) (HCd.out.ext (ext_trans HXb.out hb)))
            rw [List.length_map] at HSa
            have HEnd := Lib.hid (ext_trans HX.out HBr.out)
            have HIl2 := Lib.hid (show wantTo us rrs.length = il by rw [← HRl.out, UsedR.want HUs.out HXe.out rs.length (Nat.le_refl _), HIl.out])
            have HIr2 := Lib.hid (HIr.out.ext HXb.out)
            have hilen : il.length ≤ 60 := by
              rw [← HIl2.out]
              exact Nat.le_trans (wantTo_len us rrs.length) hr60
            rcases HGa.out.res HXe.out with ⟨hg, hn⟩ | ⟨m, hm, hg, hn⟩
            · obtain rfl : res = none := by rw [HRes.out]; exact hn
              obtain rfl : gs = [] := HGs.out
              obtain rfl : gb = false := HGb.out
              subst hg
              have HBv := Lib.hid (Below.refl V9.heap.size V9)
              have HBx := HBb
              have s0 := r0
              have s1 := r1
              rw [List.length_nil]
              clear hn
              clear HSy HGa HUs HDr
              go_wp2_with fail
              obtain ⟨i0, hi, hz0, hz1, hz2⟩ := info_parts int_info
              have HI := Lib.hid hi
              have HZ0 := Lib.hid hz0
              have HZ1 := Lib.hid hz1
              have HZ2 := Lib.hid hz2
              clear hi hz0 hz1 hz2
              go_loopw [25, 26] (fun t25 t26 wr => ∃ (i : Nat) (v : Value) (l : List Int), v = t25 ∧ t26 = .int .i64 i ∧ i ≤ rrs.length ∧ Hid (l = wantTo us i) ∧ Hid (wr.ownsRow V9.heap.size 3 1 v l.length (ints l)) ∧ Hid (Below V9.heap.size V9 wr)) (fun _ t26 _ => rrs.length - (intOf t26).toNat)
              case atStart => exact ⟨0, _, [], rfl, rfl, by omega, rfl, World.ownsRow_nil _ _ _ _, Below.refl _ _⟩
              case round =>
                obtain ⟨i, v, l, rfl, rfl, hi, HLl, HOw, HBw⟩ := hrel
                have HBl := Lib.hid (blk_ext5 HBx.out HBw.out)
                by_cases hlt : i < rrs.length
                · have hcl : (i : Int) < rrs.length := by omega
                  have hiu : i < us.length := by have := HUl.out; have := HRl.out; omega
                  have b0 := HBl.out.cell i (u := .bool us[i]) (by simp [bools, hiu])
                  have HUi := Lib.hid (show us[i]?.getD false = us[i] by rw [List.getElem?_eq_getElem hiu]; rfl)
                  have hllen : l.length ≤ 60 := by rw [HLl.out]; have := wantTo_len us i; omega
                  generalize us[i] = u at *
                  cases u with
                  | true =>
                    have HE1 := Lib.hid (show l = wantTo us (i + 1) by rw [wantTo, HUi.out, if_pos rfl]; exact HLl.out)
                    go_wp2_with fail
                    go_roundw
                    case rel => exact ⟨i + 1, v, l, rfl, by go_num, by omega, HE1.out, HOw.out, HBw.out⟩
                    case measure => simp [intOf]; omega
                  | false =>
                    have HE1 := Lib.hid (show l ++ [(i : Int)] = wantTo us (i + 1) by rw [wantTo, HUi.out, if_neg (by simp), HLl.out])
                    have hszw : V9.heap.size ≤ wr.heap.size := HBw.out.size
                    go_wp2_with (at_builtin; refine wpList_append_own _ rfl _ _ _ rfl V9.heap.size 3 i0 _ 1 8 Tryd.underlying34 HI.out HZ0.out HZ1.out HZ2.out rfl (by omega) v l.length (ints l) rfl (World.ownsRow.alloc HOw.out _) ⟨wr.heap.size, 0, none⟩ 1 1 [.int .i64 (i : Int)] rfl rfl (new_cells wr [.int .i64 (i : Int)] _ _ rfl) (by intro u hu; simp only [List.mem_cons, List.not_mem_nil, or_false] at hu; rcases hu with rfl; rfl) (by unfold maxLen; omega) (by omega) (by simp; omega) ?_; intro v4 w4 hown4 hg4 _; have HO4 := Lib.hid hown4; have HG4 := Lib.hid hg4; clear hown4 hg4)
                    go_roundw
                    case rel => exact ⟨i + 1, v4, l ++ [(i : Int)], rfl, by go_num, by omega, HE1.out, (show w4.ownsRow V9.heap.size 3 1 v4 (l ++ [(i : Int)]).length (ints (l ++ [(i : Int)])) by rw [ints_snoc, List.length_append]; exact HO4.out),
                      (HBw.out.alloc hszw _).grown HG4.out (by simp; omega) (fun g hg => (HOw.out.lt g hg).1)⟩
                    case measure => simp [intOf]; omega
                · obtain rfl : rrs.length = i := by omega
                  have hcl : ¬ (rrs.length : Int) < rrs.length := by omega
                  obtain rfl : l = il := by rw [HLl.out]; exact HIl2.out
                  obtain ⟨WA, wcp, rfl, _, _⟩ := own_slice HOw.out
                  have HSm := Lib.hid (show Calls Tryd.prog 18 #[.slice IA l.length ic, .slice WA l.length wcp] wr (RetA true wr) from by
                    have h := same5_any l l IA WA ic wcp wr (HIr2.out.ext (ext_trans HBv.out HBw.out)) (Rd.of_own HOw.out) (by omega) (by omega)
                    rw [show (true : Bool) = (l == l) by simp]
                    exact h)
                  have s0 := cell_ext HBw.out s0
                  have s1 := cell_ext HBw.out s1
                  go_wp2_with fail
                  refine HSm.out.mono ?_
                  rintro e wy ⟨rfl, hby⟩
                  have HBy := Lib.hid (ext_trans HBw.out hby)
                  have s0 := cell_ext hby s0
                  have s1 := cell_ext hby s1
                  clear hby HSm
                  go_wp2_with fail
                  refine (HSa.out wy (ext_trans HBv.out HBy.out)).mono ?_
                  rintro e wz ⟨rfl, hbz⟩
                  have HBz := Lib.hid (ext_trans HBy.out hbz)
                  clear hbz
                  go_wp2_with fail
                  go_ret
                  exact retA rfl (ext_trans HEnd.out (ext_trans HBv.out HBz.out))
            · obtain rfl : res = some xs[m].l := by rw [HRes.out]; exact hn
              obtain rfl : gs = xs[m].l := HGs.out
              obtain rfl : gb = true := HGb.out
              subst hg
              have hmc : (m : Int) < xs.length := by omega
              have hm0 : (0 : Int) ≤ (m : Int) := by omega
              obtain ⟨lb, lo, hLA, l0⟩ := (HLa.out V9 HXb.out).at hm
              subst hLA
              have HGq := Lib.hid (show Calls Tryd.prog 18 #[.slice GA xs[m].l.length gc, .slice xs[m].A xs[m].l.length xs[m].c] V9 (RetA true V9) from by
                have hll : xs[m].l.length ≤ 1048576 := by rw [HXl.out _ (List.getElem_mem hm), HNl.out]; omega
                have h := same5_any xs[m].l xs[m].l GA xs[m].A gc xs[m].c V9 (HGr.out.ext HXb.out) ((HLa.out V9 HXb.out).ints _ (List.getElem_mem hm)) hll hll
                rw [show (true : Bool) = (xs[m].l == xs[m].l) by simp]
                exact h)
              clear hn
              generalize xs[m] = X at *
              obtain ⟨xl, xA, xc⟩ := X
              simp only at l0 HGq
              generalize xl.length = gl at *
              go_wp2_with fail
              refine HGq.out.mono ?_
              rintro e V8 ⟨rfl, hb8⟩
              have HBv := Lib.hid hb8
              have HBx := Lib.hid (blk_ext5 HBb.out hb8)
              have s0 := cell_ext hb8 r0
              have s1 := cell_ext hb8 r1
              clear hb8 HGq l0
              clear HSy HGa HUs HDr
              go_wp2_with fail
              obtain ⟨i0, hi, hz0, hz1, hz2⟩ := info_parts int_info
              have HI := Lib.hid hi
              have HZ0 := Lib.hid hz0
              have HZ1 := Lib.hid hz1
              have HZ2 := Lib.hid hz2
              clear hi hz0 hz1 hz2
              go_loopw [25, 26] (fun t25 t26 wr => ∃ (i : Nat) (v : Value) (l : List Int), v = t25 ∧ t26 = .int .i64 i ∧ i ≤ rrs.length ∧ Hid (l = wantTo us i) ∧ Hid (wr.ownsRow V8.heap.size 3 1 v l.length (ints l)) ∧ Hid (Below V8.heap.size V8 wr)) (fun _ t26 _ => rrs.length - (intOf t26).toNat)
              case atStart => exact ⟨0, _, [], rfl, rfl, by omega, rfl, World.ownsRow_nil _ _ _ _, Below.refl _ _⟩
              case round =>
                obtain ⟨i, v, l, rfl, rfl, hi, HLl, HOw, HBw⟩ := hrel
                have HBl := Lib.hid (blk_ext5 HBx.out HBw.out)
                by_cases hlt : i < rrs.length
                · have hcl : (i : Int) < rrs.length := by omega
                  have hiu : i < us.length := by have := HUl.out; have := HRl.out; omega
                  have b0 := HBl.out.cell i (u := .bool us[i]) (by simp [bools, hiu])
                  have HUi := Lib.hid (show us[i]?.getD false = us[i] by rw [List.getElem?_eq_getElem hiu]; rfl)
                  have hllen : l.length ≤ 60 := by rw [HLl.out]; have := wantTo_len us i; omega
                  generalize us[i] = u at *
                  cases u with
                  | true =>
                    have HE1 := Lib.hid (show l = wantTo us (i + 1) by rw [wantTo, HUi.out, if_pos rfl]; exact HLl.out)
                    go_wp2_with fail
                    go_roundw
                    case rel => exact ⟨i + 1, v, l, rfl, by go_num, by omega, HE1.out, HOw.out, HBw.out⟩
                    case measure => simp [intOf]; omega
                  | false =>
                    have HE1 := Lib.hid (show l ++ [(i : Int)] = wantTo us (i + 1) by rw [wantTo, HUi.out, if_neg (by simp), HLl.out])
                    have hszw : V8.heap.size ≤ wr.heap.size := HBw.out.size
                    go_wp2_with (at_builtin; refine wpList_append_own _ rfl _ _ _ rfl V8.heap.size 3 i0 _ 1 8 Tryd.underlying34 HI.out HZ0.out HZ1.out HZ2.out rfl (by omega) v l.length (ints l) rfl (World.ownsRow.alloc HOw.out _) ⟨wr.heap.size, 0, none⟩ 1 1 [.int .i64 (i : Int)] rfl rfl (new_cells wr [.int .i64 (i : Int)] _ _ rfl) (by intro u hu; simp only [List.mem_cons, List.not_mem_nil, or_false] at hu; rcases hu with rfl; rfl) (by unfold maxLen; omega) (by omega) (by simp; omega) ?_; intro v4 w4 hown4 hg4 _; have HO4 := Lib.hid hown4; have HG4 := Lib.hid hg4; clear hown4 hg4)
                    go_roundw
                    case rel => exact ⟨i + 1, v4, l ++ [(i : Int)], rfl, by go_num, by omega, HE1.out, (show w4.ownsRow V8.heap.size 3 1 v4 (l ++ [(i : Int)]).length (ints (l ++ [(i : Int)])) by rw [ints_snoc, List.length_append]; exact HO4.out),
                      (HBw.out.alloc hszw _).grown HG4.out (by simp; omega) (fun g hg => (HOw.out.lt g hg).1)⟩
                    case measure => simp [intOf]; omega
                · obtain rfl : rrs.length = i := by omega
                  have hcl : ¬ (rrs.length : Int) < rrs.length := by omega
                  obtain rfl : l = il := by rw [HLl.out]; exact HIl2.out
                  obtain ⟨WA, wcp, rfl, _, _⟩ := own_slice HOw.out
                  have HSm := Lib.hid (show Calls Tryd.prog 18 #[.slice IA l.length ic, .slice WA l.length wcp] wr (RetA true wr) from by
                    have h := same5_any l l IA WA ic wcp wr (HIr2.out.ext (ext_trans HBv.out HBw.out)) (Rd.of_own HOw.out) (by omega) (by omega)
                    rw [show (true : Bool) = (l == l) by simp]
                    exact h)
                  have s0 := cell_ext HBw.out s0
                  have s1 := cell_ext HBw.out s1
                  go_wp2_with fail
                  refine HSm.out.mono ?_
                  rintro e wy ⟨rfl, hby⟩
                  have HBy := Lib.hid (ext_trans HBw.out hby)
                  have s0 := cell_ext hby s0
                  have s1 := cell_ext hby s1
                  clear hby HSm
                  go_wp2_with fail
                  refine (HSa.out wy (ext_trans HBv.out HBy.out)).mono ?_
                  rintro e wz ⟨rfl, hbz⟩
                  have HBz := Lib.hid (ext_trans HBy.out hbz)
                  clear hbz
                  go_wp2_with fail
                  go_ret
                  exact retA rfl (ext_trans HEnd.out (ext_trans HBv.out HBz.out))
          · obtain ⟨m, rfl⟩ : ∃ m, j = m + 1 := ⟨j - 1, by omega⟩
            obtain rfl : z = (m : Int) := by have := HZ.out; omega
            have hm : m < xs.length := by omega
            have hmc : (m : Int) < xs.length := by omega
            have hm0 : (0 : Int) ≤ (m : Int) := by omega
            obtain ⟨lb, lo, hLA, l0⟩ := (HLa.out wr HXb.out).at hm
            subst hLA
            have HIn := Lib.hid ((HLa.out wr HXb.out).ints _ (List.getElem_mem hm))
            have HCs := Lib.hid (fun (w' : World) (hb : Below wr.heap.size wr w') => HSy.out xs[m] (HXl.out _ (List.getElem_mem hm)) w' (ext_trans HBr.out hb) (HIn.out.ext hb))
            obtain ⟨f, hf⟩ : ∃ f, f = saysF rs xs[m].l := ⟨_, rfl⟩
            rw [← hf] at HCs
            have HF := Lib.hid hf
            have HG0 := Lib.hid (show f = none → GapR rs xs m (m : Int) from fun h => GapR.put0 HGa.out hm (by rw [← hf, h]))
            have HU0 := Lib.hid (show f = none → UsedR rs xs m us from fun h => UsedR.put0 HUs.out hm (by rw [← hf, h]))
            have HG1 := Lib.hid (show ∀ n, f = some n → GapR rs xs m g from fun n h => GapR.putk HGa.out hm (by rw [← hf]; exact h))
            have HU1 := Lib.hid (show ∀ n, f = some n → UsedR rs xs m (us.set n true) from fun n h => UsedR.putk HUs.out hm (by rw [← hf]; exact h))
            have HLt := Lib.hid (show ∀ n, f = some n → n < us.length from fun n h => by rw [HUs.out.1]; exact says_lt (c := xs[m].l) (by rw [← hf]; exact h))
            have hul : us.length = rrs.length := by rw [HUs.out.1, HRl.out]
            have HUle := Lib.hid hul
            clear hf hul hj0 hj
            generalize xs[m] = X at *
            obtain ⟨l, lA, lc2⟩ := X
            simp only at l0 HIn HCs
            generalize l.length = ll at *
            have hdr := ext_drewN wr 1
            go_upto_region 23 with fail
            go_region_held3 (fun w' => w'.cell? ⟨K, 0, none⟩ = some (.slice A qms.length c) ∧ w'.cell? ⟨K, 1, none⟩ = some (.slice B rrs.length bc) ∧ w'.cell? ⟨lb, lo + m, none⟩ = some (.slice lA ll lc2))
              ((first | exact ⟨r0, r1, l0⟩ | exact ⟨cell_ext hdr r0, cell_ext hdr r1, cell_ext hdr l0⟩ | exact ⟨cell_ext HBs.out r0, cell_ext HBs.out r1, cell_ext HBs.out l0⟩))
              ((go_at_call 17; refine (HCs.out _ hdr).mono ?_; rintro e wc ⟨rfl, hb⟩; have HBs := Lib.hid (ext_trans hdr hb); clear hb))
            have HBt := Lib.hid (ext_trans HXb.out HBs.out)
            have HBk := Lib.hid (blk_ext5 HBb.out HBs.out)
            clear r0 r1 l0 hdr HBs HCs
            cases f with
            | none =>
              unfold idxI
              go_wp2_with fail
              go_roundw
              case rel => exact ⟨m, (m : Int), _, us, rfl, rfl, (show ((m : Int) - 1) + 1 = (m : Int) by omega), by omega, HG0.out rfl, HU0.out rfl, HBk.out, HBt.out⟩
              case measure => simp [intOf]
            | some n =>
              have hnl := HLt.out n rfl
              have hnr : n < rrs.length := by have := HUle.out; omega
              have hnc : (n : Int) < rrs.length := by omega
              have hn0 : ¬ ((n : Int) < 0) := by omega
              have b0 := HBk.out.cell n (u := .bool us[n]) (by simp [bools, hnl])
              have b1 := HBk.out.free n
              have hkw : wa.heap.size ≤ Kb := by rw [HKl.out]; exact Nat.le_refl _
              generalize us[n] = bb at b0
              unfold idxI
              go_wp2_with fail
              go_roundw
              case rel => exact ⟨m, g, _, us.set n true, rfl, rfl, (show ((m : Int) - 1) + 1 = (m : Int) by omega), by omega, HG1.out n rfl, HU1.out n rfl, (show Blk _ Kb 4 (bools (us.set n true)) by rw [← bools_set]; exact HBk.out.set n _), HBt.out.setCell hkw _⟩
              case measure => simp [intOf]
    · obtain ⟨ev, hev⟩ : ∃ ev, ev = errVal E V := ⟨_, rfl⟩
      have HCd := Lib.hid (show ∀ w', Below W.heap.size W w' → Calls Tryd.prog 15 #[ev, .int .i64 (V : Int)] w' (RetA true w') from fun w' hb => by
        rw [hev, HV.out]
        exact coded5V_any E _ (vcode_le _ _) w' (HE.out.below hb))
      have HG1 := Lib.hid (show ∀ w', Below w3.heap.size w3 w' → Calls Tryd.prog 11 #[.agg #[.slice QA q2.length qc, .slice RA m2.length rc]] w' (fun e w'' => e = .returned (.tuple #[.slice none 0 0, .bool false, ev]) ∧ Below w'.heap.size w' w'') from fun w' hb => (HGp.out w' hb).mono fun e w'' h => by
        obtain ⟨hb2, h⟩ := h
        rcases h with ⟨_, h⟩ | ⟨h0, _⟩ | ⟨h0, _⟩
        · exact ⟨by rw [h, hev], hb2⟩
        · exact absurd h0 hv
        · exact absurd h0 hv)
      have HC1 := Lib.hid (show ∀ w', Below w3.heap.size w3 w' → Calls Tryd.prog 12 #[.agg #[.slice QA q2.length qc, .slice RA m2.length rc]] w' (fun e w'' => e = .returned (.tuple #[.int .i64 0, .int .i64 0, .slice none 0 0, .bool false, ev]) ∧ Below w'.heap.size w' w'') from fun w' hb => (HCp2.out w' hb).mono fun e w'' h => by
        obtain ⟨hb2, h⟩ := h
        rcases h with ⟨_, h⟩ | ⟨h0, _⟩ | ⟨h0, _⟩
        · exact ⟨by rw [h, hev], hb2⟩
        · exact absurd h0 hv
        · exact absurd h0 hv)
      have HI1 := Lib.hid (show ∀ w', Below w3.heap.size w3 w' → Calls Tryd.prog 13 #[.agg #[.slice QA q2.length qc, .slice RA m2.length rc]] w' (fun e w'' => e = .returned (.tuple #[.slice none 0 0, ev]) ∧ Below w'.heap.size w' w'') from fun w' hb => (HIp.out w' hb).mono fun e w'' h => by
        obtain ⟨hb2, h⟩ := h
        rcases h with ⟨_, h⟩ | ⟨h0, _⟩
        · exact ⟨by rw [h, hev], hb2⟩
        · exact absurd h0 hv)
      have HV1 := Lib.hid (show ∀ w', Below w3.heap.size w3 w' → Calls Tryd.prog 14 #[.agg #[.slice QA q2.length qc, .slice RA m2.length rc]] w' (fun e w'' => e = .returned ev ∧ Below w'.heap.size w' w'') from fun w' hb => (HVl.out w' hb).mono fun e w'' h => ⟨by rw [h.1, hev], h.2⟩)
      have hVp : (0 : Int) < (V : Int) := by omega
      clear hev hv HGp HCp2 HIp HVl r0 r1
      go_wp2_with fail
      refine (HG1.out w5 HB5.out).mono ?_
      rintro e w6 ⟨rfl, hb6⟩
      have HB6 := Lib.hid (ext_trans HB5.out hb6)
      have t0 := cell_ext hb6 t0
      have t1 := cell_ext hb6 t1
      clear hb6 HG1
      go_wp2_with fail
      refine (HC1.out w6 HB6.out).mono ?_
      rintro e w7 ⟨rfl, hb7⟩
      have HB7 := Lib.hid (ext_trans HB6.out hb7)
      have t0 := cell_ext hb7 t0
      have t1 := cell_ext hb7 t1
      clear hb7 HC1
      go_wp2_with fail
      refine (HI1.out w7 HB7.out).mono ?_
      rintro e w8 ⟨rfl, hb8⟩
      have HB8 := Lib.hid (ext_trans HB7.out hb8)
      have t0 := cell_ext hb8 t0
      have t1 := cell_ext hb8 t1
      clear hb8 HI1
      go_wp2_with fail
      refine (HV1.out w8 HB8.out).mono ?_
      rintro e w9 ⟨rfl, hb9⟩
      have HB9 := Lib.hid (ext_trans HB3.out (ext_trans HB8.out hb9))
      clear hb9 HV1 t0 t1
      go_wp2_with fail
      refine (HCd.out w9 HB9.out).mono ?_
      rintro e wa ⟨rfl, hba⟩
      have HBa := Lib.hid (ext_trans HB9.out hba)
      clear hba
      go_wp2_with fail
      refine (HCd.out wa HBa.out).mono ?_
      rintro e wb ⟨rfl, hbb⟩
      have HBb := Lib.hid (ext_trans HBa.out hbb)
      clear hbb
      go_wp2_with fail
      refine (HCd.out wb HBb.out).mono ?_
      rintro e wc ⟨rfl, hbc⟩
      have HBc := Lib.hid (ext_trans HBb.out hbc)
      clear hbc
      go_wp2_with fail
      refine (HCd.out wc HBc.out).mono ?_
      rintro e wd ⟨rfl, hbd⟩
      have HBd := Lib.hid (ext_trans HBc.out hbd)
      clear hbd
      go_wp2_with fail
      go_ret
      exact retA rfl (ext_trans HX.out HBd.out)
end Go.Proofs.YtednlkchbjpabaaDoor.GapsFound

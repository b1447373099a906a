/- Gaps: Clash. -/
import Derived.Test.YtednlkchbjpabaaDoorGpG
import Derived.Laws.AppendOwn
import Derived.BigQuiet
import Derived.Deep.QuietTactic
namespace Go.Proofs.YtednlkchbjpabaaDoor.Gp
open Go.RowKit Mem Nest Fk MapSet Err

theorem results_tmp5 {fn : Func} {t u v x y : Tmp} (h : fn.results = #[.tmp t, .tmp u, .tmp v, .tmp x, .tmp y]) (tmps : Array Value) (P : Program) (w : World) :
    (results fn tmps).run P w = .ok (.tuple #[tmps.getD t undef, tmps.getD u undef, tmps.getD v undef, tmps.getD x undef, tmps.getD y undef]) w := by
  simp [results, h]
set_option maxRecDepth 100000 in
set_option maxHeartbeats 8000000 in
theorem clash_any (A : Nat → Addr) (qms : List QnM) (QA : Option Addr) (qc : Nat) (ms : List RwM) (RA : Option Addr) (rc : Nat) (w : World) (hq : QsP w QA qms) (hr : RowsP w RA ms)
    (hV : ∀ w' : World, Below w.heap.size w w' → Calls Tryd.prog 14 #[.agg #[.slice QA qms.length qc, .slice RA ms.length rc]] w' (ValidPost A (vcode (qms.map QnM.qn) (ms.map RwM.rw)) w')) :
    Calls Tryd.prog 12 #[.agg #[.slice QA qms.length qc, .slice RA ms.length rc]] w (ClashPost (vcode (qms.map QnM.qn) (ms.map RwM.rw)) (qms.map fun q => q.ans.length) (ms.map RwM.rw) A w) := by
  have hbk := Blk.new w 31 [.slice QA qms.length qc, .slice RA ms.length rc]
  have hx := ext_alloc w (.cells (List.toArray [.slice QA qms.length qc, .slice RA ms.length rc]) 31)
  obtain ⟨W, hW⟩ : ∃ W, W = w.alloc (.cells (List.toArray [.slice QA qms.length qc, .slice RA ms.length rc]) 31) := ⟨_, rfl⟩
  obtain ⟨K, hK⟩ : ∃ K, K = w.heap.size := ⟨_, rfl⟩
  rw [← hW] at hx hbk
  rw [← hK] at hbk
  have HX := Lib.hid hx
  have HV := Lib.hid (hV W hx)
  have HQ := Lib.hid (hq.ext hx)
  have HR := Lib.hid (hr.ext hx)
  have HW := Lib.hid hW
  have HK := Lib.hid hK
  have r0 := hbk.cell 0 rfl
  have r1 := hbk.cell 1 rfl
  obtain ⟨c, hc⟩ : ∃ c, c = vcode (qms.map QnM.qn) (ms.map RwM.rw) := ⟨_, rfl⟩
  rw [← hc] at HV ⊢
  have HC := Lib.hid hc
  obtain ⟨ns, hns⟩ : ∃ ns, ns = qms.map fun q => q.ans.length := ⟨_, rfl⟩
  obtain ⟨rs, hrs⟩ : ∃ rs, rs = ms.map RwM.rw := ⟨_, rfl⟩
  have HNs := Lib.hid hns
  have HRs := Lib.hid hrs
  rw [← hns, ← hrs]
  obtain ⟨i0, hi, hz0, hz1, hz2⟩ := info_parts int_info
  have HI := Lib.hid hi
  have HZ0 := Lib.hid hz0
  have HZ1 := Lib.hid hz1
  have HZ2 := Lib.hid hz2
  clear hbk hx hW hK hq hr hV hc hns hrs hi hz0 hz1 hz2
  go_enter Tryd.func12, Tryd.ntmps12
  go_upto_region 1 with fail
  rw [show w.alloc (.cells #[.slice QA qms.length qc, .slice RA ms.length rc] 31) = W from HW.out.symm, ← HK.out]
  clear HW
  go_wp2_with fail
  refine HV.out.mono ?_
  rintro e w1 ⟨rfl, hb1⟩
  have HB1 := Lib.hid hb1
  have r0 := cell_ext hb1 r0
  have r1 := cell_ext hb1 r1
  clear hb1
  by_cases h0 : c = 0
  · subst h0
    unfold errVal
    rw [if_pos rfl]
    have hvt := valid_of HC.out.symm
    have hm60 : ms.length ≤ 60 := by have := hvt.r60; rwa [List.length_map] at this
    have hq12 : qms.length ≤ 12 := by have := hvt.q12; rwa [List.length_map] at this
    have HCl := Lib.hid (show ∀ r ∈ rs, r.cells.length = ns.length by
      rw [HNs.out, HRs.out, List.length_map]
      have h := hvt.cl
      rw [List.length_map] at h
      exact h)
    have HA12 := Lib.hid (show ∀ q ∈ qms, q.ans.length ≤ 12 from fun q hq => hvt.a12 q.qn (List.mem_map.2 ⟨q, hq, rfl⟩))
    have HRn := Lib.hid (show rs.length = ms.length by rw [HRs.out, List.length_map])
    have HNn := Lib.hid (show ns.length = qms.length by rw [HNs.out, List.length_map])
    have HQ1 := Lib.hid (HQ.out.ext HB1.out)
    have HR1 := Lib.hid (HR.out.ext HB1.out)
    clear hvt
    go_wp2_with fail
    go_loopw [24] (fun t24 wr => ∃ (i : Nat), t24 = .int .i64 i ∧ i ≤ ms.length ∧ Hid (NoCl ns rs i (i + 1)) ∧ Hid (Below w1.heap.size w1 wr)) (fun t24 _ => ms.length - (intOf t24).toNat)
    case atStart => exact ⟨0, rfl, by omega, NoCl.start ns rs, Below.refl _ _⟩
    case round =>
      obtain ⟨i, rfl, hi, HN, HB2⟩ := hrel
      have r0 := cell_ext HB2.out r0
      have r1 := cell_ext HB2.out r1
      by_cases hlt : i < ms.length
      · have hcl : (i : Int) < ms.length := by omega
        obtain ⟨rb, ro, hRA, z0, z1⟩ := (HR1.out.ext HB2.out).row hlt
        have HCe := Lib.hid (HR1.out.cells _ (List.getElem_mem hlt))
        have HRi := Lib.hid (show rAt rs i = ms[i].rw by rw [HRs.out]; simp [rAt, hlt])
        have hclen : ms[i].cells.length = qms.length := by
          have h1 := HCl.out ms[i].rw (by rw [HRs.out]; exact List.mem_map.2 ⟨_, List.getElem_mem hlt, rfl⟩)
          rw [HNn.out] at h1
          simpa [RwM.rw] using h1
        subst hRA
        generalize ms[i] = x at *
        obtain ⟨xs, xA, xc, xo⟩ := x
        simp only at z0 z1 HCe hclen
        rw [hclen] at z0
        have HXl := Lib.hid hclen
        have hx1 := ext_alloc wr (.cells (List.toArray [.slice xA qms.length xc, .string ⟨xo.toArray⟩]) 95)
        have hbk1 := Blk.new wr 95 [.slice xA qms.length xc, .string ⟨xo.toArray⟩]
        obtain ⟨V1, hV1⟩ : ∃ V, V = wr.alloc (.cells (List.toArray [.slice xA qms.length xc, .string ⟨xo.toArray⟩]) 95) := ⟨_, rfl⟩
        obtain ⟨K1, hK1⟩ : ∃ K, K = wr.heap.size := ⟨_, rfl⟩
        rw [← hV1] at hx1 hbk1
        rw [← hK1] at hbk1
        have HV1 := Lib.hid hV1
        have HK1 := Lib.hid hK1
        have HX1 := Lib.hid hx1
        have x0 := hbk1.cell 0 rfl
        have x1 := hbk1.cell 1 rfl
        have s0 := cell_ext hx1 r0
        have s1 := cell_ext hx1 r1
        clear hclen hx1 hbk1 hV1 hK1
        go_upto_region 7 with fail
        rw [show wr.alloc (.cells #[.slice xA qms.length xc, .string ⟨xo.toArray⟩] 95) = V1 from HV1.out.symm, ← HK1.out]
        clear HV1 HK1 z0 z1 r0 r1
        go_wp2_with fail
        go_loopw [10] (fun t10 wr => ∃ (k : Nat), t10 = .int .i64 k ∧ i < k ∧ k ≤ ms.length ∧ Hid (NoCl ns rs i k) ∧ Hid (Below V1.heap.size V1 wr)) (fun t10 _ => ms.length - (intOf t10).toNat)
        case atStart => exact ⟨i + 1, by go_num, by omega, by omega, HN.out, Below.refl _ _⟩
        case round =>
          obtain ⟨k, rfl, hik, hk, HNk, HB3⟩ := hrel
          have s0 := cell_ext HB3.out s0
          have s1 := cell_ext HB3.out s1
          have x0 := cell_ext HB3.out x0
          have x1 := cell_ext HB3.out x1
          by_cases hlk : k < ms.length
          · have hck : (k : Int) < ms.length := by omega
            have HBk := Lib.hid (ext_trans HB2.out (ext_trans HX1.out HB3.out))
            obtain ⟨rb2, ro2, hRA2, z0, z1⟩ := (HR1.out.ext HBk.out).row hlk
            cases hRA2
            have HCy := Lib.hid (HR1.out.cells _ (List.getElem_mem hlk))
            have HRk := Lib.hid (show rAt rs k = ms[k].rw by rw [HRs.out]; simp [rAt, hlk])
            have hclen : ms[k].cells.length = qms.length := by
              have h1 := HCl.out ms[k].rw (by rw [HRs.out]; exact List.mem_map.2 ⟨_, List.getElem_mem hlk, rfl⟩)
              rw [HNn.out] at h1
              simpa [RwM.rw] using h1
            generalize ms[k] = y at *
            obtain ⟨ys, yA, yc, yo⟩ := y
            simp only at z0 z1 HCy hclen
            rw [hclen] at z0
            have HYl := Lib.hid hclen
            have hx2 := ext_alloc wr (.cells (List.toArray [.slice yA qms.length yc, .string ⟨yo.toArray⟩]) 95)
            have hbk2 := Blk.new wr 95 [.slice yA qms.length yc, .string ⟨yo.toArray⟩]
            obtain ⟨V2, hV2⟩ : ∃ V, V = wr.alloc (.cells (List.toArray [.slice yA qms.length yc, .string ⟨yo.toArray⟩]) 95) := ⟨_, rfl⟩
            obtain ⟨K2, hK2⟩ : ∃ K, K = wr.heap.size := ⟨_, rfl⟩
            rw [← hV2] at hx2 hbk2
            rw [← hK2] at hbk2
            have HV2 := Lib.hid hV2
            have HK2 := Lib.hid hK2
            have HX2 := Lib.hid hx2
            have y0 := hbk2.cell 0 rfl
            have y1 := hbk2.cell 1 rfl
            have s0 := cell_ext hx2 s0
            have s1 := cell_ext hx2 s1
            have x0 := cell_ext hx2 x0
            have x1 := cell_ext hx2 x1
            obtain ⟨eq, heq⟩ : ∃ eq, (xo == yo) = eq := ⟨_, rfl⟩
            have HEq := Lib.hid (show ((rAt rs i).out == (rAt rs k).out) = eq by rw [HRi.out, HRk.out]; exact heq)
            clear hclen hx2 hbk2 hV2 hK2
            go_upto_region 11 with fail
            rw [show wr.alloc (.cells #[.slice yA qms.length yc, .string ⟨yo.toArray⟩] 95) = V2 from HV2.out.symm, ← HK2.out]
            clear HV2 HK2 z0 z1
            cases eq with
            | true =>
              have HSt := Lib.hid (HNk.out.step (clAt_same HEq.out))
              go_wp2_with fail
              go_roundw
              case rel => exact ⟨k + 1, by go_num, by omega, by omega, HSt.out, ext_trans HB3.out HX2.out⟩
              case measure => simp [intOf]; omega
            | false =>
              have HTo := Lib.hid (clAt_to HCl.out (by have := HRn.out; omega) (by have := HRn.out; omega) HEq.out)
              obtain ⟨V3, hV3⟩ : ∃ V3, V3 = V2.alloc (.cells #[] 3) := ⟨_, rfl⟩
              have hx3 : Below V2.heap.size V2 V3 := by rw [hV3]; exact ext_alloc _ _
              have HX3 := Lib.hid hx3
              have HV3 := Lib.hid hV3
              have HO3 := Lib.hid (show V3.ownsRow V2.heap.size 3 1 (.slice (some ⟨V2.heap.size, 0, none⟩) 0 0) 0 [] by
                rw [hV3]
                exact World.ownsRow_made V2 #[] 0 (Nat.le_refl _) (by simp [maxLen]) rfl)
              clear hx3 hV3
              go_upto_region 13 with fail
              rw [show V2.alloc (.cells #[] 3) = V3 from HV3.out.symm]
              clear HV3 heq
              have q0 := cell_ext HX3.out s0
              have q1 := cell_ext HX3.out s1
              obtain ⟨sz2, hsz2⟩ : ∃ sz2, sz2 = V2.heap.size := ⟨_, rfl⟩
              have hk0 : K < sz2 := by rw [hsz2]; exact cell_lt s0
              have hk1 : K1 < sz2 := by rw [hsz2]; exact cell_lt x0
              have hk2 : K2 < sz2 := by rw [hsz2]; exact cell_lt y0
              have x0 := cell_ext HX3.out x0
              have x1 := cell_ext HX3.out x1
              have y0 := cell_ext HX3.out y0
              have y1 := cell_ext HX3.out y1
              have HS2 := Lib.hid hsz2
              rw [← hsz2] at HO3 ⊢
              have hsz3 : sz2 ≤ V3.heap.size := by rw [hsz2]; exact HX3.out.size
              have HB13 := Lib.hid (ext_trans HBk.out (ext_trans HX2.out HX3.out))
              have hs12 : w1.heap.size ≤ sz2 := by rw [hsz2]; exact Nat.le_trans HBk.out.size HX2.out.size
              have hV12 : V1.heap.size ≤ sz2 := by rw [hsz2]; exact Nat.le_trans HB3.out.size HX2.out.size
              have HB33 := Lib.hid (show Below V1.heap.size V1 V3 from ext_trans HB3.out (ext_trans HX2.out HX3.out))
              clear hsz2 s0 s1
              go_wp2_with fail
              go_loopw [12, 52] (fun t12 t52 wr => ∃ (q : Nat) (v : Value) (l : List Int), v = t12 ∧ t52 = .int .i64 q ∧ q ≤ qms.length ∧ Hid (l = commTo (clF ns rs i k) q) ∧ Hid (wr.ownsRow sz2 3 1 v l.length (ints l)) ∧ Hid (Below sz2 V3 wr)) (fun _ t52 _ => qms.length - (intOf t52).toNat)
              case atStart => exact ⟨0, _, [], rfl, rfl, by omega, rfl, HO3.out, Below.refl _ _⟩
              case round =>
                obtain ⟨q, v, l, rfl, rfl, hq, HL, HO, HB4⟩ := hrel
                have hl60 : l.length ≤ 12 := by rw [HL.out]; have := commTo_len (clF ns rs i k) q; omega
                have HBq := Lib.hid (show Below w1.heap.size w1 wr from HB13.out.trans (HB4.out.mono hs12))
                have q0 := Mem.cell_keep HB4.out hk0 q0
                have q1 := Mem.cell_keep HB4.out hk0 q1
                have x0 := Mem.cell_keep HB4.out hk1 x0
                have x1 := Mem.cell_keep HB4.out hk1 x1
                have y0 := Mem.cell_keep HB4.out hk2 y0
                have y1 := Mem.cell_keep HB4.out hk2 y1
                by_cases hlq : q < qms.length
                · have hcq : (q : Int) < qms.length := by omega
                  have hqx : q < xs.length := by have := HXl.out; omega
                  have hqy : q < ys.length := by have := HYl.out; omega
                  obtain ⟨qb, qo, hQ, z0, z1⟩ := (HQ1.out.ext HBq.out).row hlq
                  subst hQ
                  obtain ⟨xb, xof, hxA, c0⟩ := (HCe.out.ext HBq.out).cell hqx
                  subst hxA
                  obtain ⟨yb, yof, hyA, d0⟩ := (HCy.out.ext HBq.out).cell hqy
                  subst hyA
                  have hna := HA12.out _ (List.getElem_mem hlq)
                  obtain ⟨f, hf⟩ : ∃ f, f = clF ns rs i k q := ⟨_, rfl⟩
                  have HFe := Lib.hid hf
                  have hcf : f = commF qms[q].ans.length xs[q].l ys[q].l := by
                    rw [hf]
                    unfold clF
                    rw [HRi.out, HRk.out, HNs.out]
                    simp [RwM.rw, hlq, hqx, hqy]
                  have HCm := Lib.hid (fun (w' : World) (hb : Below w1.heap.size w1 w') => common_any qms[q].ans.length (by omega) xs[q] ys[q] w' (((HCe.out.ext hb).ints _ (List.getElem_mem hqx))) (HCe.out.isnil _ (List.getElem_mem hqx)) (HCe.out.isrow _ (List.getElem_mem hqx)) (HCe.out.len _ (List.getElem_mem hqx)) ((HCy.out.ext hb).ints _ (List.getElem_mem hqy)) (HCy.out.isnil _ (List.getElem_mem hqy)) (HCy.out.isrow _ (List.getElem_mem hqy)) (HCy.out.len _ (List.getElem_mem hqy)))
                  rw [← hcf] at HCm
                  clear hf hcf
                  generalize qms[q] = Q at *
                  obtain ⟨nm, an, aA, ac⟩ := Q
                  simp only at z0 z1 hna HCm
                  generalize xs[q] = X at *
                  obtain ⟨xl, xA2, xc2⟩ := X
                  generalize ys[q] = Y at *
                  obtain ⟨yl, yA2, yc2⟩ := Y
                  unfold cellV at c0 d0 HCm
                  simp only at c0 d0 HCm
                  generalize (xl.getD []).length = nx at *
                  generalize (yl.getD []).length = ny at *
                  generalize an.length = na at *
                  obtain ⟨V4, hV4⟩ : ∃ V, V = wr.alloc (.cells (List.toArray [.string ⟨nm.toArray⟩, .slice aA na ac]) 93) := ⟨_, rfl⟩
                  obtain ⟨K4, hK4⟩ : ∃ K, K = wr.heap.size := ⟨_, rfl⟩
                  have hx4 : Below wr.heap.size wr V4 := by rw [hV4]; exact ext_alloc _ _
                  have hbk4 : Blk V4 K4 93 [.string ⟨nm.toArray⟩, .slice aA na ac] := by rw [hV4, hK4]; exact Blk.new _ _ _
                  have HV4 := Lib.hid hV4
                  have HK4 := Lib.hid hK4
                  have HX4 := Lib.hid hx4
                  have a0 := hbk4.cell 0 rfl
                  have a1 := hbk4.cell 1 rfl
                  have x0 := cell_ext hx4 x0
                  have y0 := cell_ext hx4 y0
                  have c0 := cell_ext hx4 c0
                  have d0 := cell_ext hx4 d0
                  have HCn := Lib.hid (fun (n : Nat) => (HCm.out (V4.drewN n) (ext_trans HBq.out (ext_trans HX4.out (ext_drewN V4 n)))).mono fun e w' h => (show e = .returned (.int .i64 (idxI f)) ∧ ∃ m, w' = V4.drewN m from ⟨h.1, n, h.2.symm⟩))
                  clear hx4 hbk4 hV4 hK4 HCm
                  go_upto_region 16 with fail
                  rw [show wr.alloc (.cells #[.string ⟨nm.toArray⟩, .slice aA na ac] 93) = V4 from HV4.out.symm, ← HK4.out]
                  clear HV4 HK4 z0 z1
                  go_quiet (exact HCn.out _)
                  obtain ⟨V5, hV5⟩ : ∃ V, V = V4.drewN nq := ⟨_, rfl⟩
                  rw [← hV5]
                  have HX5 := Lib.hid (show Below wr.heap.size wr V5 by rw [hV5]; exact ext_trans HX4.out (ext_drewN V4 nq))
                  have hsz5 : sz2 ≤ wr.heap.size := Nat.le_trans hsz3 HB4.out.size
                  have hsz6 : sz2 ≤ V5.heap.size := Nat.le_trans hsz5 HX5.out.size
                  clear hV5 a0 a1 x0 y0 c0 d0 x1 y1
                  cases f with
                  | none =>
                    have HE1 := Lib.hid (show l = commTo (clF ns rs i k) (q + 1) by rw [commTo, ← HFe.out]; exact HL.out)
                    unfold idxI
                    go_wp2_with fail
                    go_roundw
                    case rel => exact ⟨q + 1, v, l, rfl, by go_num, by omega, HE1.out, own_ext HO.out HX5.out, HB4.out.trans (HX5.out.mono hsz5)⟩
                    case measure => simp [intOf]; omega
                  | some a =>
                    have HE1 := Lib.hid (show l ++ [(a : Int)] = commTo (clF ns rs i k) (q + 1) by rw [commTo, ← HFe.out, HL.out])
                    unfold idxI
                    have ha0 : (0 : Int) ≤ (a : Int) := by omega
                    go_wp2_with (at_builtin; refine wpList_append_own _ rfl _ _ _ rfl sz2 3 i0 _ 1 8 Tryd.underlying34 HI.out HZ0.out HZ1.out HZ2.out rfl (by omega) v l.length (ints l) rfl (World.ownsRow.alloc (own_ext HO.out HX5.out) _) ⟨V5.heap.size, 0, none⟩ 1 1 [.int .i64 (a : Int)] rfl rfl (new_cells V5 [.int .i64 (a : Int)] _ _ rfl) (by intro u hu; simp only [List.mem_cons, List.not_mem_nil, or_false] at hu; rcases hu with rfl; rfl) (by unfold maxLen; omega) (by omega) (by simp; omega) ?_; intro v4 w4 hown4 hg4 _; have HO4 := Lib.hid hown4; have HG4 := Lib.hid hg4; clear hown4 hg4)
                    go_roundw
                    case rel => exact ⟨q + 1, v4, l ++ [(a : Int)], rfl, by go_num, by omega, HE1.out, (show w4.ownsRow sz2 3 1 v4 (l ++ [(a : Int)]).length (ints (l ++ [(a : Int)])) by rw [ints_snoc, List.length_append]; exact HO4.out),
                      ((HB4.out.trans (HX5.out.mono hsz5)).alloc hsz6 _).grown HG4.out (by simp; omega) (fun g hg => (HO.out.lt g hg).1)⟩
                    case measure => simp [intOf]; omega
                · obtain rfl : qms.length = q := by omega
                  have hcq : ¬ (qms.length : Int) < qms.length := by omega
                  have HTo2 := Lib.hid (show clAt ns rs i k = if l.length = qms.length then some l else none by
                    rw [HTo.out, HNn.out, ← HL.out])
                  obtain ⟨A3, c3, rfl, _, _⟩ := own_slice HO.out
                  by_cases hfull : l.length = qms.length
                  · have hfc : ((l.length : Int) == (qms.length : Int)) = true := by simp [hfull]
                    have HF2 := Lib.hid (show clAt ns rs i k = some l by rw [HTo2.out, if_pos hfull])
                    have HEnd := Lib.hid (ext_trans HX.out (ext_trans HB1.out HBq.out))
                    clear hfull
                    obtain ⟨ll, hll⟩ : ∃ ll, ll = l.length := ⟨_, rfl⟩
                    have HLl := Lib.hid hll
                    rw [← hll] at HO hfc ⊢
                    clear hll
                    go_wp2_with fail
                    try simp only [Exit.inBlock, Exit.then]
                    refine bodyPost_ret (results_tmp5 rfl _ _ _) rfl ?_
                    exact ⟨HEnd.out, .inr (.inr ⟨rfl, i, k, l, A3, c3, hik, by rw [HRn.out]; exact hlk, HNk.out, HF2.out, by rw [← HLl.out]; rfl, Rd.of_own (by rw [HLl.out] at HO; exact HO.out)⟩)⟩
                  · have hfc : ((l.length : Int) == (qms.length : Int)) = false := by simp; omega
                    have HSt := Lib.hid (HNk.out.step (show clAt ns rs i k = none by rw [HTo2.out, if_neg hfull]))
                    clear hfull
                    go_wp2_with fail
                    go_roundw
                    case rel => exact ⟨k + 1, by go_num, by omega, by omega, HSt.out, HB33.out.trans (HB4.out.mono hV12)⟩
                    case measure => simp [intOf]; omega
          · obtain rfl : ms.length = k := by omega
            have hck : ¬ (ms.length : Int) < ms.length := by omega
            have HNe := Lib.hid (show NoCl ns rs (i + 1) (i + 1 + 1) from NoCl.next (by rw [HRn.out]; exact HNk.out))
            clear x0 x1
            go_wp2_with fail
            go_roundw
            case rel => exact ⟨i + 1, by go_num, by omega, HNe.out, ext_trans HB2.out (ext_trans HX1.out HB3.out)⟩
            case measure => simp [intOf]; omega
      · obtain rfl : ms.length = i := by omega
        have hcl : ¬ (ms.length : Int) < ms.length := by omega
        have HNe := Lib.hid (show NoCl ns rs rs.length 0 from fun a b h1 h2 h3 => HN.out a b h1 h2 (by rw [← HRn.out]; omega))
        go_wp2_with fail
        try simp only [Exit.inBlock, Exit.then]
        refine bodyPost_ret (results_tmp5 rfl _ _ _) rfl ?_
        exact ⟨ext_trans HX.out (ext_trans HB1.out HB2.out), .inr (.inl ⟨rfl, HNe.out, rfl⟩)⟩
  · have HNz := Lib.hid h0
    unfold errVal
    rw [if_neg h0]
    unfold sentV
    clear h0
    go_wp2_with fail
    try simp only [Exit.inBlock, Exit.then]
    refine bodyPost_ret (results_tmp5 rfl _ _ _) rfl ?_
    refine ⟨ext_trans HX.out HB1.out, .inl ⟨HNz.out, ?_⟩⟩
    unfold errVal
    rw [if_neg HNz.out]
    rfl
end Go.Proofs.YtednlkchbjpabaaDoor.Gp

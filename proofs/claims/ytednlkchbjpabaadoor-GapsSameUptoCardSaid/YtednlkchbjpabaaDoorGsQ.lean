/- Gaps: Says, of a valid table. -/
import Derived.Test.YtednlkchbjpabaaDoorGsP
import Derived.Test.YtednlkchbjpabaaDoorGpZ
import Derived.Test.YtednlkchbjpabaaDoorGpN
namespace Go.Proofs.YtednlkchbjpabaaDoor.Gp
open Go.RowKit Mem Nest Fk Err

theorem sayO_at {rs : List Rw} {c : List Int} {j : Nat} (hj : j < rs.length) (h : ∀ i, i < j → fitR (rAt rs i).cells c = false) (hf : fitR (rAt rs j).cells c = true) : sayO rs c = some (rAt rs j).out := by
  unfold sayO
  rw [(says_some_iff rs c j hj).2 ⟨hf, h⟩]
  rfl
theorem sayO_no {rs : List Rw} {c : List Int} (h : ∀ i, i < rs.length → fitR (rAt rs i).cells c = false) : sayO rs c = none := by
  unfold sayO
  have := (says_none_iff rs c).2 h
  rw [Option.isNone_iff_eq_none] at this
  rw [this]
  rfl
set_option maxRecDepth 100000 in
set_option maxHeartbeats 8000000 in
theorem says_any (A : Nat → Addr) (qms : List QnM) (QA : Option Addr) (qc : Nat) (ms : List RwM) (RA : Option Addr) (rc : Nat) (cs : List Int) (CA : Option Addr) (cc : Nat) (hcl : cs.length ≤ 1048576) (w : World) (hq : QsP w QA qms) (hr : RowsP w RA ms) (hc : Rd w CA (ints cs)) (hv0 : vcode (qms.map QnM.qn) (ms.map RwM.rw) = 0)
    (hV : ∀ w' : World, Below w.heap.size w w' → Calls Tryd.prog 14 #[.agg #[.slice QA qms.length qc, .slice RA ms.length rc]] w' (ValidPost A 0 w'))
    (res : Option (List UInt8)) (hr1 : cs ∈ exts (qms.map fun q => q.ans.length) → res = sayO (ms.map RwM.rw) cs) (hr2 : cs ∉ exts (qms.map fun q => q.ans.length) → res = none) :
    Calls Tryd.prog 26 #[.agg #[.slice QA qms.length qc, .slice RA ms.length rc], .slice CA cs.length cc] w (SayPost res w) := by
  have hvt := valid_of hv0
  have hm60 : ms.length ≤ 60 := by have := hvt.r60; rwa [List.length_map] at this
  have hq12 : qms.length ≤ 12 := by have := hvt.q12; rwa [List.length_map] at this
  have hbk := Blk.new w 31 [.slice QA qms.length qc, .slice RA ms.length rc]
  have hx := ext_alloc w (.cells (List.toArray [.slice QA qms.length qc, .slice RA ms.length rc]) 31)
  obtain ⟨W, hW⟩ : ∃ W, W = w.alloc (.cells (List.toArray [.slice QA qms.length qc, .slice RA ms.length rc]) 31) := ⟨_, rfl⟩
  obtain ⟨K, hK⟩ : ∃ K, K = w.heap.size := ⟨_, rfl⟩
  rw [← hW] at hx hbk
  rw [← hK] at hbk
  have HX := Lib.hid hx
  have HV := Lib.hid (hV W hx)
  have HQ := Lib.hid (hq.ext hx)
  have HR := Lib.hid (hr.ext hx)
  have HC := Lib.hid (hc.ext hx)
  have HW := Lib.hid hW
  have HK := Lib.hid hK
  have r0 := hbk.cell 0 rfl
  have r1 := hbk.cell 1 rfl
  have HR1 := Lib.hid hr1
  have HR2 := Lib.hid hr2
  obtain ⟨rs, hrs⟩ : ∃ rs, rs = ms.map RwM.rw := ⟨_, rfl⟩
  have HRs := Lib.hid hrs
  have HRl := Lib.hid (show rs.length = ms.length by rw [hrs, List.length_map])
  have HClen := Lib.hid (show ∀ m ∈ ms, m.cells.length = qms.length from fun m hm => by
    have h1 := hvt.cl m.rw (List.mem_map.2 ⟨m, hm, rfl⟩)
    unfold RwM.rw at h1
    rw [List.length_map, List.length_map] at h1
    exact h1)
  have HA12 := Lib.hid (show ∀ q ∈ qms, q.ans.length ≤ 12 from fun q hq => hvt.a12 q.qn (List.mem_map.2 ⟨q, hq, rfl⟩))
  clear hbk hx hW hK hq hr hc hV hr1 hr2 hrs hvt hv0
  go_enter Tryd.func26, Tryd.ntmps26
  go_upto_region 1 with fail
  rw [show w.alloc (.cells #[.slice QA qms.length qc, .slice RA ms.length rc] 31) = W from HW.out.symm, ← HK.out]
  clear HW
  go_wp2_with fail
  refine HV.out.mono ?_
  rintro e w1 ⟨rfl, hb1⟩
  have HB1 := Lib.hid hb1
  have r0 := cell_ext hb1 r0
  have r1 := cell_ext hb1 r1
  clear hb1
  rw [show errVal A 0 = .nilIface from rfl]
  by_cases hlen : cs.length = qms.length
  · have hlb : ((cs.length : Int) != (qms.length : Int)) = false := by simp [hlen]
    have HLen := Lib.hid hlen
    have HQ1 := Lib.hid (HQ.out.ext HB1.out)
    have HR1x := Lib.hid (HR.out.ext HB1.out)
    have HC1 := Lib.hid (HC.out.ext HB1.out)
    clear hlen
    obtain ⟨n, hn⟩ : ∃ n, n = cs.length := ⟨_, rfl⟩
    have HN := Lib.hid hn
    rw [← hn] at hlb hcl ⊢
    have hn12 : n ≤ 12 := by have := HLen.out; omega
    clear hn
    go_wp2_with fail
    go_loop [26] (fun t26 => ∃ q : Nat, t26 = .int .i64 q ∧ q ≤ n ∧ Hid (∀ j (h : j < cs.length) (h2 : j < qms.length), j < q → 0 ≤ cs[j] ∧ cs[j] < (qms[j].ans.length : Nat))) (fun t26 => n - (intOf t26).toNat)
    case atStart => exact ⟨0, rfl, Nat.zero_le _, fun j _ _ h => absurd h (by omega)⟩
    case round =>
      obtain ⟨q, rfl, hq, HI⟩ := hrel
      by_cases hlt : q < n
      · have hcl1 : (q : Int) < n := by omega
        have hqc2 : q < cs.length := by have := HN.out; omega
        have hqm : q < qms.length := by have := HLen.out; have := HN.out; omega
        have hqmc : (q : Int) < qms.length := by omega
        obtain ⟨cb, co, hCA, c0⟩ := int_at HC1.out hqc2
        subst hCA
        obtain ⟨qb, qo, hQA, z0, z1⟩ := HQ1.out.row hqm
        subst hQA
        have HSt := Lib.hid (show (0 ≤ cs[q] ∧ cs[q] < (qms[q].ans.length : Nat)) → ∀ j (h : j < cs.length) (h2 : j < qms.length), j < q + 1 → 0 ≤ cs[j] ∧ cs[j] < (qms[j].ans.length : Nat) from fun h j hj h2 h3 => by
          rcases Nat.lt_succ_iff_lt_or_eq.1 h3 with h4 | rfl
          · exact HI.out j hj h2 h4
          · exact h)
        have HBad := Lib.hid (show ¬ (0 ≤ cs[q] ∧ cs[q] < (qms[q].ans.length : Nat)) → res = none from fun h => HR2.out fun hm => h (by
          have := (mem_exts.1 hm).2 q hqc2 (by simpa using hqm)
          simpa using this))
        generalize qms[q] = Q at *
        obtain ⟨nm, an, aA, ac⟩ := Q
        simp only at z0 z1 HSt HBad
        generalize an.length = na at *
        generalize cs[q] = a at *
        by_cases ha : a < 0
        · have HE := Lib.hid (HBad.out (by omega))
          go_wp2_with fail
          go_ret2
          exact ⟨by rw [HE.out]; rfl, ext_trans HX.out HB1.out⟩
        · by_cases ha2 : (na : Int) ≤ a
          · have HE := Lib.hid (HBad.out (by omega))
            go_wp2_with fail
            go_ret2
            exact ⟨by rw [HE.out]; rfl, ext_trans HX.out HB1.out⟩
          · have HS2 := Lib.hid (HSt.out ⟨by omega, by omega⟩)
            go_wp2_with fail
            go_round
            case rel => exact ⟨q + 1, by go_num, by omega, HS2.out⟩
            case measure => simp [intOf]; omega
      · obtain rfl : n = q := by omega
        have hcl1 : ¬ (n : Int) < n := by omega
        have HRes := Lib.hid (show res = sayO rs cs by
          rw [HRs.out]
          refine HR1.out (mem_exts.2 ⟨by rw [List.length_map, HLen.out], fun j h h2 => ?_⟩)
          have := HI.out j h (by simpa using h2) (by have := HN.out; omega)
          simpa using this)
        clear HI HR1 HR2
        go_wp2_with fail
        go_loopw [48] (fun t48 wr => ∃ (j : Nat), t48 = .int .i64 j ∧ j ≤ ms.length ∧ Hid (∀ i, i < j → fitR (rAt rs i).cells cs = false) ∧ Hid (Below w1.heap.size w1 wr)) (fun t48 _ => ms.length - (intOf t48).toNat)
        case atStart => exact ⟨0, rfl, Nat.zero_le _, (fun i h => absurd h (by omega)), Below.refl _ _⟩
        case round =>
          obtain ⟨j, rfl, hj, HF, HB2⟩ := hrel
          by_cases hlj : j < ms.length
          · have hcj : (j : Int) < ms.length := by omega
            obtain ⟨rb, ro, hRA, z0, z1⟩ := (HR1x.out.ext HB2.out).row hlj
            subst hRA
            have HCe := Lib.hid (HR1x.out.cells _ (List.getElem_mem hlj))
            have hcll := HClen.out _ (List.getElem_mem hlj)
            have HRj := Lib.hid (show rAt rs j = ms[j].rw by rw [HRs.out]; simp [rAt, hlj])
            generalize ms[j] = r at *
            obtain ⟨xs, xA, xc, xo⟩ := r
            simp only at z0 z1 HCe hcll
            have HXl := Lib.hid hcll
            rw [hcll] at z0
            have HRc := Lib.hid (show (rAt rs j).cells = xs.map (·.l) by rw [HRj.out]; rfl)
            have HRo := Lib.hid (show (rAt rs j).out = xo by rw [HRj.out]; rfl)
            obtain ⟨V1, hV1⟩ : ∃ V, V = wr.alloc (.cells (List.toArray [.slice xA qms.length xc, .string ⟨xo.toArray⟩]) 95) := ⟨_, rfl⟩
            obtain ⟨K1, hK1⟩ : ∃ K, K = wr.heap.size := ⟨_, rfl⟩
            have hx1 : Below wr.heap.size wr V1 := by rw [hV1]; exact ext_alloc _ _
            have hbk1 : Blk V1 K1 95 [.slice xA qms.length xc, .string ⟨xo.toArray⟩] := by rw [hV1, hK1]; exact Blk.new _ _ _
            have HV1 := Lib.hid hV1
            have HK1 := Lib.hid hK1
            have HX1 := Lib.hid hx1
            have y0 := hbk1.cell 0 rfl
            have y1 := hbk1.cell 1 rfl
            clear hcll hV1 hK1 hx1 hbk1
            go_upto_region 12 with fail
            rw [show wr.alloc (.cells #[.slice xA qms.length xc, .string ⟨xo.toArray⟩] 95) = V1 from HV1.out.symm, ← HK1.out]
            clear HV1 HK1 z0 z1
            go_wp2_with fail
            go_loopw [10, 54] (fun t10 t54 wr => ∃ (q : Nat) (b : Bool), t10 = .bool b ∧ t54 = .int .i64 q ∧ q ≤ n ∧ Hid (b = fitR (rAt rs j).cells (cs.take q)) ∧ Hid (Below V1.heap.size V1 wr)) (fun _ t54 _ => n - (intOf t54).toNat)
            case atStart => exact ⟨0, true, rfl, rfl, by omega, (show true = fitR (rAt rs j).cells (cs.take 0) by rw [List.take_zero, fitR_nil]), Below.refl _ _⟩
            case round =>
              obtain ⟨q, b, rfl, rfl, hq, HBb, HB3⟩ := hrel
              have y0 := cell_ext HB3.out y0
              have y1 := cell_ext HB3.out y1
              by_cases hlq : q < n
              · have hcq : (q : Int) < n := by omega
                have hqc2 : q < cs.length := by have := HN.out; omega
                have hqx : q < xs.length := by have := HXl.out; have := HLen.out; have := HN.out; omega
                have HBq := Lib.hid (ext_trans HB2.out (ext_trans HX1.out HB3.out))
                obtain ⟨cb, co, hCA, c0⟩ := int_at (HC1.out.ext HBq.out) hqc2
                subst hCA
                obtain ⟨f, hf⟩ : ∃ f, f = fitC xs[q].l cs[q] := ⟨_, rfl⟩
                have HSn := Lib.hid (show fitR (rAt rs j).cells (cs.take (q + 1)) = (b && f) by
                  rw [List.take_succ_eq_append_getElem hqc2, fitR_snoc _ _ _ (by rw [HRc.out]; simp; omega), ← HBb.out, hf]
                  congr 1
                  simp [HRc.out, List.length_take, Nat.min_eq_left (Nat.le_of_lt hqc2)])
                have HFt := Lib.hid (show Calls Tryd.prog 42 #[.agg #[.slice xA qms.length xc, .string ⟨xo.toArray⟩], .int .i64 q, .int .i64 cs[q]] wr (RetA f wr) from by
                  have h := fits_any xs xA xc ⟨xo.toArray⟩ q cs[q] hqx wr (HCe.out.ext HBq.out)
                  rw [HXl.out, ← hf] at h
                  exact h)
                clear hf
                generalize cs[q] = a at *
                cases b with
                | false =>
                  go_wp2_with fail
                  go_roundw
                  case rel => exact ⟨q + 1, false, rfl, by go_num, by omega, (show false = _ by rw [HSn.out]; rfl), HB3.out⟩
                  case measure => simp [intOf]; omega
                | true =>
                  go_wp2_with fail
                  refine HFt.out.mono ?_
                  rintro e w' ⟨rfl, hb4⟩
                  have HB4 := Lib.hid (ext_trans HB3.out hb4)
                  clear hb4 HFt
                  go_wp2_with fail
                  go_roundw
                  case rel => exact ⟨q + 1, f, rfl, by go_num, by omega, (show f = _ by rw [HSn.out]; rfl), HB4.out⟩
                  case measure => simp [intOf]; omega
              · obtain rfl : n = q := by omega
                have hcq : ¬ (n : Int) < n := by omega
                have HBf := Lib.hid (show b = fitR (rAt rs j).cells cs by
                  have := HBb.out
                  rwa [HN.out, List.take_length] at this)
                have HEnd := Lib.hid (ext_trans HB2.out (ext_trans HX1.out HB3.out))
                cases b with
                | true =>
                  have HE := Lib.hid (show res = some xo by rw [HRes.out, sayO_at (by rw [HRl.out]; exact hlj) HF.out HBf.out.symm, HRo.out])
                  go_wp2_with fail
                  go_ret2
                  exact ⟨by rw [HE.out]; rfl, ext_trans HX.out (ext_trans HB1.out HEnd.out)⟩
                | false =>
                  go_wp2_with fail
                  go_roundw
                  case rel => exact ⟨j + 1, by go_num, by omega, (show ∀ i, i < j + 1 → fitR (rAt rs i).cells cs = false from fun i hi => by
                    rcases Nat.lt_succ_iff_lt_or_eq.1 hi with h | rfl
                    · exact HF.out i h
                    · exact HBf.out.symm), HEnd.out⟩
                  case measure => simp [intOf]; omega
          · obtain rfl : ms.length = j := by omega
            have hcj : ¬ (ms.length : Int) < ms.length := by omega
            have HE := Lib.hid (show res = none by rw [HRes.out, sayO_no (fun i hi => HF.out i (by rw [HRl.out] at hi; exact hi))])
            go_wp2_with fail
            go_ret2
            exact ⟨by rw [HE.out]; rfl, ext_trans HX.out (ext_trans HB1.out HB2.out)⟩
  · have hlb : ((cs.length : Int) != (qms.length : Int)) = true := by simp; omega
    have HE := Lib.hid (show res = none from HR2.out fun hm => hlen (by have := (mem_exts.1 hm).1; rwa [List.length_map] at this))
    clear hlen
    go_wp2_with fail
    go_ret2
    exact ⟨by rw [HE.out]; rfl, ext_trans HX.out HB1.out⟩
end Go.Proofs.YtednlkchbjpabaaDoor.Gp

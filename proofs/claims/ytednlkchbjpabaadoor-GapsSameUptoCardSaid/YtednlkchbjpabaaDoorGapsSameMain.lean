/- GapsSame: the law's walk. -/
import Derived.Test.YtednlkchbjpabaaDoorGsD
import Derived.Deep.CutBlock
namespace Go.Proofs.YtednlkchbjpabaaDoor.GapsSame
open Go.RowKit Mem Nest Fk Err Gp

def SameO (res : Option (List Int)) (w : World) (e : Ending) (w' : World) : Prop := ∃ (A' : Option Addr) (c' : Nat), e = .returned (.tuple #[.slice A' (res.getD []).length c', .bool res.isNone, .nilIface]) ∧ Rd w' A' (ints (res.getD [])) ∧ Below w.heap.size w w'
theorem sameO {res : Option (List Int)} {E : Nat → Addr} {w w' : World} {e : Ending} (h : SamePost 0 res E w e w') : SameO res w e w' := by
  obtain ⟨hb, h⟩ := h
  rcases h with ⟨h0, _⟩ | ⟨_, rfl, rfl⟩ | ⟨_, cs, A', c', rfl, rfl, hr⟩
  · exact absurd rfl h0
  · exact ⟨none, 0, rfl, Rd.nil, hb⟩
  · exact ⟨A', c', rfl, hr, hb⟩
def SameX (ev : Value) (w : World) (e : Ending) (w' : World) : Prop := e = .returned (.tuple #[.slice none 0 0, .bool false, ev]) ∧ Below w.heap.size w w'
def SameC (cd : Nat) (res : Option (List Int)) (E : Nat → Addr) (gs : List Int) (is : Bool) (ev : Value) : Prop := (cd ≠ 0 ∧ gs = [] ∧ is = false ∧ ev = errVal E cd) ∨ (cd = 0 ∧ gs = res.getD [] ∧ is = res.isNone ∧ ev = .nilIface)
theorem sameU {cd : Nat} {res : Option (List Int)} {E : Nat → Addr} {w w' : World} {e : Ending} (h : SamePost cd res E w e w') :
    ∃ (GA : Option Addr) (gc : Nat) (gs : List Int) (is : Bool) (ev : Value), e = .returned (.tuple #[.slice GA gs.length gc, .bool is, ev]) ∧ Rd w' GA (ints gs) ∧ SameC cd res E gs is ev ∧ Below w.heap.size w w' := by
  obtain ⟨hb, h⟩ := h
  rcases h with ⟨h0, rfl⟩ | ⟨h0, rfl, rfl⟩ | ⟨h0, cs, A', c', rfl, rfl, hr⟩
  · exact ⟨none, 0, [], false, _, rfl, Rd.nil, .inl ⟨h0, rfl, rfl, rfl⟩, hb⟩
  · exact ⟨none, 0, [], true, _, rfl, Rd.nil, .inr ⟨h0, rfl, rfl, rfl⟩, hb⟩
  · exact ⟨A', c', cs, false, _, rfl, hr, .inr ⟨h0, rfl, rfl, rfl⟩, hb⟩
theorem find_first {α : Type} {p : α → Bool} {l : List α} {i : Nat} (hi : i < l.length) (h : ∀ j (hj : j < l.length), j < i → p l[j] = false) (hp : p l[i] = true) : l.find? p = some l[i] := by
  rw [List.find?_eq_some_iff_getElem]
  exact ⟨hp, i, hi, rfl, fun j hj => by rw [h j (by omega) hj]; rfl⟩
theorem code_le {qa qb : List Qn} {ra rb : List Rw} : sameCode qa qb ra rb ≤ 11 := by
  unfold sameCode
  have h1 := vcode_le qa ra
  have h2 := vcode_le qb rb
  repeat' split
  all_goals omega
set_option maxRecDepth 100000 in
set_option maxHeartbeats 16000000 in
theorem gs_walk (E : Nat → Addr) (qa : List QnM) (A : Option Addr) (c : Nat) (ra : List RR) (B : Option Addr) (bc : Nat) (qb : List QnM) (A2 : Option Addr) (c2 : Nat) (rb : List RR) (B2 : Option Addr) (bc2 : Nat) (cs : List Int) (CA : Option Addr) (cc : Nat)
    (hsm : SmallP (qa.map QnM.qn) (ra.map rrRw)) (hal : ∀ q ∈ qa, q.ans.length ≤ 1048576 ∧ (q.A = none → q.c = 0)) (hcl : ∀ r ∈ ra, r.cells.length ≤ 1048576 ∧ ∀ x ∈ r.cells, RcOk x)
    (hsm2 : SmallP (qb.map QnM.qn) (rb.map rrRw)) (hal2 : ∀ q ∈ qb, q.ans.length ≤ 1048576 ∧ (q.A = none → q.c = 0)) (hcl2 : ∀ r ∈ rb, r.cells.length ≤ 1048576 ∧ ∀ x ∈ r.cells, RcOk x)
    (w : World) (hE : Errs w E) (hq : QsP w A qa) (hr : RawR w B ra) (hri : ∀ r ∈ ra, ∀ x ∈ r.cells, Rd w x.A (ints x.l)) (hq2 : QsP w A2 qb) (hr2 : RawR w B2 rb) (hri2 : ∀ r ∈ rb, ∀ x ∈ r.cells, Rd w x.A (ints x.l)) (hc : Rd w CA (ints cs)) :
    Calls Tryd.prog 5 #[.agg #[.slice A qa.length c, .slice B ra.length bc], .agg #[.slice A2 qb.length c2, .slice B2 rb.length bc2], .slice CA cs.length cc] w (RetA true w) := by
  have hql : qa.length ≤ 1048576 := by have := hsm.ql; rwa [List.length_map] at this
  have hrl : ra.length ≤ 1048576 := by have := hsm.rl; rwa [List.length_map] at this
  have hql2 : qb.length ≤ 1048576 := by have := hsm2.ql; rwa [List.length_map] at this
  have hrl2 : rb.length ≤ 1048576 := by have := hsm2.rl; rwa [List.length_map] at this
  obtain ⟨W1, hW1⟩ : ∃ W, W = w.alloc (.cells (List.toArray [.slice A qa.length c, .slice B ra.length bc]) 25) := ⟨_, rfl⟩
  obtain ⟨K, hK⟩ : ∃ K, K = w.heap.size := ⟨_, rfl⟩
  have hx1 : Below w.heap.size w W1 := by rw [hW1]; exact ext_alloc _ _
  have hb1 : Blk W1 K 25 [.slice A qa.length c, .slice B ra.length bc] := by rw [hW1, hK]; exact Blk.new _ _ _
  have hs1 : W1.heap.size = K + 1 := by rw [hW1, World.size_alloc, hK]
  obtain ⟨W, hW⟩ : ∃ W, W = W1.alloc (.cells (List.toArray [.slice A2 qb.length c2, .slice B2 rb.length bc2]) 25) := ⟨_, rfl⟩
  have hx2 : Below W1.heap.size W1 W := by rw [hW]; exact ext_alloc _ _
  have hb2 : Blk W (K + 1) 25 [.slice A2 qb.length c2, .slice B2 rb.length bc2] := by rw [hW, ← hs1]; exact Blk.new _ _ _
  have HX := Lib.hid (ext_trans hx1 hx2)
  have a0 := cell_ext hx2 (hb1.cell 0 rfl)
  have a1 := cell_ext hx2 (hb1.cell 1 rfl)
  have b0 := hb2.cell 0 rfl
  have b1 := hb2.cell 1 rfl
  have HZ := Lib.hid (And.intro a0 (And.intro a1 (And.intro b0 b1)))
  have HE := Lib.hid (hE.below HX.out)
  have HQ := Lib.hid (hq.ext HX.out)
  have HR := Lib.hid (hr.ext HX.out)
  have HRi := Lib.hid (fun r h x h2 => (hri r h x h2).ext HX.out)
  have HQ2 := Lib.hid (hq2.ext HX.out)
  have HR2 := Lib.hid (hr2.ext HX.out)
  have HRi2 := Lib.hid (fun r h x h2 => (hri2 r h x h2).ext HX.out)
  have HC := Lib.hid (hc.ext HX.out)
  have HS := Lib.hid hsm
  have HS2 := Lib.hid hsm2
  have HAl := Lib.hid hal
  have HAl2 := Lib.hid hal2
  have HCl := Lib.hid hcl
  have HCl2 := Lib.hid hcl2
  have HG := Lib.hid (gapped_any E W HE.out)
  have HFa := Lib.hid (fun w' (hb : Below W.heap.size W w') => fewcells_any qa A c ra B bc hql hrl (fun q h => (hal q h).1) (fun r h => (hcl r h).1) w' (HQ.out.ext hb) (HR.out.ext hb))
  have HFb := Lib.hid (fun w' (hb : Below W.heap.size W w') => fewcells_any qb A2 c2 rb B2 bc2 hql2 hrl2 (fun q h => (hal2 q h).1) (fun r h => (hcl2 r h).1) w' (HQ2.out.ext hb) (HR2.out.ext hb))
  have HTa := Lib.hid (fun w' (hb : Below W.heap.size W w') => table_any qa A c ra B bc hql hrl hal hcl w' (HQ.out.ext hb) (HR.out.ext hb) (fun r h x h2 => (HRi.out r h x h2).ext hb))
  have HTb := Lib.hid (fun w' (hb : Below W.heap.size W w') => table_any qb A2 c2 rb B2 bc2 hql2 hrl2 hal2 hcl2 w' (HQ2.out.ext hb) (HR2.out.ext hb) (fun r h x h2 => (HRi2.out r h x h2).ext hb))
  obtain ⟨Va, hVa⟩ : ∃ V, V = vcode (qa.map QnM.qn) (ra.map rrRw) := ⟨_, rfl⟩
  obtain ⟨Vb, hVb⟩ : ∃ V, V = vcode (qb.map QnM.qn) (rb.map rrRw) := ⟨_, rfl⟩
  obtain ⟨sq, hsq⟩ : ∃ sq, sq = sameQ (qa.map QnM.qn) (qb.map QnM.qn) := ⟨_, rfl⟩
  obtain ⟨cd, hcd⟩ : ∃ cd, cd = sameCode (qa.map QnM.qn) (qb.map QnM.qn) (ra.map rrRw) (rb.map rrRw) := ⟨_, rfl⟩
  have HCd := Lib.hid (show cd = if Va ≠ 0 then Va else if Vb ≠ 0 then Vb else if sq = true then 0 else 9 by rw [hcd, hVa, hVb, hsq]; rfl)
  have HCe := Lib.hid hcd
  have HVa := Lib.hid hVa
  have HVb := Lib.hid hVb
  have HSq := Lib.hid hsq
  have HW1 := Lib.hid hW1
  have HW := Lib.hid hW
  have HK := Lib.hid hK
  clear hx1 hx2 hb1 hb2 hW1 hW hK hs1 hE hq hr hri hq2 hr2 hri2 hsm hsm2 hal hal2 hcl hcl2 hVa hVb hsq hcd hc
  go_enter Tryd.func5, Tryd.ntmps5
  go_upto_region 1 with fail
  rw [show w.alloc (.cells #[.slice A qa.length c, .slice B ra.length bc] 25) = W1 from HW1.out.symm, ← HK.out]
  rw [show W1.alloc (.cells #[.slice A2 qb.length c2, .slice B2 rb.length bc2] 25) = W from HW.out.symm]
  clear HW1 HW
  go_wp2_with fail
  refine HG.out.mono ?_
  rintro e w1 ⟨rfl, hb1⟩
  have HB1 := Lib.hid hb1
  have a0 := cell_ext hb1 a0
  have a1 := cell_ext hb1 a1
  have b0 := cell_ext hb1 b0
  have b1 := cell_ext hb1 b1
  clear hb1 HG
  go_wp2_with fail
  refine (HFa.out w1 HB1.out).mono ?_
  rintro e w2 ⟨fa, rfl, hfa, hb2⟩
  have HB2 := Lib.hid (ext_trans HB1.out hb2)
  have HFwa := Lib.hid hfa
  have a0 := cell_ext hb2 a0
  have a1 := cell_ext hb2 a1
  have b0 := cell_ext hb2 b0
  have b1 := cell_ext hb2 b1
  clear hb2 hfa HFa
  go_wp2_with fail
  refine (HFb.out w2 HB2.out).mono ?_
  rintro e w3 ⟨fb, rfl, hfb, hb3⟩
  have HB3 := Lib.hid (ext_trans HB2.out hb3)
  have HFwb := Lib.hid hfb
  have a0 := cell_ext hb3 a0
  have a1 := cell_ext hb3 a1
  have b0 := cell_ext hb3 b0
  have b1 := cell_ext hb3 b1
  clear hb3 hfb HFb
  by_cases hno : fa = false ∨ fb = false ∨ 100 < cs.length
  · have HEnd := Lib.hid (ext_trans HX.out HB3.out)
    cases fa with
    | false =>
      clear hno
      go_wp2_with fail
      go_ret
      exact retA rfl HEnd.out
    | true =>
      cases fb with
      | false =>
        clear hno
        go_wp2_with fail
        go_ret
        exact retA rfl HEnd.out
      | true =>
        have h100 : (100 : Int) < cs.length := by
          rcases hno with h | h | h
          · cases h
          · cases h
          · omega
        clear hno
        go_wp2_with fail
        go_ret
        exact retA rfl HEnd.out
  · obtain rfl : fa = true := by cases fa with | true => rfl | false => exact absurd (.inl rfl) hno
    obtain rfl : fb = true := by cases fb with | true => rfl | false => exact absurd (.inr (.inl rfl)) hno
    have hcs100 : cs.length ≤ 100 := by
      apply Nat.le_of_not_lt
      intro h
      exact hno (.inr (.inr h))
    have h100 : ¬ (100 : Int) < cs.length := by omega
    have HDa := Lib.hid (fun (w' : World) (hb : Below W.heap.size W w') => drows_of (HR.out.ext hb) (fun r h x h2 => (HRi.out r h x h2).ext hb) HCl.out (HFwa.out rfl))
    have HDb := Lib.hid (fun (w' : World) (hb : Below W.heap.size W w') => drows_of (HR2.out.ext hb) (fun r h x h2 => (HRi2.out r h x h2).ext hb) HCl2.out (HFwb.out rfl))
    have HVla := Lib.hid (show ∀ w', Below W.heap.size W w' → Calls Tryd.prog 10 #[.agg #[.slice A qa.length c, .slice B ra.length bc]] w' (RetI (Va : Int) w') from fun w' hb => by
      have h := tvalid_any qa A c (ra.map rrM) B bc (HS.out.small rfl (rrM_rw ra)) w' (HQ.out.ext hb) (HDa.out w' hb)
      rw [rrM_rw, List.length_map, ← HVa.out] at h
      exact h)
    have HVlb := Lib.hid (show ∀ w', Below W.heap.size W w' → Calls Tryd.prog 10 #[.agg #[.slice A2 qb.length c2, .slice B2 rb.length bc2]] w' (RetI (Vb : Int) w') from fun w' hb => by
      have h := tvalid_any qb A2 c2 (rb.map rrM) B2 bc2 (HS2.out.small rfl (rrM_rw rb)) w' (HQ2.out.ext hb) (HDb.out w' hb)
      rw [rrM_rw, List.length_map, ← HVb.out] at h
      exact h)
    clear hno
    go_wp2_with fail
    refine (HVla.out w3 HB3.out).mono ?_
    rintro e w4 ⟨rfl, hb4⟩
    have HB4 := Lib.hid (ext_trans HB3.out hb4)
    have a0 := cell_ext hb4 a0
    have a1 := cell_ext hb4 a1
    have b0 := cell_ext hb4 b0
    have b1 := cell_ext hb4 b1
    clear hb4 HVla
    obtain ⟨e1, he1⟩ : ∃ e1 : Nat, e1 = if Va = 0 then Vb else Va := ⟨_, rfl⟩
    have HE1 := Lib.hid he1
    clear he1
    go_upto_if 52 with fail
    go_cut [10] (fun t10 wx => t10 = .int .i64 e1 ∧ Hid (Below W.heap.size W wx))
    case first =>
      by_cases hv : Va = 0
      · have HF := Lib.hid (show e1 = Vb by rw [HE1.out, if_pos hv])
        subst hv
        rw [show ((0 : Nat) : Int) = 0 from rfl]
        go_wp2_with fail
        refine (HVlb.out w4 HB4.out).mono ?_
        rintro e w5 ⟨rfl, hb5⟩
        have HB5 := Lib.hid (ext_trans HB4.out hb5)
        clear hb5
        go_wp2_with fail
        go_meet
        exact ⟨by rw [HF.out], HB5.out⟩
      · have hvb : (((Va : Nat) : Int) == 0) = false := by simp; omega
        have HF := Lib.hid (show e1 = Va by rw [HE1.out, if_neg hv])
        clear hv
        go_wp2_with fail
        go_meet
        exact ⟨by rw [HF.out], HB4.out⟩
    case rest =>
      obtain ⟨rfl, HB5⟩ := hcut
      clear a0 a1 b0 b1 HVlb
      have a0 := cell_ext HB5.out HZ.out.1
      have a1 := cell_ext HB5.out HZ.out.2.1
      have b0 := cell_ext HB5.out HZ.out.2.2.1
      have b1 := cell_ext HB5.out HZ.out.2.2.2
      obtain ⟨leq, hleq⟩ : ∃ leq, ((qa.length : Int) == (qb.length : Int)) = leq := ⟨_, rfl⟩
      have HLeq := Lib.hid (show (qa.length == qb.length) = leq by
        rw [← hleq, Bool.eq_iff_iff, beq_iff_eq, beq_iff_eq]
        omega)
      go_upto_block 0 with fail
      go_cut [11] (fun t11 wx => t11 = .bool sq ∧ Hid (Below W.heap.size W wx))
      case first =>
        as_aux_lemma =>
          have HQt := Lib.hid (HQ.out.ext HB5.out)
          have HQt2 := Lib.hid (HQ2.out.ext HB5.out)
          go_wp2_with fail
          go_loopw [11, 12] (fun t11 t12 wr => ∃ (i : Nat) (b : Bool), t11 = .bool b ∧ t12 = .int .i64 i ∧ i ≤ qa.length ∧ Hid (b = (leq && !diffQ (qa.map QnM.qn) (qb.map QnM.qn) i)) ∧ Hid (Below wc.heap.size wc wr)) (fun _ t12 _ => qa.length - (intOf t12).toNat)
          case atStart => exact ⟨0, leq, rfl, rfl, by omega, (show leq = (leq && !diffQ (qa.map QnM.qn) (qb.map QnM.qn) 0) by simp [diffQ, anyTo_zero]), Below.refl _ _⟩
          case round =>
            obtain ⟨i, b, rfl, rfl, hi, HB, HBx⟩ := hrel
            have a0 := cell_ext HBx.out a0
            have a1 := cell_ext HBx.out a1
            have b0 := cell_ext HBx.out b0
            have b1 := cell_ext HBx.out b1
            have HEnd := Lib.hid (ext_trans HB5.out HBx.out)
            by_cases hlt : i < qa.length
            · have hcl : (i : Int) < qa.length := by omega
              cases b with
              | false =>
                have HF := Lib.hid (show sq = false by
                  rw [HSq.out]
                  unfold sameQ
                  rw [List.length_map, List.length_map, HLeq.out]
                  cases leq with
                  | false => rfl
                  | true =>
                    have h := HB.out
                    have h2 : diffQ (qa.map QnM.qn) (qb.map QnM.qn) i = true := by
                      cases hd : diffQ (qa.map QnM.qn) (qb.map QnM.qn) i with
                      | true => rfl
                      | false => rw [hd] at h; cases h
                    have h3 : diffQ (qa.map QnM.qn) (qb.map QnM.qn) qa.length = true := by
                      cases hd : diffQ (qa.map QnM.qn) (qb.map QnM.qn) qa.length with
                      | true => rfl
                      | false =>
                        unfold diffQ at h2 hd
                        have h4 : anyTo (fun i => !eqQ (qAt (qa.map QnM.qn) i) (qAt (qb.map QnM.qn) i)) i = false := by
                          unfold anyTo
                          rw [List.any_eq_false]
                          intro k hk
                          rw [anyTo_no hd (Nat.lt_trans (List.mem_range.1 hk) hlt)]
                          simp
                        rw [h4] at h2
                        cases h2
                    rw [h3]
                    rfl)
                go_wp2_with fail
                go_meet
                exact ⟨by rw [HF.out], HEnd.out⟩
              | true =>
                have hlt2 : leq = true := by
                  cases leq with
                  | true => rfl
                  | false => have h := HB.out; cases h
                have hll : qa.length = qb.length := by have := HLeq.out; rw [hlt2] at this; exact beq_iff_eq.1 this
                have hib : i < qb.length := by omega
                have hibc : (i : Int) < qb.length := by omega
                clear hll
                obtain ⟨xb, xo, hA, x0, x1⟩ := (HQt.out.ext HBx.out).row hlt
                subst hA
                obtain ⟨yb, yo, hA2, y0, y1⟩ := (HQt2.out.ext HBx.out).row hib
                subst hA2
                have HAx := Lib.hid ((HQt.out.ext HBx.out).ans _ (List.getElem_mem hlt))
                have HAy := Lib.hid ((HQt2.out.ext HBx.out).ans _ (List.getElem_mem hib))
                have hxl := (HAl.out _ (List.getElem_mem hlt)).1
                have hyl := (HAl2.out _ (List.getElem_mem hib)).1
                have HQx := Lib.hid (show qAt (qa.map QnM.qn) i = qa[i].qn from qAt_m hlt)
                have HQy := Lib.hid (show qAt (qb.map QnM.qn) i = qb[i].qn from qAt_m hib)
                generalize qa[i] = X at *
                generalize qb[i] = Y at *
                obtain ⟨xn, xa, xA, xc⟩ := X
                obtain ⟨yn, ya, yA, yc⟩ := Y
                simp only [QnM.qn] at x0 x1 y0 y1 HAx HAy hxl hyl HQx HQy
                have HCt := Lib.hid (fun n => (sameTexts_any xa ya xA yA xc yc (wr.drewN n) (HAx.out.ext (ext_drewN wr n)) (HAy.out.ext (ext_drewN wr n)) hxl hyl).mono fun e w' h => (show e = .returned (.bool (xa == ya)) ∧ ∃ m, w' = wr.drewN m from by
                  obtain ⟨h1, m, h2⟩ := h
                  exact ⟨h1, n + m, by rw [h2, World.drewN_drewN]⟩))
                obtain ⟨e, he⟩ : ∃ e, (xn == yn) = e := ⟨_, rfl⟩
                obtain ⟨d, hd⟩ : ∃ d, (xa == ya) = d := ⟨_, rfl⟩
                rw [hd] at HCt
                have HNx := Lib.hid (show (leq && !diffQ (qa.map QnM.qn) (qb.map QnM.qn) (i + 1)) = (e && d) by
                  have h := HB.out
                  rw [hlt2, Bool.true_and] at h ⊢
                  unfold diffQ at h ⊢
                  rw [anyTo_succ]
                  have h2 : anyTo (fun i => !eqQ (qAt (qa.map QnM.qn) i) (qAt (qb.map QnM.qn) i)) i = false := by
                    cases hz : anyTo (fun i => !eqQ (qAt (qa.map QnM.qn) i) (qAt (qb.map QnM.qn) i)) i with
                    | false => rfl
                    | true => rw [hz] at h; cases h
                  rw [h2, HQx.out, HQy.out]
                  unfold eqQ
                  rw [he, hd]
                  simp)
                generalize xa.length = nx at *
                generalize ya.length = ny at *
                clear hd hlt2
                go_upto_region 13 with fail
                cases e with
                | false =>
                  go_quiet (fail)
                  have HBy := Lib.hid (ext_trans HBx.out (ext_drewN wr nq))
                  clear x0 x1 y0 y1 a0 a1 b0 b1 he
                  go_wp2_with fail
                  go_roundw
                  case rel => exact ⟨i + 1, false, rfl, by go_num, by omega, (show false = _ by rw [HNx.out]; rfl), HBy.out⟩
                  case measure => simp [intOf]; omega
                | true =>
                  go_quiet ((go_at_call 24; exact HCt.out _))
                  have HBy := Lib.hid (ext_trans HBx.out (ext_drewN wr nq))
                  clear x0 x1 y0 y1 a0 a1 b0 b1 he
                  go_wp2_with fail
                  go_roundw
                  case rel => exact ⟨i + 1, d, rfl, by go_num, by omega, (show d = _ by rw [HNx.out]; rfl), HBy.out⟩
                  case measure => simp [intOf]; omega
            · obtain rfl : qa.length = i := by omega
              have hcl : ¬ (qa.length : Int) < qa.length := by omega
              have HF := Lib.hid (show b = sq by
                rw [HB.out, HSq.out]
                unfold sameQ
                rw [List.length_map, List.length_map, HLeq.out])
              go_wp2_with fail
              go_meet
              exact ⟨by rw [HF.out], HEnd.out⟩
      case rest =>
        clear a0 a1 b0 b1
        obtain ⟨rfl, HB6⟩ := hcut
        have HCd2 := Lib.hid (show cd = if e1 ≠ 0 then e1 else if sq = true then 0 else 9 by
          rw [HCd.out, HE1.out]
          by_cases h : Va = 0
          · rw [if_neg (by simpa using h), if_pos h]
          · rw [if_pos h, if_neg h, if_pos h])
        clear hleq
        obtain ⟨c0, hc0⟩ : ∃ c0 : Bool, c0 = (decide (e1 = 0) && !sq) := ⟨_, rfl⟩
        have HC0 := Lib.hid hc0
        clear hc0
        go_upto_region 14 with fail
        go_cut [105] (fun t105 wx => t105 = .bool c0 ∧ wc = wx)
        case first =>
          by_cases h1 : e1 = 0
          · have HF := Lib.hid (show c0 = !sq by rw [HC0.out, decide_eq_true h1]; rfl)
            subst h1
            rw [show ((0 : Nat) : Int) = 0 from rfl]
            go_wp2_with fail
            go_meet
            exact ⟨by rw [HF.out], rfl⟩
          · have hvb : (((e1 : Nat) : Int) == 0) = false := by simp; omega
            have HF := Lib.hid (show c0 = false by rw [HC0.out, decide_eq_false h1]; rfl)
            clear h1
            go_wp2_with fail
            go_meet
            exact ⟨by rw [HF.out], rfl⟩
        case rest =>
        obtain ⟨rfl, hw9⟩ := hcut
        subst hw9
        go_upto_if 105 with fail
        go_cut [10] (fun t10 wx => t10 = .int .i64 cd ∧ Hid (Below W.heap.size W wx))
        case first =>
          cases c0 with
          | true =>
            have HF := Lib.hid (show (cd : Int) = 9 by
              have h := HC0.out
              have h1 : e1 = 0 := by
                by_cases h1 : e1 = 0
                · exact h1
                · rw [decide_eq_false h1] at h
                  cases h
              have h2 : sq = false := by
                cases sq with
                | false => rfl
                | true => rw [Bool.not_true, Bool.and_false] at h; cases h
              rw [HCd2.out, if_neg (by simp [h1]), h2]
              rfl)
            go_wp2_with fail
            go_meet
            exact ⟨by rw [HF.out], HB6.out⟩
          | false =>
            have HF := Lib.hid (show cd = e1 by
              have h := HC0.out
              rw [HCd2.out]
              by_cases h1 : e1 = 0
              · rw [decide_eq_true h1, Bool.true_and] at h
                have h2 : sq = true := by
                  cases sq with
                  | true => rfl
                  | false => cases h
                rw [if_neg (by simp [h1]), h2, h1]
                rfl
              · rw [if_pos h1])
            go_wp2_with fail
            go_meet
            exact ⟨by rw [HF.out], HB6.out⟩
        case rest =>
          obtain ⟨rfl, HB7⟩ := hcut
          have a0 := cell_ext HB7.out HZ.out.1
          have a1 := cell_ext HB7.out HZ.out.2.1
          have b0 := cell_ext HB7.out HZ.out.2.2.1
          have b1 := cell_ext HB7.out HZ.out.2.2.2
          obtain ⟨res, hres⟩ : ∃ res, res = (exts (qa.map fun q => q.ans.length)).find? fun c => !(sayO (ra.map rrRw) c == sayO (rb.map rrRw) c) := ⟨_, rfl⟩
          have HRes := Lib.hid hres
          clear hres
          obtain ⟨V6, hV6⟩ : ∃ V6, V6 = wc := ⟨_, rfl⟩
          rw [← hV6] at HB7 a0 a1 b0 b1 ⊢
          clear hV6 wc
          have HTa6 := Lib.hid (fun w' (hb : Below V6.heap.size V6 w') => HTa.out w' (ext_trans HB7.out hb))
          have HTb6 := Lib.hid (fun w' (hb : Below V6.heap.size V6 w') => HTb.out w' (ext_trans HB7.out hb))
          go_upto_region 16 with fail
          go_cut [13, 14, 15] (fun t13 t14 t15 wx => ∃ (GA : Option Addr) (gc : Nat) (gs : List Int) (is : Bool) (ev : Value), t13 = .slice GA gs.length gc ∧ t14 = .bool is ∧ ev = t15 ∧ Hid (Below W.heap.size W wx) ∧ Hid (Rd wx GA (ints gs)) ∧ Hid (SameC cd res E gs is ev))
          case first =>
            as_aux_lemma =>
              have hdr := ext_drewN V6 1
              go_region_held3 (fun w' => w'.cell? ⟨K, 0, none⟩ = some (.slice A qa.length c) ∧ w'.cell? ⟨K, 1, none⟩ = some (.slice B ra.length bc) ∧ w'.cell? ⟨K + 1, 0, none⟩ = some (.slice A2 qb.length c2) ∧ w'.cell? ⟨K + 1, 1, none⟩ = some (.slice B2 rb.length bc2))
                ((first | exact ⟨cell_ext HBs3.out a0, cell_ext HBs3.out a1, cell_ext HBs3.out b0, cell_ext HBs3.out b1⟩ | exact ⟨cell_ext HBs2.out a0, cell_ext HBs2.out a1, cell_ext HBs2.out b0, cell_ext HBs2.out b1⟩ | exact ⟨cell_ext HBs1.out a0, cell_ext HBs1.out a1, cell_ext HBs1.out b0, cell_ext HBs1.out b1⟩ | exact ⟨a0, a1, b0, b1⟩ | exact ⟨cell_ext hdr a0, cell_ext hdr a1, cell_ext hdr b0, cell_ext hdr b1⟩))
                ((first
                  | (go_at_call_of 9 (Value.agg #[.slice A qa.length c, .slice B ra.length bc]); have hz := HBs1.out; refine (HTa6.out _ hz).mono ?_; rintro e wy ⟨q2, QA, qac, m2, RA, rac, rfl, t1, t2, t3, t4, t5, hb⟩; have HFA := Lib.hid (show TabF wy qa ra q2 QA m2 RA from ⟨t1, t2, t3, t4, t5⟩); have HBs2 := Lib.hid (ext_trans hz hb); have HB12 := Lib.hid hb; clear t1 t2 t3 t4 t5 hb hz)
                  | (go_at_call_of 9 (Value.agg #[.slice A2 qb.length c2, .slice B2 rb.length bc2]); have hz := HBs1.out; refine (HTb6.out _ hz).mono ?_; rintro e wy ⟨q3, QB, qbc, m3, RB, rbc, rfl, t1, t2, t3, t4, t5, hb⟩; have HFB := Lib.hid (show TabF wy qb rb q3 QB m3 RB from ⟨t1, t2, t3, t4, t5⟩); have HBs2 := Lib.hid (ext_trans hz hb); have HB12 := Lib.hid hb; clear t1 t2 t3 t4 t5 hb hz)
                  | (go_at_call_of 9 (Value.agg #[.slice A qa.length c, .slice B ra.length bc]); refine (HTa6.out _ hdr).mono ?_; rintro e wx ⟨q2, QA, qac, m2, RA, rac, rfl, t1, t2, t3, t4, t5, hb⟩; have HFA := Lib.hid (show TabF wx qa ra q2 QA m2 RA from ⟨t1, t2, t3, t4, t5⟩); have HBs1 := Lib.hid (ext_trans hdr hb); clear t1 t2 t3 t4 t5 hb)
                  | (go_at_call_of 9 (Value.agg #[.slice A2 qb.length c2, .slice B2 rb.length bc2]); refine (HTb6.out _ hdr).mono ?_; rintro e wx ⟨q3, QB, qbc, m3, RB, rbc, rfl, t1, t2, t3, t4, t5, hb⟩; have HFB := Lib.hid (show TabF wx qb rb q3 QB m3 RB from ⟨t1, t2, t3, t4, t5⟩); have HBs1 := Lib.hid (ext_trans hdr hb); clear t1 t2 t3 t4 t5 hb)
                  | (go_at_call 25; refine (same_tab HS.out HS2.out (fun q h => (HAl.out q h).1) (fun q h => (HAl2.out q h).1) (HE.out.below (ext_trans HB7.out HBs2.out)) (by first | exact HFA.out | exact HFA.out.ext HB12.out) (by first | exact HFB.out | exact HFB.out.ext HB12.out) res HRes.out).mono ?_; rintro e w8 hsp; rw [← HCe.out] at hsp; obtain ⟨GA, gc, gs, is, ev, rfl, hgr, hsc, hb⟩ := sameU hsp; have HGr := Lib.hid hgr; have HSc := Lib.hid hsc; have HBs3 := Lib.hid (ext_trans HBs2.out hb); clear hsp hgr hsc hb)))
              all_goals
                go_wp2_with fail
                go_meet
                exact ⟨GA, gc, gs, is, ev, rfl, rfl, rfl, ext_trans HB7.out HBs3.out, HGr.out, HSc.out⟩
          case rest =>
            obtain ⟨GA, gc, gs, is, ev, rfl, rfl, rfl, HB8, HGr, HSc⟩ := hcut
            clear a0 a1 b0 b1
            have HSc2 := Lib.hid HSc.out
            have a0 := cell_ext HB8.out HZ.out.1
            have a1 := cell_ext HB8.out HZ.out.2.1
            have b0 := cell_ext HB8.out HZ.out.2.2.1
            have b1 := cell_ext HB8.out HZ.out.2.2.2
            obtain ⟨wb, hwb⟩ : ∃ wb, wb = wc := ⟨_, rfl⟩
            rw [← hwb] at HB8 HGr a0 a1 b0 b1 ⊢
            clear hwb wc
            by_cases h0 : cd = 0
            · obtain ⟨hgs, his, hev⟩ : gs = res.getD [] ∧ is = res.isNone ∧ ev = .nilIface := by
                rcases HSc2.out with ⟨h, _⟩ | ⟨_, h1, h2, h3⟩
                · exact absurd h0 h
                · exact ⟨h1, h2, h3⟩
              subst hev
              have HGs := Lib.hid hgs
              have HIs := Lib.hid his
              clear hgs his
              obtain ⟨hva, hvb, hsqt⟩ : Va = 0 ∧ Vb = 0 ∧ sq = true := by
                have h := HCd.out
                rw [h0] at h
                by_cases g1 : Va = 0
                · by_cases g2 : Vb = 0
                  · refine ⟨g1, g2, ?_⟩
                    rw [if_neg (by simpa using g1), if_neg (by simpa using g2)] at h
                    cases sq with
                    | true => rfl
                    | false => cases h
                  · rw [if_neg (by simpa using g1), if_pos g2] at h
                    exact absurd h.symm g2
                · rw [if_pos g1] at h
                  exact absurd h.symm g1
              have HVa0 := Lib.hid (show vcode (qa.map QnM.qn) (ra.map rrRw) = 0 by rw [← HVa.out]; exact hva)
              have hvt := valid_of (show vcode (qa.map QnM.qn) (ra.map rrRw) = 0 by rw [← HVa.out]; exact hva)
              have hvtb := valid_of (show vcode (qb.map QnM.qn) (rb.map rrRw) = 0 by rw [← HVb.out]; exact hvb)
              have hq12 : qa.length ≤ 12 := by have := hvt.q12; rwa [List.length_map] at this
              obtain ⟨ns, hns⟩ : ∃ ns, ns = qa.map fun q => q.ans.length := ⟨_, rfl⟩
              have HNs := Lib.hid hns
              have HNl := Lib.hid (show ns.length = qa.length by rw [hns, List.length_map])
              have HNl2 := Lib.hid (show ns.length = qb.length by
                have h := sameQ_len (HSq.out.symm.trans hsqt)
                rw [List.length_map, List.length_map] at h
                rw [hns, List.length_map, h])
              have HA12 := Lib.hid (show ∀ q ∈ qa, q.ans.length ≤ 1000 from fun q hq => Nat.le_trans (hvt.a12 q.qn (List.mem_map.2 ⟨q, hq, rfl⟩)) (by omega))
              have HN1 := Lib.hid (show ∀ n ∈ ns, 1 ≤ n from fun n hn => by
                rw [hns] at hn
                obtain ⟨q, hq, rfl⟩ := List.mem_map.1 hn
                exact hvt.a1 q.qn (List.mem_map.2 ⟨q, hq, rfl⟩))
              obtain ⟨rsA, hrsA⟩ : ∃ rs, rs = ra.map rrRw := ⟨_, rfl⟩
              obtain ⟨rsB, hrsB⟩ : ∃ rs, rs = rb.map rrRw := ⟨_, rfl⟩
              have HRsA := Lib.hid hrsA
              have HRsB := Lib.hid hrsB
              have HRes2 := Lib.hid (show res = (exts ns).find? fun c => !(sayO rsA c == sayO rsB c) by rw [HRes.out, hns, hrsA, hrsB])
              have HDsa := Lib.hid (fun (X : LM) (hX : X.l.length = ns.length) (w' : World) (hb : Below W.heap.size W w') (hc : Rd w' X.A (ints X.l)) => show Calls Tryd.prog 23 #[.agg #[.slice A qa.length c, .slice B ra.length bc], .slice X.A X.l.length X.c] w' (SayPost (sayO rsA X.l) w') from by
                have h := dsays_any (.slice A qa.length c) (ra.map rrM) B bc X.l X.A X.c (fun r hr => by
                  have h1 : r.rw ∈ ra.map rrRw := by rw [← rrM_rw]; exact List.mem_map.2 ⟨r, hr, rfl⟩
                  have h2 := hvt.cl _ h1
                  unfold RwM.rw at h2
                  rw [List.length_map, List.length_map] at h2
                  have := HNl.out
                  omega) (by rw [List.length_map]; exact hrl) (by have := HNl.out; omega) w' (HDa.out w' hb) hc
                rw [rrM_rw, List.length_map, ← hrsA] at h
                exact h)
              have HDsb := Lib.hid (fun (X : LM) (hX : X.l.length = ns.length) (w' : World) (hb : Below W.heap.size W w') (hc : Rd w' X.A (ints X.l)) => show Calls Tryd.prog 23 #[.agg #[.slice A2 qb.length c2, .slice B2 rb.length bc2], .slice X.A X.l.length X.c] w' (SayPost (sayO rsB X.l) w') from by
                have h := dsays_any (.slice A2 qb.length c2) (rb.map rrM) B2 bc2 X.l X.A X.c (fun r hr => by
                  have h1 : r.rw ∈ rb.map rrRw := by rw [← rrM_rw]; exact List.mem_map.2 ⟨r, hr, rfl⟩
                  have h2 := hvtb.cl _ h1
                  unfold RwM.rw at h2
                  rw [List.length_map, List.length_map] at h2
                  have := HNl2.out
                  omega) (by rw [List.length_map]; exact hrl2) (by have := HNl.out; omega) w' (HDb.out w' hb) hc
                rw [rrM_rw, List.length_map, ← hrsB] at h
                exact h)
              have HCo := Lib.hid (fun (w' : World) (hb : Below W.heap.size W w') => show Calls Tryd.prog 16 #[.agg #[.slice A qa.length c, .slice B ra.length bc], .int .i64 600] w' (CasesPost (casesF 600 ns) w') from by
                have h := casesof_any (.slice B ra.length bc) qa A c 600 (by omega) (by omega) HA12.out w' (HQ.out.ext hb)
                rw [← HNs.out] at h
                exact h)
              subst h0
              rw [show ((0 : Nat) : Int) = 0 from rfl]
              clear hns hrsA hrsB hvt hvtb hva hvb hsqt
              go_wp2_with fail
              refine (HCo.out wb HB8.out).mono ?_
              rintro e wa ⟨LA, lc, xs, rfl, hxs, hL, hba⟩
              have HBa := Lib.hid (ext_trans HB8.out hba)
              have HXs := Lib.hid hxs
              have HL := Lib.hid hL
              have HGr := Lib.hid (HGr.out.ext hba)
              have a0 := cell_ext hba a0
              have a1 := cell_ext hba a1
              have b0 := cell_ext hba b0
              have b1 := cell_ext hba b1
              clear hba hxs hL HCo
              by_cases h6 : 600 < xs.length
              · have h6c : (600 : Int) < xs.length := by omega
                go_wp2_with fail
                go_ret
                exact retA rfl (ext_trans HX.out HBa.out)
              · have h6c : ¬ (600 : Int) < xs.length := by omega
                as_aux_lemma =>
                  have HXe := Lib.hid (show xs.map LM.l = exts ns by
                    rw [HXs.out]
                    refine casesF_small 600 ns HN1.out ?_
                    rw [← HXs.out, List.length_map]
                    omega)
                  have HXm := Lib.hid (show ∀ x ∈ xs, x.l ∈ exts ns from fun x h => by rw [← HXe.out]; exact List.mem_map.2 ⟨x, h, rfl⟩)
                  have HXl := Lib.hid (show ∀ x ∈ xs, x.l.length = ns.length from fun x h => exts_len (HXm.out x h))
                  have HLa := Lib.hid (show ∀ (w' : World), Below wa.heap.size wa w' → LRows w' LA xs from fun w' hb => HL.out.ext hb)
                  have HFirst := Lib.hid (show ∀ i (hi : i < xs.length), (∀ j (hj : j < xs.length), j < i → (sayO rsA xs[j].l == sayO rsB xs[j].l) = true) → (sayO rsA xs[i].l == sayO rsB xs[i].l) = false → res = some xs[i].l from fun i hi h1 h2 => by
                    have hie : i < (exts ns).length := by rw [← HXe.out, List.length_map]; exact hi
                    have he : ∀ j (hj : j < xs.length) (hj2 : j < (exts ns).length), (exts ns)[j] = xs[j].l := fun j hj hj2 => by
                      have : (xs.map LM.l)[j]'(by simpa using hj) = xs[j].l := by simp
                      rw [← this]
                      congr 1
                      exact HXe.out.symm
                    rw [HRes2.out, find_first hie (fun j hj h3 => by
                      have hjx : j < xs.length := by omega
                      rw [he j hjx hj, h1 j hjx h3]
                      rfl) (by rw [he i hi hie, h2]; rfl), he i hi hie])
                  clear a0 a1 b0 b1
                  have HZa := Lib.hid (show ∀ w', Below wa.heap.size wa w' → w'.cell? ⟨K, 0, none⟩ = some (.slice A qa.length c) ∧ w'.cell? ⟨K, 1, none⟩ = some (.slice B ra.length bc) ∧ w'.cell? ⟨K + 1, 0, none⟩ = some (.slice A2 qb.length c2) ∧ w'.cell? ⟨K + 1, 1, none⟩ = some (.slice B2 rb.length bc2) from fun w' hb => by
                    have h := ext_trans HBa.out hb
                    exact ⟨cell_ext h HZ.out.1, cell_ext h HZ.out.2.1, cell_ext h HZ.out.2.2.1, cell_ext h HZ.out.2.2.2⟩)
                  go_wp2_with fail
                  go_loopw [17] (fun t17 wr => ∃ (i : Nat), t17 = .int .i64 i ∧ i ≤ xs.length ∧ Hid (∀ j (hj : j < xs.length), j < i → (sayO rsA xs[j].l == sayO rsB xs[j].l) = true) ∧ Hid (Below wa.heap.size wa wr)) (fun t17 _ => xs.length - (intOf t17).toNat)
                  case atStart => exact ⟨0, rfl, by omega, (fun j hj h => absurd h (by omega)), Below.refl _ _⟩
                  case round =>
                    obtain ⟨i, rfl, hi, HAll, HB⟩ := hrel
                    as_aux_lemma =>
                      obtain ⟨a0, a1, b0, b1⟩ := HZa.out wr HB.out
                      as_aux_lemma =>
                        by_cases hlt : i < xs.length
                        · have hcl : (i : Int) < xs.length := by omega
                          obtain ⟨lb, lo, hLA, l0⟩ := (HLa.out wr HB.out).at hlt
                          subst hLA
                          have HBw := Lib.hid (ext_trans HBa.out HB.out)
                          have HIn := Lib.hid ((HLa.out wr HB.out).ints _ (List.getElem_mem hlt))
                          have hll := HXl.out _ (List.getElem_mem hlt)
                          have HMe := Lib.hid (HXm.out _ (List.getElem_mem hlt))
                          have HStp := Lib.hid (show (sayO rsA xs[i].l == sayO rsB xs[i].l) = true → ∀ j (hj : j < xs.length), j < i + 1 → (sayO rsA xs[j].l == sayO rsB xs[j].l) = true from fun h j hj h2 => by
                            rcases Nat.lt_succ_iff_lt_or_eq.1 h2 with h3 | rfl
                            · exact HAll.out j hj h3
                            · exact h)
                          have HFi := Lib.hid (HFirst.out i hlt HAll.out)
                          have HCa := Lib.hid (fun (w' : World) (hb : Below wr.heap.size wr w') => HDsa.out xs[i] hll w' (ext_trans HBw.out hb) (HIn.out.ext hb))
                          have HCb := Lib.hid (fun (w' : World) (hb : Below wr.heap.size wr w') => HDsb.out xs[i] hll w' (ext_trans HBw.out hb) (HIn.out.ext hb))
                          have hlm : xs[i].l.length ≤ 1048576 := by have := HNl.out; omega
                          have HSy := Lib.hid (fun (w' : World) (hb : Below wr.heap.size wr w') (q2 : List QnM) (QA : Option Addr) (qac : Nat) (m2 : List RwM) (RA : Option Addr) (rac : Nat) (hf : TabF w' qa ra q2 QA m2 RA) => show Calls Tryd.prog 26 #[.agg #[.slice QA q2.length qac, .slice RA m2.length rac], .slice xs[i].A xs[i].l.length xs[i].c] w' (SayPost (sayO rsA xs[i].l) w') from
                            says_tab HS.out (HE.out.below (ext_trans HBw.out hb)) hf HVa0.out xs[i].l xs[i].A xs[i].c hlm (HIn.out.ext hb) _ (fun _ => by rw [HRsA.out]) (fun h => absurd (by rw [← HNs.out]; exact HMe.out) h))
                          have HSg := Lib.hid (fun (w' : World) (hb : Below wr.heap.size wr w') (e : gs = xs[i].l) => show Calls Tryd.prog 18 #[.slice GA gs.length gc, .slice xs[i].A xs[i].l.length xs[i].c] w' (RetA true w') from by
                            have h := same5_any gs xs[i].l GA xs[i].A gc xs[i].c w' (HGr.out.ext (ext_trans HB.out hb)) (HIn.out.ext hb) (by rw [e]; exact hlm) hlm
                            rw [show (gs == xs[i].l) = true by rw [e]; simp] at h
                            exact h)
                          obtain ⟨oa, hoa⟩ : ∃ oa, oa = sayO rsA xs[i].l := ⟨_, rfl⟩
                          obtain ⟨ob, hob⟩ : ∃ ob, ob = sayO rsB xs[i].l := ⟨_, rfl⟩
                          rw [← hoa] at HCa HSy HStp HFi
                          rw [← hob] at HCb HStp HFi
                          have HEq := Lib.hid (opt_eq oa ob)
                          unfold SayPost at HCa HCb HSy
                          obtain ⟨la, hla2⟩ : ∃ la, la = oa.getD [] := ⟨_, rfl⟩
                          obtain ⟨lbb, hlb2⟩ : ∃ lb, lb = ob.getD [] := ⟨_, rfl⟩
                          obtain ⟨pa, hpa⟩ : ∃ pa, pa = oa.isSome := ⟨_, rfl⟩
                          obtain ⟨pb, hpb⟩ : ∃ pb, pb = ob.isSome := ⟨_, rfl⟩
                          rw [← hla2, ← hpa] at HCa HSy
                          rw [← hlb2, ← hpb] at HCb
                          rw [← hla2, ← hpa, ← hlb2, ← hpb] at HEq
                          clear hoa hob hla2 hlb2 hpa hpb hll hlm
                          generalize xs[i] = X at *
                          obtain ⟨l, lA, lc2⟩ := X
                          simp only at l0 HIn HFi HCa HCb HSy HSg
                          obtain ⟨ll, hle⟩ : ∃ ll, ll = l.length := ⟨_, rfl⟩
                          rw [← hle] at l0 HCa HCb HSy HSg
                          have HLe := Lib.hid hle
                          clear hle
                          have hdr := ext_drewN wr 1
                          go_upto_region 25 with fail
                          go_region_held3 (fun w' => w'.cell? ⟨K, 0, none⟩ = some (.slice A qa.length c) ∧ w'.cell? ⟨K, 1, none⟩ = some (.slice B ra.length bc) ∧ w'.cell? ⟨lb, lo + i, none⟩ = some (.slice lA ll lc2))
                            ((first | exact ⟨cell_ext HBs.out a0, cell_ext HBs.out a1, cell_ext HBs.out l0⟩ | exact ⟨a0, a1, l0⟩ | exact ⟨cell_ext hdr a0, cell_ext hdr a1, cell_ext hdr l0⟩))
                            ((go_at_call 23; refine (HCa.out _ hdr).mono ?_; rintro e wx ⟨rfl, hb⟩; have HBs := Lib.hid (ext_trans hdr hb); clear hb))
                          have HBs1 := Lib.hid HBs.out
                          have b0 := cell_ext HBs.out b0
                          have b1 := cell_ext HBs.out b1
                          have l0 := cell_ext HBs.out l0
                          clear hdr a0 a1 HBs HCa
                          have hdr := ext_drewN wx 1
                          go_upto_region 26 with fail
                          go_region_held3 (fun w' => w'.cell? ⟨K + 1, 0, none⟩ = some (.slice A2 qb.length c2) ∧ w'.cell? ⟨K + 1, 1, none⟩ = some (.slice B2 rb.length bc2) ∧ w'.cell? ⟨lb, lo + i, none⟩ = some (.slice lA ll lc2))
                            ((first | exact ⟨cell_ext HBs.out b0, cell_ext HBs.out b1, cell_ext HBs.out l0⟩ | exact ⟨b0, b1, l0⟩ | exact ⟨cell_ext hdr b0, cell_ext hdr b1, cell_ext hdr l0⟩))
                            ((go_at_call 23; refine (HCb.out _ (ext_trans HBs1.out hdr)).mono ?_; rintro e wy ⟨rfl, hb⟩; have HBs := Lib.hid (ext_trans hdr hb); clear hb))
                          have HBs2 := Lib.hid (ext_trans HBs1.out HBs.out)
                          as_aux_lemma =>
                            have l0 := cell_ext HBs.out l0
                            clear hdr b0 b1 HBs HBs1 HCb
                            obtain ⟨a0, a1, _, _⟩ := HZa.out wy (ext_trans HB.out HBs2.out)
                            have hdr := ext_drewN wy 1
                            go_upto_region 27 with fail
                            go_region_held3 (fun w' => w'.cell? ⟨K, 0, none⟩ = some (.slice A qa.length c) ∧ w'.cell? ⟨K, 1, none⟩ = some (.slice B ra.length bc) ∧ w'.cell? ⟨lb, lo + i, none⟩ = some (.slice lA ll lc2))
                              ((first | exact ⟨cell_ext HBs4.out a0, cell_ext HBs4.out a1, cell_ext HBs4.out l0⟩ | exact ⟨cell_ext HBs3.out a0, cell_ext HBs3.out a1, cell_ext HBs3.out l0⟩ | exact ⟨a0, a1, l0⟩ | exact ⟨cell_ext hdr a0, cell_ext hdr a1, cell_ext hdr l0⟩))
                              ((first
                                | (go_at_call 26; refine (HSy.out _ (ext_trans HBs2.out HBs3.out) q2 QA qac m2 RA rac HFA.out).mono ?_; rintro e wz ⟨rfl, hb⟩; have HBs4 := Lib.hid (ext_trans HBs3.out hb); clear hb)
                                | (go_at_call 9; refine (HTa.out _ (ext_trans HBw.out (ext_trans HBs2.out hdr))).mono ?_; rintro e wz ⟨q2, QA, qac, m2, RA, rac, rfl, t1, t2, t3, t4, t5, hb⟩; have HFA := Lib.hid (show TabF wz qa ra q2 QA m2 RA from ⟨t1, t2, t3, t4, t5⟩); have HBs3 := Lib.hid (ext_trans hdr hb); clear t1 t2 t3 t4 t5 hb)))
                            have HBs5 := Lib.hid (ext_trans HBs2.out HBs4.out)
                            have l0 := cell_ext HBs4.out l0
                            clear hdr a0 a1 HBs3 HBs4 HSy HFA
                            have hl1 : (la != la) = false := by simp
                            have hp1 : (pa != pa) = false := by simp
                            obtain ⟨e, he⟩ : ∃ e, (la == lbb) = e := ⟨_, rfl⟩
                            have HE2 := Lib.hid (show (oa == ob) = (e && (pa == pb)) by rw [HEq.out, he])
                            cases e with
                            | true =>
                              have hne : (la != lbb) = false := by rw [bne, he]; rfl
                              cases pa with
                              | false =>
                                cases pb with
                                | false =>
                                  have HS2 := Lib.hid (HStp.out (by rw [HE2.out]; rfl))
                                  clear l0
                                  go_wp2_with fail
                                  go_roundw
                                  case rel => exact ⟨i + 1, by go_num, by omega, HS2.out, ext_trans HB.out HBs5.out⟩
                                  case measure => simp [intOf]; omega
                                | true =>
                                  have hr := HFi.out (by rw [HE2.out]; rfl)
                                  obtain rfl : is = false := by rw [HIs.out, hr]; rfl
                                  have hgl : gs = l := by rw [HGs.out, hr]; rfl
                                  have HSg2 := Lib.hid (HSg.out wz HBs5.out hgl)
                                  obtain ⟨gl, hgle⟩ : ∃ gl, gl = gs.length := ⟨_, rfl⟩
                                  rw [← hgle] at HSg2 ⊢
                                  clear hr hgl hgle
                                  go_wp2_with fail
                                  refine HSg2.out.mono ?_
                                  rintro e2 w9 ⟨rfl, hb9⟩
                                  have HB9 := Lib.hid (ext_trans HBs5.out hb9)
                                  clear hb9
                                  go_wp2_with fail
                                  go_ret
                                  exact retA rfl (ext_trans HX.out (ext_trans HBw.out HB9.out))
                              | true =>
                                cases pb with
                                | false =>
                                  have hr := HFi.out (by rw [HE2.out]; rfl)
                                  obtain rfl : is = false := by rw [HIs.out, hr]; rfl
                                  have hgl : gs = l := by rw [HGs.out, hr]; rfl
                                  have HSg2 := Lib.hid (HSg.out wz HBs5.out hgl)
                                  obtain ⟨gl, hgle⟩ : ∃ gl, gl = gs.length := ⟨_, rfl⟩
                                  rw [← hgle] at HSg2 ⊢
                                  clear hr hgl hgle
                                  go_wp2_with fail
                                  refine HSg2.out.mono ?_
                                  rintro e2 w9 ⟨rfl, hb9⟩
                                  have HB9 := Lib.hid (ext_trans HBs5.out hb9)
                                  clear hb9
                                  go_wp2_with fail
                                  go_ret
                                  exact retA rfl (ext_trans HX.out (ext_trans HBw.out HB9.out))
                                | true =>
                                  have HS2 := Lib.hid (HStp.out (by rw [HE2.out]; rfl))
                                  clear l0
                                  go_wp2_with fail
                                  go_roundw
                                  case rel => exact ⟨i + 1, by go_num, by omega, HS2.out, ext_trans HB.out HBs5.out⟩
                                  case measure => simp [intOf]; omega
                            | false =>
                              have hne : (la != lbb) = true := by rw [bne, he]; rfl
                              have hr := HFi.out (by rw [HE2.out]; rfl)
                              obtain rfl : is = false := by rw [HIs.out, hr]; rfl
                              have hgl : gs = l := by rw [HGs.out, hr]; rfl
                              have HSg2 := Lib.hid (HSg.out wz HBs5.out hgl)
                              obtain ⟨gl, hgle⟩ : ∃ gl, gl = gs.length := ⟨_, rfl⟩
                              rw [← hgle] at HSg2 ⊢
                              clear hr hgl hgle
                              go_wp2_with fail
                              refine HSg2.out.mono ?_
                              rintro e2 w9 ⟨rfl, hb9⟩
                              have HB9 := Lib.hid (ext_trans HBs5.out hb9)
                              clear hb9
                              go_wp2_with fail
                              go_ret
                              exact retA rfl (ext_trans HX.out (ext_trans HBw.out HB9.out))
                        · obtain rfl : xs.length = i := by omega
                          have hcl : ¬ (xs.length : Int) < xs.length := by omega
                          obtain rfl : res = none := by
                            rw [HRes2.out, ← HXe.out, List.find?_eq_none]
                            intro cx hcx
                            obtain ⟨x, hx2, rfl⟩ := List.mem_map.1 hcx
                            obtain ⟨j, hj, rfl⟩ := List.mem_iff_getElem.1 hx2
                            rw [HAll.out j hj hj]
                            simp
                          obtain rfl : is = true := HIs.out
                          obtain rfl : gs = [] := HGs.out
                          as_aux_lemma =>
                            rw [List.length_nil]
                            have HBw := Lib.hid (ext_trans HBa.out HB.out)
                            have HO := Lib.hid (Classical.em (cs ∈ exts ns))
                            obtain ⟨o2, ho1, ho2⟩ : ∃ o2 : Option (List UInt8), (cs ∈ exts ns → o2 = sayO rsA cs) ∧ (cs ∉ exts ns → o2 = none) := by
                              rcases HO.out with h | h
                              · exact ⟨_, fun _ => rfl, fun h2 => absurd h h2⟩
                              · exact ⟨none, fun h2 => absurd h2 h, fun _ => rfl⟩
                            have HO2 := Lib.hid ho2
                            have HSy := Lib.hid (fun (w' : World) (hb : Below wr.heap.size wr w') (q2 : List QnM) (QA : Option Addr) (qac : Nat) (m2 : List RwM) (RA : Option Addr) (rac : Nat) (hf : TabF w' qa ra q2 QA m2 RA) => show Calls Tryd.prog 26 #[.agg #[.slice QA q2.length qac, .slice RA m2.length rac], .slice CA cs.length cc] w' (SayPost o2 w') from
                              says_tab HS.out (HE.out.below (ext_trans HBw.out hb)) hf HVa0.out cs CA cc (by omega) (HC.out.ext (ext_trans HBw.out hb)) o2 (fun h => by rw [← HRsA.out]; exact ho1 (by rw [HNs.out]; exact h)) (fun h => ho2 (by rw [HNs.out]; exact h)))
                            unfold SayPost at HSy
                            obtain ⟨la, hla⟩ : ∃ la, la = o2.getD [] := ⟨_, rfl⟩
                            obtain ⟨pa, hpa⟩ : ∃ pa, pa = o2.isSome := ⟨_, rfl⟩
                            rw [← hla, ← hpa] at HSy
                            have HLa2 := Lib.hid hla
                            have HPa2 := Lib.hid hpa
                            clear ho1 ho2 hla hpa b0 b1
                            go_wp2_with fail
                            refine (HTa.out wr HBw.out).mono ?_
                            rintro e wy ⟨q2, QA, qac, m2, RA, rac, rfl, t1, t2, t3, t4, t5, hb⟩
                            have HFA := Lib.hid (show TabF wy qa ra q2 QA m2 RA from ⟨t1, t2, t3, t4, t5⟩)
                            have HBy := Lib.hid hb
                            clear t1 t2 t3 t4 t5 hb a0 a1
                            go_wp2_with fail
                            refine (HSy.out wy HBy.out q2 QA qac m2 RA rac HFA.out).mono ?_
                            rintro e wz ⟨rfl, hb⟩
                            have HBz := Lib.hid (ext_trans HBy.out hb)
                            clear hb HSy HFA
                            go_wp2_with fail
                            go_loopw [26] (fun t26 wr2 => ∃ (i : Nat), t26 = .int .i64 i ∧ i ≤ xs.length ∧ Hid (∀ j (hj : j < xs.length), j < i → xs[j].l ≠ cs) ∧ Hid (Below wz.heap.size wz wr2)) (fun t26 _ => xs.length - (intOf t26).toNat)
                            case atStart => exact ⟨0, rfl, by omega, (fun j hj h => absurd h (by omega)), Below.refl _ _⟩
                            case round =>
                              obtain ⟨i, rfl, hi, HNe, HBr⟩ := hrel
                              by_cases hlt2 : i < xs.length
                              · have hcl2 : (i : Int) < xs.length := by omega
                                have HBt := Lib.hid (ext_trans HB.out (ext_trans HBz.out HBr.out))
                                have HLw := Lib.hid (HLa.out _ HBt.out)
                                obtain ⟨lb, lo, hLA, l0⟩ := HLw.out.at hlt2
                                subst hLA
                                have HIn := Lib.hid (HLw.out.ints _ (List.getElem_mem hlt2))
                                have hll := HXl.out _ (List.getElem_mem hlt2)
                                have HStp := Lib.hid (show xs[i].l ≠ cs → ∀ j (hj : j < xs.length), j < i + 1 → xs[j].l ≠ cs from fun h j hj h2 => by
                                  rcases Nat.lt_succ_iff_lt_or_eq.1 h2 with h3 | rfl
                                  · exact HNe.out j hj h3
                                  · exact h)
                                have HSg := Lib.hid (same5_any xs[i].l cs xs[i].A CA xs[i].c cc _ HIn.out (HC.out.ext (ext_trans HBa.out HBt.out)) (by have := HNl.out; omega) (by omega))
                                clear hll
                                generalize xs[i] = X at *
                                obtain ⟨l, lA, lc2⟩ := X
                                simp only at l0 HIn HStp HSg
                                obtain ⟨ll, hle⟩ : ∃ ll, ll = l.length := ⟨_, rfl⟩
                                obtain ⟨b, hb⟩ : ∃ b, (l == cs) = b := ⟨_, rfl⟩
                                rw [← hle] at l0 HSg
                                rw [hb] at HSg
                                have HBb := Lib.hid hb
                                clear hle hb
                                go_wp2_with fail
                                refine HSg.out.mono ?_
                                rintro e w9 ⟨rfl, hb9⟩
                                have HB9 := Lib.hid hb9
                                clear hb9 HSg l0
                                cases b with
                                | true =>
                                  go_wp2_with fail
                                  go_ret
                                  exact retA rfl (ext_trans HX.out (ext_trans HBa.out (ext_trans HBt.out HB9.out)))
                                | false =>
                                  have HS2 := Lib.hid (HStp.out (beq_eq_false_iff_ne.1 HBb.out))
                                  go_wp2_with fail
                                  go_roundw
                                  case rel => exact ⟨i + 1, by go_num, by omega, HS2.out, ext_trans HBr.out HB9.out⟩
                                  case measure => simp [intOf]; omega
                              · obtain rfl : xs.length = i := by omega
                                have hcl2 : ¬ (xs.length : Int) < xs.length := by omega
                                have hno : cs ∉ exts ns := by
                                  rw [← HXe.out]
                                  intro h
                                  obtain ⟨x, hx2, e⟩ := List.mem_map.1 h
                                  obtain ⟨j, hj, rfl⟩ := List.mem_iff_getElem.1 hx2
                                  exact HNe.out j hj hj e
                                have ho := HO2.out hno
                                obtain rfl : la = [] := by rw [HLa2.out, ho]; rfl
                                obtain rfl : pa = false := by rw [HPa2.out, ho]; rfl
                                clear hno ho
                                go_wp2_with fail
                                go_ret
                                exact retA rfl (ext_trans HX.out (ext_trans HBa.out (ext_trans HB.out (ext_trans HBz.out HBr.out))))
            · obtain ⟨hgs, his, hev⟩ : gs = [] ∧ is = false ∧ ev = errVal E cd := by
                rcases HSc2.out with ⟨_, h1, h2, h3⟩ | ⟨h, _⟩
                · exact ⟨h1, h2, h3⟩
                · exact absurd h h0
              have HCd3 := Lib.hid (show Calls Tryd.prog 15 #[ev, .int .i64 (cd : Int)] wb (RetA true wb) from by
                rw [hev]
                exact coded5V_any E cd (by rw [HCe.out]; exact code_le) wb (HE.out.below HB8.out))
              subst hgs his
              rw [List.length_nil]
              have hpos : (0 : Int) < (cd : Int) := by omega
              clear hev h0
              go_wp2_with fail
              refine HCd3.out.mono ?_
              rintro e w9 ⟨rfl, hb9⟩
              have HB9 := Lib.hid (ext_trans HB8.out hb9)
              clear hb9
              go_wp2_with fail
              go_ret
              exact retA rfl (ext_trans HX.out HB9.out)
end Go.Proofs.YtednlkchbjpabaaDoor.GapsSame

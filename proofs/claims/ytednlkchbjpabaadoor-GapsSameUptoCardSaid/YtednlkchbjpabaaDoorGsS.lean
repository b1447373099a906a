/- Gaps: Same. -/
import Derived.Test.YtednlkchbjpabaaDoorGsP
import Derived.Test.YtednlkchbjpabaaDoorGsE
import Derived.Test.YtednlkchbjpabaaDoorGpZ
import Derived.Deep.RegionHeld3
namespace Go.Proofs.YtednlkchbjpabaaDoor.Gp
open Go.RowKit Mem Nest Fk MapSet Err

theorem opt_eq (oa ob : Option (List UInt8)) : (oa == ob) = ((oa.getD [] == ob.getD []) && (oa.isSome == ob.isSome)) := by
  cases oa <;> cases ob <;> simp
set_option maxRecDepth 20000 in
set_option maxHeartbeats 2000000 in
theorem same1_any (ma : List RwM) (va : Value) (RA : Option Addr) (ra : Nat) (mb : List RwM) (vb : Value) (RB : Option Addr) (rb : Nat) (K1 K2 : Nat) (a b : Nat) (ha : a < 2 ^ 64) (hb : b < 2 ^ 64) (hla : ma.length ≤ 60) (hlb : mb.length ≤ 60) (w : World)
    (h1 : RowsP w RA ma) (h2 : RowsP w RB mb) (c0 : w.cell? ⟨K1, 0, none⟩ = some va) (c1 : w.cell? ⟨K1, 1, none⟩ = some (.slice RA ma.length ra)) (d0 : w.cell? ⟨K2, 0, none⟩ = some vb) (d1 : w.cell? ⟨K2, 1, none⟩ = some (.slice RB mb.length rb)) :
    Calls Tryd.prog 51 #[.int .u64 a, .int .u64 b, .pointer (some ⟨K1, 0, none⟩), .pointer (some ⟨K2, 0, none⟩)] w (RetA (!(firstF (ma.map RwM.rw) a == firstF (mb.map RwM.rw) b)) w) := by
  have HA := Lib.hid (first_any va ma RA ra a ha (by omega) w h1)
  obtain ⟨oa, hoa⟩ : ∃ oa, oa = firstF (ma.map RwM.rw) a := ⟨_, rfl⟩
  rw [← hoa] at HA ⊢
  have HB := Lib.hid (fun (w' : World) (hb' : Below w.heap.size w w') => first_any vb mb RB rb b hb (by omega) w' (h2.ext hb'))
  obtain ⟨ob, hob⟩ : ∃ ob, ob = firstF (mb.map RwM.rw) b := ⟨_, rfl⟩
  rw [← hob] at HB ⊢
  have HEq := Lib.hid (opt_eq oa ob)
  unfold SayPost at HA HB
  obtain ⟨la, hla2⟩ : ∃ la, la = oa.getD [] := ⟨_, rfl⟩
  obtain ⟨lb, hlb2⟩ : ∃ lb, lb = ob.getD [] := ⟨_, rfl⟩
  obtain ⟨pa, hpa⟩ : ∃ pa, pa = oa.isSome := ⟨_, rfl⟩
  obtain ⟨pb, hpb⟩ : ∃ pb, pb = ob.isSome := ⟨_, rfl⟩
  rw [← hla2, ← hpa] at HA
  rw [← hlb2, ← hpb] at HB
  rw [← hla2, ← hpa, ← hlb2, ← hpb] at HEq
  clear hoa hob h1 h2 hla2 hlb2 hpa hpb ha hb
  obtain ⟨e, he⟩ : ∃ e, (la == lb) = e := ⟨_, rfl⟩
  have HE2 := Lib.hid (show (oa == ob) = (e && (pa == pb)) by rw [HEq.out, he])
  go_enter Tryd.func51, Tryd.ntmps51
  go_wp2_with fail
  refine HA.out.mono ?_
  rintro e1 w1 ⟨rfl, hb1⟩
  have HB1 := Lib.hid hb1
  have d0 := cell_ext hb1 d0
  have d1 := cell_ext hb1 d1
  clear hb1 c0 c1
  go_wp2_with fail
  refine (HB.out w1 HB1.out).mono ?_
  rintro e2 w2 ⟨rfl, hb2⟩
  have HB2 := Lib.hid (ext_trans HB1.out hb2)
  clear hb2 d0 d1
  cases e with
  | false =>
    have hne : (la != lb) = true := by rw [bne, he]; rfl
    go_wp2_with fail
    go_ret
    exact retA (by rw [HE2.out]; rfl) HB2.out
  | true =>
    have hne : (la != lb) = false := by rw [bne, he]; rfl
    cases pa <;> cases pb <;>
    · go_wp2_with fail
      go_ret
      exact retA (by rw [HE2.out]; rfl) HB2.out
theorem sameQ_len {qa qb : List Qn} (h : sameQ qa qb = true) : qa.length = qb.length := by
  unfold sameQ at h
  simp only [Bool.and_eq_true, beq_iff_eq] at h
  exact h.1
def knSame (w0 : World) (sb mb : Nat) (QA : Option Addr) (qc : Nat) (qms : List QnM) (RA : Option Addr) (rc : Nat) (ma : List RwM) (vb : Value) (RB : Option Addr) (rb : Nat) (mb2 : List RwM) (K : Nat) : Kn :=
  ⟨⟨qms.map fun q => q.ans.length, fun _ _ => true, fun (m q i : Nat) => lft (ma.map RwM.rw) q (i : Nat) m (ma.map RwM.rw).length, fun (m q i : Nat) => lft (mb2.map RwM.rw) q (i : Nat) m (mb2.map RwM.rw).length, fun a b => !(firstF (ma.map RwM.rw) a == firstF (mb2.map RwM.rw) b)⟩,
    w0, sb, mb, QA, qc, qms, RA, rc, ma, vb, RB, rb, mb2, .nilFunc, .func (.func 51) #[] #[.pointer (some ⟨K, 0, none⟩), .pointer (some ⟨K + 1, 0, none⟩)]⟩
theorem knSame_ok {w0 : World} {sb mb : Nat} {QA : Option Addr} {qc : Nat} {qms : List QnM} {RA : Option Addr} {rc : Nat} {ma : List RwM} {vb : Value} {RB : Option Addr} {rb : Nat} {mb2 : List RwM} {K : Nat}
    (hq : QsP w0 QA qms) (hr : RowsP w0 RA ma) (hr2 : RowsP w0 RB mb2) (hv : ValidT (qms.map QnM.qn) (ma.map RwM.rw)) (hl : (mb2.map RwM.rw).length ≤ 60) (hcb : ∀ r ∈ mb2, r.cells.length = qms.length) (h0 : w0.heap.size ≤ mb) (h1 : mb < sb) : (knSame w0 sb mb QA qc qms RA rc ma vb RB rb mb2 K).Ok where
  qs := hq
  ra := hr
  rb := hr2
  ns := rfl
  n12 := by
    have := hv.q12
    rw [List.length_map] at this
    exact this
  a12 := fun q hq => by have := hv.a12 q.qn (List.mem_map.2 ⟨q, hq, rfl⟩); exact this
  la := by
    have := hv.r60
    rw [List.length_map] at this
    exact this
  lb := by
    rw [List.length_map] at hl
    exact hl
  ca := fun r hr => by
    have := hv.cl r.rw (List.mem_map.2 ⟨r, hr, rfl⟩)
    unfold RwM.rw at this
    rw [List.length_map, List.length_map] at this
    exact this
  cb := hcb
  l1 := by funext m q i; simp [knSame]
  l2 := by funext m q i; simp [knSame]
  s0 := h0
  m0 := h1
/-- what Same tells: c is the first error -/
def SamePost (c : Nat) (r : Option (List Int)) (A : Nat → Addr) (w : World) (e : Ending) (w' : World) : Prop := Below w.heap.size w w' ∧
  ((c ≠ 0 ∧ e = .returned (.tuple #[.slice none 0 0, .bool false, errVal A c])) ∨ (c = 0 ∧ r = none ∧ e = .returned (.tuple #[.slice none 0 0, .bool true, .nilIface])) ∨
    (c = 0 ∧ ∃ cs A' c', r = some cs ∧ e = .returned (.tuple #[.slice A' cs.length c', .bool false, .nilIface]) ∧ Rd w' A' (ints cs)))
def sameCode (qa qb : List Qn) (ra rb : List Rw) : Nat := if vcode qa ra ≠ 0 then vcode qa ra else if vcode qb rb ≠ 0 then vcode qb rb else if sameQ qa qb = true then 0 else 9
set_option maxRecDepth 100000 in
set_option maxHeartbeats 8000000 in
theorem same_any (A : Nat → Addr) (qa : List QnM) (QA : Option Addr) (qac : Nat) (ma : List RwM) (RA : Option Addr) (rac : Nat) (qb : List QnM) (QB : Option Addr) (qbc : Nat) (mb : List RwM) (RB : Option Addr) (rbc : Nat) (hqa : qa.length ≤ 1048576) (hqb : qb.length ≤ 1048576) (hla : ∀ q ∈ qa, q.ans.length ≤ 1048576) (hlb : ∀ q ∈ qb, q.ans.length ≤ 1048576)
    (w : World) (hE : Errs w A) (hq : QsP w QA qa) (hr : RowsP w RA ma) (hq2 : QsP w QB qb) (hr2 : RowsP w RB mb)
    (hV : ∀ w' : World, Below w.heap.size w w' → Calls Tryd.prog 14 #[.agg #[.slice QA qa.length qac, .slice RA ma.length rac]] w' (ValidPost A (vcode (qa.map QnM.qn) (ma.map RwM.rw)) w'))
    (hV2 : ∀ w' : World, Below w.heap.size w w' → Calls Tryd.prog 14 #[.agg #[.slice QB qb.length qbc, .slice RB mb.length rbc]] w' (ValidPost A (vcode (qb.map QnM.qn) (mb.map RwM.rw)) w'))
    (res : Option (List Int)) (hres : res = (exts (qa.map fun q => q.ans.length)).find? fun c => !(sayO (ma.map RwM.rw) c == sayO (mb.map RwM.rw) c)) :
    Calls Tryd.prog 25 #[.agg #[.slice QA qa.length qac, .slice RA ma.length rac], .agg #[.slice QB qb.length qbc, .slice RB mb.length rbc]] w (SamePost (sameCode (qa.map QnM.qn) (qb.map QnM.qn) (ma.map RwM.rw) (mb.map RwM.rw)) res A w) := by
  have HRes := Lib.hid hres
  clear hres
  have hmm := @run_makeMap Tryd.prog
  have hx1 := ext_alloc w (.cells (List.toArray [.slice QA qa.length qac, .slice RA ma.length rac]) 31)
  obtain ⟨W1, hW1⟩ : ∃ W, W = w.alloc (.cells (List.toArray [.slice QA qa.length qac, .slice RA ma.length rac]) 31) := ⟨_, rfl⟩
  obtain ⟨K, hK⟩ : ∃ K, K = w.heap.size := ⟨_, rfl⟩
  have hb1 : Blk W1 K 31 [.slice QA qa.length qac, .slice RA ma.length rac] := by rw [hW1, hK]; exact Blk.new _ _ _
  have hs1 : W1.heap.size = K + 1 := by rw [hW1, World.size_alloc, hK]
  rw [← hW1] at hx1
  have hx2 := ext_alloc W1 (.cells (List.toArray [.slice QB qb.length qbc, .slice RB mb.length rbc]) 31)
  obtain ⟨W2, hW2⟩ : ∃ W, W = W1.alloc (.cells (List.toArray [.slice QB qb.length qbc, .slice RB mb.length rbc]) 31) := ⟨_, rfl⟩
  have hb2 : Blk W2 (K + 1) 31 [.slice QB qb.length qbc, .slice RB mb.length rbc] := by rw [hW2, ← hs1]; exact Blk.new _ _ _
  have hs2 : W2.heap.size = K + 2 := by rw [hW2, World.size_alloc, hs1]
  rw [← hW2] at hx2
  have hx3 := ext_alloc W2 (.cells (List.toArray [.slice QA qa.length qac, .slice RA ma.length rac, .slice QB qb.length qbc, .slice RB mb.length rbc]) 31)
  obtain ⟨W3, hW3⟩ : ∃ W, W = W2.alloc (.cells (List.toArray [.slice QA qa.length qac, .slice RA ma.length rac, .slice QB qb.length qbc, .slice RB mb.length rbc]) 31) := ⟨_, rfl⟩
  have hb3 : Blk W3 (K + 2) 31 [.slice QA qa.length qac, .slice RA ma.length rac, .slice QB qb.length qbc, .slice RB mb.length rbc] := by rw [hW3, ← hs2]; exact Blk.new _ _ _
  rw [← hW3] at hx3
  have HX := Lib.hid (ext_trans hx1 (ext_trans hx2 hx3))
  have a0 := cell_ext (ext_trans hx2 hx3) (hb1.cell 0 rfl)
  have a1 := cell_ext (ext_trans hx2 hx3) (hb1.cell 1 rfl)
  have b0 := cell_ext hx3 (hb2.cell 0 rfl)
  have b1 := cell_ext hx3 (hb2.cell 1 rfl)
  have x0 := cell_ext hx2 (hb1.cell 0 rfl)
  have x1 := cell_ext hx2 (hb1.cell 1 rfl)
  have x2 := hb2.cell 0 rfl
  have x3 := hb2.cell 1 rfl
  have p0 := hb3.cell 0 rfl
  have p1 := hb3.cell 1 rfl
  have p2 := hb3.cell 2 rfl
  have p3 := hb3.cell 3 rfl
  have HE := Lib.hid (hE.below HX.out)
  have HQ := Lib.hid (hq.ext HX.out)
  have HR := Lib.hid (hr.ext HX.out)
  have HQ2 := Lib.hid (hq2.ext HX.out)
  have HR2 := Lib.hid (hr2.ext HX.out)
  have HV := Lib.hid (fun w' (hb : Below W3.heap.size W3 w') => hV w' (ext_trans HX.out hb))
  have HV2 := Lib.hid (fun w' (hb : Below W3.heap.size W3 w') => hV2 w' (ext_trans HX.out hb))
  have HLa := Lib.hid hla
  have HLb := Lib.hid hlb
  obtain ⟨Va, hVa⟩ : ∃ V, V = vcode (qa.map QnM.qn) (ma.map RwM.rw) := ⟨_, rfl⟩
  obtain ⟨Vb, hVb⟩ : ∃ V, V = vcode (qb.map QnM.qn) (mb.map RwM.rw) := ⟨_, rfl⟩
  obtain ⟨sq, hsq⟩ : ∃ sq, sq = sameQ (qa.map QnM.qn) (qb.map QnM.qn) := ⟨_, rfl⟩
  rw [← hVa] at HV
  rw [← hVb] at HV2
  have HVa := Lib.hid hVa
  have HVb := Lib.hid hVb
  have HSq := Lib.hid hsq
  obtain ⟨cd, hcd⟩ : ∃ cd, cd = sameCode (qa.map QnM.qn) (qb.map QnM.qn) (ma.map RwM.rw) (mb.map RwM.rw) := ⟨_, rfl⟩
  rw [← hcd]
  have HCd := Lib.hid (show cd = if Va ≠ 0 then Va else if Vb ≠ 0 then Vb else if sq = true then 0 else 9 by rw [hcd, hVa, hVb, hsq]; rfl)
  have HW1 := Lib.hid hW1
  have HW2 := Lib.hid hW2
  have HW3 := Lib.hid hW3
  have HK := Lib.hid hK
  have HS1 := Lib.hid hs1
  have HS2 := Lib.hid hs2
  clear hx1 hx2 hx3 hb1 hb2 hb3 hW1 hW2 hW3 hK hs1 hs2 hE hq hr hq2 hr2 hV hV2 hVa hVb hsq hcd hla hlb
  go_enter Tryd.func25, Tryd.ntmps25
  go_upto_region 1 with fail
  rw [show w.alloc (.cells #[.slice QA qa.length qac, .slice RA ma.length rac] 31) = W1 from HW1.out.symm, ← HK.out]
  rw [show W1.alloc (.cells #[.slice QB qb.length qbc, .slice RB mb.length rbc] 31) = W2 from HW2.out.symm]
  go_wp2_with fail
  rw [show W2.alloc (.cells #[.slice QA qa.length qac, .slice RA ma.length rac, .slice QB qb.length qbc, .slice RB mb.length rbc] 31) = W3 from HW3.out.symm, HS2.out]
  clear HW1 HW2 HW3 HS1 HS2 x0 x1 x2 x3
  go_loopw [15] (fun t15 wr => ∃ (i : Nat), t15 = .int .i64 i ∧ i ≤ 2 ∧ Hid (1 ≤ i → Va = 0) ∧ Hid (2 ≤ i → Vb = 0) ∧ Hid (Below W3.heap.size W3 wr)) (fun t15 _ => 2 - (intOf t15).toNat)
  case atStart => exact ⟨0, rfl, by omega, (fun h => absurd h (by omega)), (fun h => absurd h (by omega)), Below.refl _ _⟩
  case round =>
    obtain ⟨i, rfl, hi, HI1, HI2, HB⟩ := hrel
    have a0 := cell_ext HB.out a0
    have a1 := cell_ext HB.out a1
    have b0 := cell_ext HB.out b0
    have b1 := cell_ext HB.out b1
    have p0 := cell_ext HB.out p0
    have p1 := cell_ext HB.out p1
    have p2 := cell_ext HB.out p2
    have p3 := cell_ext HB.out p3
    by_cases h0 : i = 0
    · subst h0
      rw [show ((0 : Nat) : Int) = 0 from rfl]
      obtain ⟨W4, hW4⟩ : ∃ W, W = wr.alloc (.cells (List.toArray [.slice QA qa.length qac, .slice RA ma.length rac]) 31) := ⟨_, rfl⟩
      obtain ⟨K4, hK4⟩ : ∃ K, K = wr.heap.size := ⟨_, rfl⟩
      have hx4 : Below wr.heap.size wr W4 := by rw [hW4]; exact ext_alloc _ _
      have hb4 : Blk W4 K4 31 [.slice QA qa.length qac, .slice RA ma.length rac] := by rw [hW4, hK4]; exact Blk.new _ _ _
      have HW4 := Lib.hid hW4
      have HK4 := Lib.hid hK4
      have HB4 := Lib.hid (ext_trans HB.out hx4)
      have t0 := hb4.cell 0 rfl
      have t1 := hb4.cell 1 rfl
      clear hW4 hK4 hx4 hb4
      go_upto_region 4 with fail
      rw [show wr.alloc (.cells #[.slice QA qa.length qac, .slice RA ma.length rac] 31) = W4 from HW4.out.symm, ← HK4.out]
      clear HW4 HK4
      go_wp2_with fail
      refine (HV.out W4 HB4.out).mono ?_
      rintro e w5 ⟨rfl, hb5⟩
      have HB5 := Lib.hid (ext_trans HB4.out hb5)
      clear hb5 t0 t1
      by_cases hv : Va = 0
      · have HVz := Lib.hid hv
        subst hv
        rw [show errVal A 0 = .nilIface from rfl]
        go_wp2_with fail
        go_roundw
        case rel => exact ⟨1, rfl, by omega, (by first | exact fun _ => rfl | exact fun _ => trivial | exact trivial), (fun h => absurd h (by omega)), HB5.out⟩
        case measure => simp [intOf]
      · have HF := Lib.hid (show cd = Va by rw [HCd.out, if_pos hv])
        have HNz := Lib.hid hv
        unfold errVal
        rw [if_neg hv]
        unfold sentV
        clear hv
        go_wp2_with fail
        go_ret3
        refine ⟨ext_trans HX.out HB5.out, .inl ⟨by rw [HF.out]; exact HNz.out, ?_⟩⟩
        rw [HF.out]
        unfold errVal
        rw [if_neg HNz.out]
        rfl
    · by_cases h1 : i = 1
      · subst h1
        rw [show ((1 : Nat) : Int) = 1 from rfl]
        have HVz := Lib.hid (HI1.out (Nat.le_refl _))
        obtain ⟨W4, hW4⟩ : ∃ W, W = wr.alloc (.cells (List.toArray [.slice QB qb.length qbc, .slice RB mb.length rbc]) 31) := ⟨_, rfl⟩
        obtain ⟨K4, hK4⟩ : ∃ K, K = wr.heap.size := ⟨_, rfl⟩
        have hx4 : Below wr.heap.size wr W4 := by rw [hW4]; exact ext_alloc _ _
        have hb4 : Blk W4 K4 31 [.slice QB qb.length qbc, .slice RB mb.length rbc] := by rw [hW4, hK4]; exact Blk.new _ _ _
        have HW4 := Lib.hid hW4
        have HK4 := Lib.hid hK4
        have HB4 := Lib.hid (ext_trans HB.out hx4)
        have t0 := hb4.cell 0 rfl
        have t1 := hb4.cell 1 rfl
        clear hW4 hK4 hx4 hb4
        go_upto_region 4 with fail
        rw [show wr.alloc (.cells #[.slice QB qb.length qbc, .slice RB mb.length rbc] 31) = W4 from HW4.out.symm, ← HK4.out]
        clear HW4 HK4
        go_wp2_with fail
        refine (HV2.out W4 HB4.out).mono ?_
        rintro e w5 ⟨rfl, hb5⟩
        have HB5 := Lib.hid (ext_trans HB4.out hb5)
        clear hb5 t0 t1
        by_cases hv : Vb = 0
        · subst hv
          rw [show errVal A 0 = .nilIface from rfl]
          go_wp2_with fail
          go_roundw
          case rel => exact ⟨2, rfl, by omega, (fun _ => HVz.out), (by first | exact fun _ => rfl | exact fun _ => trivial | exact trivial), HB5.out⟩
          case measure => simp [intOf]
        · have HF := Lib.hid (show cd = Vb by rw [HCd.out, if_neg (by rw [HVz.out]; simp), if_pos hv])
          have HNz := Lib.hid hv
          unfold errVal
          rw [if_neg hv]
          unfold sentV
          clear hv
          go_wp2_with fail
          go_ret3
          refine ⟨ext_trans HX.out HB5.out, .inl ⟨by rw [HF.out]; exact HNz.out, ?_⟩⟩
          rw [HF.out]
          unfold errVal
          rw [if_neg HNz.out]
          rfl
      · obtain rfl : i = 2 := by omega
        rw [show ((2 : Nat) : Int) = 2 from rfl]
        have hva : Va = 0 := HI1.out (by omega)
        have hvb : Vb = 0 := HI2.out (by omega)
        have HCd2 := Lib.hid (show cd = if sq = true then 0 else 9 by rw [HCd.out, if_neg (by rw [hva]; simp), if_neg (by rw [hvb]; simp)])
        have HVa0 := Lib.hid (show vcode (qa.map QnM.qn) (ma.map RwM.rw) = 0 by rw [← HVa.out, hva])
        have HVb0 := Lib.hid (show vcode (qb.map QnM.qn) (mb.map RwM.rw) = 0 by rw [← HVb.out, hvb])
        have HSm := Lib.hid (show ∀ w', Below W3.heap.size W3 w' → Calls Tryd.prog 50 #[.agg #[.slice QA qa.length qac, .slice RA ma.length rac], .agg #[.slice QB qb.length qbc, .slice RB mb.length rbc]] w' (RetA sq w') from fun w' hb => by
          rw [HSq.out]
          exact samequestions_any qa QA qac (.slice RA ma.length rac) qb QB qbc (.slice RB mb.length rbc) hqa hqb HLa.out HLb.out w' (HQ.out.ext hb) (HQ2.out.ext hb))
        clear hva hvb h0 h1 hi p0 p1 p2 p3
        go_wp2_with fail
        refine (HSm.out wr HB.out).mono ?_
        rintro e w5 ⟨rfl, hb5⟩
        have HB5 := Lib.hid (ext_trans HB.out hb5)
        have a0 := cell_ext hb5 a0
        have a1 := cell_ext hb5 a1
        have b0 := cell_ext hb5 b0
        have b1 := cell_ext hb5 b1
        clear hb5 HSm
        cases sq with
        | false =>
          have HF := Lib.hid (show cd = 9 by rw [HCd2.out]; rfl)
          have v8 := (HE.out.below HB5.out).v8
          unfold sentV at v8
          go_upto_region 9 with fail
          go_quiet (fail)
          go_wp2_with fail
          go_ret3
          exact ⟨ext_trans HX.out (ext_trans HB5.out (ext_drewN w5 nq)), .inl ⟨by rw [HF.out]; simp, by rw [HF.out]; rfl⟩⟩
        | true =>
          have HF := Lib.hid (show cd = 0 by rw [HCd2.out]; rfl)
          obtain ⟨V, hVe⟩ : ∃ V, V = w5 := ⟨_, rfl⟩
          rw [← hVe] at HB5 a0 a1 b0 b1 ⊢
          clear hVe w5
          have hvt := valid_of HVa0.out
          have hvtb := valid_of HVb0.out
          have hla60 : ma.length ≤ 60 := by have := hvt.r60; rwa [List.length_map] at this
          have hlb60 : mb.length ≤ 60 := by have := hvtb.r60; rwa [List.length_map] at this
          have hqq : qa.length = qb.length := by have := sameQ_len HSq.out.symm; rwa [List.length_map, List.length_map] at this
          have hcbb : ∀ r ∈ mb, r.cells.length = qa.length := fun r hr => by
            have h1 := hvtb.cl r.rw (List.mem_map.2 ⟨r, hr, rfl⟩)
            unfold RwM.rw at h1
            rw [List.length_map, List.length_map] at h1
            rw [hqq]
            exact h1
          obtain ⟨k, hk⟩ : ∃ k, k = knSame V (V.heap.size + 1) V.heap.size QA qac qa RA rac ma (.slice QB qb.length qbc) RB rbc mb K := ⟨_, rfl⟩
          have hkok : k.Ok := by rw [hk]; exact knSame_ok (HQ.out.ext HB5.out) (HR.out.ext HB5.out) (HR2.out.ext HB5.out) hvt hvtb.r60 hcbb (Nat.le_refl _) (by omega)
          have hin : k.Inv ((V.alloc (.map #[] 0)).alloc (.cells (k.cells (.slice none 0 0)).toArray 106)) (.slice none 0 0) [] 0 := inv_new k V (by rw [hk]; exact Below.refl _ _) (by rw [hk]; rfl) (by rw [hk]; rfl)
          have hcs : k.cells (.slice none 0 0) = [.slice QA qa.length qac, .slice RA ma.length rac, .slice QB qb.length qbc, .slice RB mb.length rbc, .map (some V.heap.size), .nilFunc, .func (.func 51) #[] #[.pointer (some ⟨K, 0, none⟩), .pointer (some ⟨K + 1, 0, none⟩)], .nilFunc, .slice none 0 0] := by rw [hk]; rfl
          rw [hcs] at hin
          have hsb : k.sb = V.heap.size + 1 := by rw [hk]; rfl
          have hw0 : k.w0 = V := by rw [hk]; rfl
          have hFv : k.F = .func (.func 51) #[] #[.pointer (some ⟨K, 0, none⟩), .pointer (some ⟨K + 1, 0, none⟩)] := by rw [hk]; rfl
          have hOv : k.O = .nilFunc := by rw [hk]; rfl
          have hon : ∀ q i, k.P.only q i = true := by rw [hk]; intro q i; rfl
          have hfd : ∀ a b, k.P.fd a b = !(firstF (ma.map RwM.rw) a == firstF (mb.map RwM.rw) b) := by rw [hk]; intro a b; rfl
          have hns : k.P.ns = qa.map fun q => q.ans.length := by rw [hk]; rfl
          have hn12 : k.P.ns.length ≤ 12 := by rw [hns, List.length_map]; have := hvt.q12; rwa [List.length_map] at this
          have hpa2 : 2 ^ ma.length - 1 < 2 ^ 64 := Nat.lt_of_le_of_lt (Nat.sub_le _ _) (Nat.pow_lt_pow_right (by omega) (by omega))
          have hpb2 : 2 ^ mb.length - 1 < 2 ^ 64 := Nat.lt_of_le_of_lt (Nat.sub_le _ _) (Nat.pow_lt_pow_right (by omega) (by omega))
          have h13 : 0 + 13 ^ (k.P.ns.length + 1) ≤ 1000000000000000000 := by
            rw [Nat.zero_add]
            exact Nat.le_trans (Nat.pow_le_pow_right (n := 13) (by omega) (by omega : k.P.ns.length + 1 ≤ 13)) (by decide)
          have hRf : k.P.R 0 (2 ^ ma.length - 1) (2 ^ mb.length - 1) = res := by
            have h := same_find k.P (ma.map RwM.rw) (mb.map RwM.rw) (by
              intro r hr
              rw [hns, List.length_map]
              have := hvt.cl r hr
              rwa [List.length_map] at this) (by
              intro r hr
              rw [hns, List.length_map]
              obtain ⟨m, hm, rfl⟩ := List.mem_map.1 hr
              unfold RwM.rw
              rw [List.length_map]
              exact hcbb m hm) (by rw [hk]; rfl) (by rw [hk]; rfl) hon hfd
            rw [List.length_map, List.length_map, hns, ← HRes.out] at h
            exact h
          obtain ⟨W6, hW6⟩ : ∃ W6, W6 = (V.alloc (.map #[] 0)).alloc (.cells (List.toArray [.slice QA qa.length qac, .slice RA ma.length rac, .slice QB qb.length qbc, .slice RB mb.length rbc, .map (some V.heap.size), .nilFunc, .func (.func 51) #[] #[.pointer (some ⟨K, 0, none⟩), .pointer (some ⟨K + 1, 0, none⟩)], .nilFunc, .slice none 0 0]) 106) := ⟨_, rfl⟩
          have hb6 : Below V.heap.size V W6 := by rw [hW6]; exact ext_trans (ext_alloc V _) (ext_alloc _ _)
          rw [← hW6] at hin
          have HIn := Lib.hid hin
          obtain ⟨pa, hpa⟩ : ∃ pa, pa = 2 ^ ma.length - 1 := ⟨_, rfl⟩
          obtain ⟨pb, hpb⟩ : ∃ pb, pb = 2 ^ mb.length - 1 := ⟨_, rfl⟩
          have HAa := Lib.hid (show ∀ w', Calls Tryd.prog 40 #[.agg #[.slice QA qa.length qac, .slice RA ma.length rac]] w' (LeftPost pa w') from fun w' => by rw [hpa]; exact all_any _ _ _ _ (by omega) w')
          have HAb := Lib.hid (show ∀ w', Calls Tryd.prog 40 #[.agg #[.slice QB qb.length qbc, .slice RB mb.length rbc]] w' (LeftPost pb w') from fun w' => by rw [hpb]; exact all_any _ _ _ _ (by omega) w')
          rw [← hpa, ← hpb] at hRf
          rw [← hpa] at hpa2
          rw [← hpb] at hpb2
          obtain ⟨ri, hri⟩ : ∃ ri, ri = res.isSome := ⟨_, rfl⟩
          have HRun := Lib.hid (show ∀ w2, Below W6.heap.size W6 w2 → Calls Tryd.prog 39 #[.pointer (some ⟨V.heap.size + 1, 0, none⟩), .int .i64 0, .int .u64 (pa : Int), .int .u64 (pb : Int)] w2 (fun e w3 => e = .returned (.bool ri) ∧ k.After 0 pa pb 0 [] w2 w3) from fun w2 hb3 => by
            have h := run_any k hkok 51 #[.pointer (some ⟨K, 0, none⟩), .pointer (some ⟨K + 1, 0, none⟩)] hFv (fun _ _ => by kernel_rfl) (fun a b w ha hb hbe => by
              rw [hw0] at hbe
              rw [hfd]
              exact same1_any ma (.slice QA qa.length qac) RA rac mb (.slice QB qb.length qbc) RB rbc K (K + 1) a b ha hb hla60 hlb60 w ((HR.out.ext HB5.out).ext hbe) ((HR2.out.ext HB5.out).ext hbe) (cell_ext hbe a0) (cell_ext hbe a1) (cell_ext hbe b0) (cell_ext hbe b1)) (.inl ⟨hOv, hon⟩) k.P.ns.length 0 (by omega) pa pb 0 [] (.slice none 0 0) w2 hpa2 hpb2 (HIn.out.ext hb3) rfl h13
            rw [hsb] at h
            exact h.mono fun e w3 h => ⟨by rw [h.1, hRf, ← hri], h.2⟩)
          have HRf := Lib.hid hRf
          have HRI := Lib.hid hri
          have HSb := Lib.hid hsb
          have HW0 := Lib.hid hw0
          have HW6 := Lib.hid hW6
          have HB6 := Lib.hid hb6
          have HVa := Lib.hid (And.intro a0 (And.intro a1 (And.intro b0 b1)))
          have e0 := cell_ext hb6 a0
          have e1 := cell_ext hb6 a1
          have f0 := cell_ext hb6 b0
          have f1 := cell_ext hb6 b1
          clear hvt hvtb hqq hcbb hk hkok hin hcs hsb hw0 hFv hOv hon hfd hns hn12 hpa2 hpb2 h13 hRf hW6 hb6 hpa hpb hri
          go_upto_region 11 with fail
          rw [show (V.alloc (.map #[] 0)).alloc (.cells #[.slice QA qa.length qac, .slice RA ma.length rac, .slice QB qb.length qbc, .slice RB mb.length rbc, .map (some V.heap.size), .nilFunc, .func (.func 51) #[] #[.pointer (some ⟨K, 0, none⟩), .pointer (some ⟨K + 1, 0, none⟩)], .nilFunc, .slice none 0 0] 106) = W6 from HW6.out.symm]
          clear HW6 a0 a1 b0 b1 hmm
          have hdr := ext_drewN W6 1
          go_region_held3 (fun w' => w'.cell? ⟨K, 0, none⟩ = some (.slice QA qa.length qac) ∧ w'.cell? ⟨K, 1, none⟩ = some (.slice RA ma.length rac) ∧ w'.cell? ⟨K + 1, 0, none⟩ = some (.slice QB qb.length qbc) ∧ w'.cell? ⟨K + 1, 1, none⟩ = some (.slice RB mb.length rbc))
            ((first | exact ⟨e0, e1, f0, f1⟩ | exact ⟨cell_ext hdr e0, cell_ext hdr e1, cell_ext hdr f0, cell_ext hdr f1⟩ | exact ⟨cell_ext HBs1.out e0, cell_ext HBs1.out e1, cell_ext HBs1.out f0, cell_ext HBs1.out f1⟩ | exact ⟨cell_ext HBs2.out e0, cell_ext HBs2.out e1, cell_ext HBs2.out f0, cell_ext HBs2.out f1⟩ | exact ⟨cell_ext HBs3.out HVa.out.1, cell_ext HBs3.out HVa.out.2.1, cell_ext HBs3.out HVa.out.2.2.1, cell_ext HBs3.out HVa.out.2.2.2⟩))
            ((first
              | (go_at_call 40; have hz := HBs1.out; (first | refine (HAa.out _).mono ?_ | refine (HAb.out _).mono ?_); rintro e wy ⟨rfl, hby⟩; have HBs2 := Lib.hid (ext_trans hz hby); clear hz hby)
              | (go_at_call 40; (first | refine (HAa.out _).mono ?_ | refine (HAb.out _).mono ?_); rintro e wx ⟨rfl, hbx⟩; have HBs1 := Lib.hid (ext_trans hdr hbx); clear hbx)
              | (go_at_call 39; refine (HRun.out _ HBs2.out).mono ?_; rintro e w8 ⟨rfl, haf⟩; have HAf := Lib.hid haf; have HBs3 := Lib.hid (show Below V.heap.size V w8 from by obtain ⟨_, _, _, _, hi3, _⟩ := haf; have h1 := hi3.below; rwa [HW0.out] at h1); clear haf)))
          all_goals
            obtain ⟨_, v3, cs3, n3, hi3, _, _, _, hsome⟩ := HAf.out
            have HI3 := Lib.hid hi3
            have HSm := Lib.hid hsome
            have HEnd := Lib.hid (show Below w.heap.size w w8 from ext_trans HX.out (ext_trans HB5.out HBs3.out))
            have x8 := hi3.blk.cell 8 rfl
            rw [HSb.out] at x8
            clear hi3 hsome hdr e0 e1 f0 f1 HAf
            cases res with
            | none =>
              obtain rfl : ri = false := HRI.out
              go_wp2_with fail
              go_ret3
              exact ⟨HEnd.out, .inr (.inl ⟨HF.out, rfl, rfl⟩)⟩
            | some cs =>
              obtain rfl : ri = true := HRI.out
              have h3 : cs3 = [] ++ cs := HSm.out cs HRf.out
              rw [List.nil_append] at h3
              subst h3
              obtain ⟨A3, c3, rfl, _, _⟩ := own_slice HI3.out.row
              go_wp2_with fail
              go_ret3
              exact ⟨HEnd.out, .inr (.inr ⟨HF.out, cs3, A3, c3, rfl, rfl, Rd.of_own HI3.out.row⟩)⟩
end Go.Proofs.YtednlkchbjpabaaDoor.Gp

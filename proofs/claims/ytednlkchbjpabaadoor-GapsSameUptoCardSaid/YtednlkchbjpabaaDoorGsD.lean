/- Gaps: the statement's says; what Same and Says tell of tables that were copied; the loop over questions in plain lists. -/
import Derived.Test.YtednlkchbjpabaaDoorGsS
import Derived.Test.YtednlkchbjpabaaDoorGsQ
import Derived.Test.YtednlkchbjpabaaDoorGqP
namespace Go.Proofs.YtednlkchbjpabaaDoor.Gp
open Go.RowKit Mem Nest Fk Err

theorem says_out {rs : List Rw} {c : List Int} : sayO rs c = (saysF rs c).map fun k => (rAt rs k).out := rfl
set_option maxRecDepth 20000 in
set_option maxHeartbeats 1000000 in
theorem dsays_any (qv : Value) (ms : List RwM) (A : Option Addr) (c : Nat) (cs : List Int) (B : Option Addr) (cc : Nat) (hl : ∀ r ∈ ms, cs.length ≤ r.cells.length) (hml : ms.length ≤ 1048576) (hm : cs.length ≤ 1048576) (w : World) (h : DRows w A ms) (hc : Rd w B (ints cs)) :
    Calls Tryd.prog 23 #[.agg #[qv, .slice A ms.length c], .slice B cs.length cc] w (SayPost (sayO (ms.map RwM.rw) cs) w) := by
  have hbk := Blk.new w 25 [qv, .slice A ms.length c]
  have hx := ext_alloc w (.cells (List.toArray [qv, .slice A ms.length c]) 25)
  obtain ⟨W, hW⟩ : ∃ W, W = w.alloc (.cells (List.toArray [qv, .slice A ms.length c]) 25) := ⟨_, rfl⟩
  obtain ⟨K, hK⟩ : ∃ K, K = w.heap.size := ⟨_, rfl⟩
  rw [← hW] at hx hbk
  rw [← hK] at hbk
  have HX := Lib.hid hx
  have HD := Lib.hid (h.ext hx)
  have HW := Lib.hid hW
  have HK := Lib.hid hK
  have r0 := hbk.cell 0 rfl
  have r1 := hbk.cell 1 rfl
  have HS := Lib.hid (saysof_any qv ms A c cs B cc hl hml hm W (h.ext hx) (hc.ext hx))
  obtain ⟨f, hf⟩ : ∃ f, f = saysF (ms.map RwM.rw) cs := ⟨_, rfl⟩
  rw [← hf] at HS
  have HO := Lib.hid (show sayO (ms.map RwM.rw) cs = f.map fun k => (rAt (ms.map RwM.rw) k).out by rw [hf]; rfl)
  have HLt := Lib.hid (show ∀ k, f = some k → k < ms.length from fun k h => by
    have := says_lt (rs := ms.map RwM.rw) (c := cs) (k := k) (by rw [← hf]; exact h)
    rwa [List.length_map] at this)
  obtain ⟨o, ho⟩ : ∃ o, o = sayO (ms.map RwM.rw) cs := ⟨_, rfl⟩
  rw [← ho] at HO ⊢
  clear hbk hx hW hK h hc hl hf ho
  go_enter Tryd.func23, Tryd.ntmps23
  go_upto_region 1 with fail
  rw [show w.alloc (.cells #[qv, .slice A ms.length c] 25) = W from HW.out.symm, ← HK.out]
  clear HW
  go_wp2_with fail
  refine HS.out.mono ?_
  rintro e w1 ⟨rfl, hb1⟩
  have HB1 := Lib.hid (ext_trans HX.out hb1)
  have r1 := cell_ext hb1 r1
  have HD1 := Lib.hid (HD.out.ext hb1)
  clear hb1 r0
  cases f with
  | none =>
    have HE := Lib.hid (show o = none from HO.out)
    unfold idxI
    go_wp2_with fail
    go_ret2
    exact ⟨by rw [HE.out]; rfl, HB1.out⟩
  | some k =>
    have hlt := HLt.out k rfl
    have hkc : (k : Int) < ms.length := by omega
    have hk0 : ¬ ((k : Int) < 0) := by omega
    obtain ⟨b, o2, hA, x0, x1⟩ := HD1.out.row hlt
    subst hA
    have HE := Lib.hid (show o = some ms[k].out by
      have := HO.out
      rw [this]
      simp [rAt, hlt, RwM.rw])
    generalize ms[k] = r at *
    obtain ⟨zs, zA, zc, ro⟩ := r
    simp only at x0 x1 HE
    unfold idxI
    clear hlt
    go_wp2_with fail
    go_ret2
    exact ⟨by rw [HE.out]; rfl, HB1.out⟩
theorem sameQ_ns {qa qb : List Qn} (h : sameQ qa qb = true) : (qa.map fun q => q.ans.length) = qb.map fun q => q.ans.length := by
  have hl := sameQ_len h
  unfold sameQ at h
  simp only [Bool.and_eq_true, Bool.not_eq_true'] at h
  apply List.ext_getElem
  · simp [hl]
  · intro i h1 h2
    have hi : i < qa.length := by simpa using h1
    have hi2 : i < qb.length := by omega
    have h3 := anyTo_no h.2 hi
    simp only [Bool.not_eq_false'] at h3
    unfold eqQ at h3
    rw [qAt_get hi, qAt_get hi2, Bool.and_eq_true, beq_iff_eq, beq_iff_eq] at h3
    simp [h3.2]
/-- a table that was copied -/
structure TabF (w : World) (qms : List QnM) (rrs : List RR) (q2 : List QnM) (QA : Option Addr) (m2 : List RwM) (RA : Option Addr) : Prop where
  hq : q2.map QnM.qn = qms.map QnM.qn
  hm : m2.map RwM.rw = rrs.map rrRw
  qs : QsP w QA q2
  ro : RowsP w RA m2
  cap : ∀ q ∈ q2, q.ans.length ≤ q.c
theorem TabF.ext {w w' : World} {qms : List QnM} {rrs : List RR} {q2 : List QnM} {QA : Option Addr} {m2 : List RwM} {RA : Option Addr} (h : TabF w qms rrs q2 QA m2 RA) (hb : Below w.heap.size w w') : TabF w' qms rrs q2 QA m2 RA := ⟨h.hq, h.hm, h.qs.ext hb, h.ro.ext hb, h.cap⟩
theorem TabF.len {w : World} {qms : List QnM} {rrs : List RR} {q2 : List QnM} {QA : Option Addr} {m2 : List RwM} {RA : Option Addr} (h : TabF w qms rrs q2 QA m2 RA) : q2.length = qms.length := by
  have := congrArg List.length h.hq
  simpa using this
theorem TabF.ns {w : World} {qms : List QnM} {rrs : List RR} {q2 : List QnM} {QA : Option Addr} {m2 : List RwM} {RA : Option Addr} (h : TabF w qms rrs q2 QA m2 RA) : (q2.map fun q => q.ans.length) = qms.map fun q => q.ans.length := by
  have e : ∀ l : List QnM, (l.map fun q => q.ans.length) = (l.map QnM.qn).map fun q => q.ans.length := fun l => by
    rw [List.map_map]
    rfl
  rw [e, h.hq, ← e]
theorem TabF.al {w : World} {qms : List QnM} {rrs : List RR} {q2 : List QnM} {QA : Option Addr} {m2 : List RwM} {RA : Option Addr} (h : TabF w qms rrs q2 QA m2 RA) (ha : ∀ q ∈ qms, q.ans.length ≤ 1048576) : ∀ q ∈ q2, q.ans.length ≤ 1048576 := fun q hq => by
  have h1 : q.qn ∈ qms.map QnM.qn := by rw [← h.hq]; exact List.mem_map.2 ⟨q, hq, rfl⟩
  obtain ⟨q', hq', e⟩ := List.mem_map.1 h1
  have e2 : q'.ans = q.ans := congrArg Qn.ans e
  rw [← e2]
  exact ha q' hq'
theorem valid_tab {E : Nat → Addr} {w : World} {qms : List QnM} {rrs : List RR} {q2 : List QnM} {QA : Option Addr} {qc : Nat} {m2 : List RwM} {RA : Option Addr} {rc : Nat} (hs : SmallP (qms.map QnM.qn) (rrs.map rrRw)) (hE : Errs w E) (h : TabF w qms rrs q2 QA m2 RA) :
    Calls Tryd.prog 14 #[.agg #[.slice QA q2.length qc, .slice RA m2.length rc]] w (ValidPost E (vcode (qms.map QnM.qn) (rrs.map rrRw)) w) := by
  have h1 := pvalid_any E q2 QA qc m2 RA rc (hs.small h.hq h.hm) h.cap w hE h.qs h.ro
  rw [h.hq, h.hm] at h1
  exact h1
theorem same_tab {E : Nat → Addr} {w : World} {qa : List QnM} {ra : List RR} {q2 : List QnM} {QA : Option Addr} {qc : Nat} {m2 : List RwM} {RA : Option Addr} {rc : Nat} {qb : List QnM} {rb : List RR} {q3 : List QnM} {QB : Option Addr} {qc3 : Nat} {m3 : List RwM} {RB : Option Addr} {rc3 : Nat}
    (hs : SmallP (qa.map QnM.qn) (ra.map rrRw)) (hs2 : SmallP (qb.map QnM.qn) (rb.map rrRw)) (ha : ∀ q ∈ qa, q.ans.length ≤ 1048576) (hb : ∀ q ∈ qb, q.ans.length ≤ 1048576) (hE : Errs w E) (h : TabF w qa ra q2 QA m2 RA) (h2 : TabF w qb rb q3 QB m3 RB)
    (res : Option (List Int)) (hres : res = (exts (qa.map fun q => q.ans.length)).find? fun c => !(sayO (ra.map rrRw) c == sayO (rb.map rrRw) c)) :
    Calls Tryd.prog 25 #[.agg #[.slice QA q2.length qc, .slice RA m2.length rc], .agg #[.slice QB q3.length qc3, .slice RB m3.length rc3]] w (SamePost (sameCode (qa.map QnM.qn) (qb.map QnM.qn) (ra.map rrRw) (rb.map rrRw)) res E w) := by
  have hqa : qa.length ≤ 1048576 := by have := hs.ql; rwa [List.length_map] at this
  have hqb : qb.length ≤ 1048576 := by have := hs2.ql; rwa [List.length_map] at this
  have h1 := same_any E q2 QA qc m2 RA rc q3 QB qc3 m3 RB rc3 (by rw [h.len]; exact hqa) (by rw [h2.len]; exact hqb) (h.al ha) (h2.al hb) w hE h.qs h.ro h2.qs h2.ro
    (fun w' hbe => by rw [h.hq, h.hm]; exact valid_tab hs (hE.below hbe) (h.ext hbe)) (fun w' hbe => by rw [h2.hq, h2.hm]; exact valid_tab hs2 (hE.below hbe) (h2.ext hbe)) res (by rw [h.ns, h.hm, h2.hm]; exact hres)
  rw [h.hq, h2.hq, h.hm, h2.hm] at h1
  exact h1
theorem says_tab {E : Nat → Addr} {w : World} {qms : List QnM} {rrs : List RR} {q2 : List QnM} {QA : Option Addr} {qc : Nat} {m2 : List RwM} {RA : Option Addr} {rc : Nat} (hs : SmallP (qms.map QnM.qn) (rrs.map rrRw)) (hE : Errs w E) (h : TabF w qms rrs q2 QA m2 RA) (hv : vcode (qms.map QnM.qn) (rrs.map rrRw) = 0)
    (cs : List Int) (CA : Option Addr) (cc : Nat) (hcl : cs.length ≤ 1048576) (hc : Rd w CA (ints cs)) (res : Option (List UInt8)) (hr1 : cs ∈ exts (qms.map fun q => q.ans.length) → res = sayO (rrs.map rrRw) cs) (hr2 : cs ∉ exts (qms.map fun q => q.ans.length) → res = none) :
    Calls Tryd.prog 26 #[.agg #[.slice QA q2.length qc, .slice RA m2.length rc], .slice CA cs.length cc] w (SayPost res w) :=
  says_any E q2 QA qc m2 RA rc cs CA cc hcl w h.qs h.ro hc (by rw [h.hq, h.hm]; exact hv) (fun w' hbe => by have := valid_tab (qc := qc) (rc := rc) hs (hE.below hbe) (h.ext hbe); rwa [hv] at this) res (by rw [h.ns, h.hm]; exact hr1) (by rw [h.ns]; exact hr2)
end Go.Proofs.YtednlkchbjpabaaDoor.Gp

/- Gaps: Says, of a valid table. Gaps: the statement's says; what Same and Says tell of tables that were copied; the loop over questions in plain lists. -/
import Derived.Test.YtjfiodknjchngaaDoorGsP
import Derived.Test.YtjfiodknjchngaaDoorGpZ
import Derived.Test.YtjfiodknjchngaaDoorGpN
import Derived.Test.YtjfiodknjchngaaDoorGsS
import Derived.Test.YtjfiodknjchngaaDoorGqP
namespace Go.Proofs.YtjfiodknjchngaaDoor.Gp
open Go.RowKit Mem Nest Fk Err

theorem sayO_at {rs : List Rw} {c : List Int} {j : Nat} (hj : j < rs.length) (h : ∀ i, i < j → fitR (rAt rs i).cells c = false) (hf : fitR (rAt rs j).cells c = true) : sayO rs c = some (rAt rs j).out := by
  unfold sayO
  rw [(says_some_iff rs c j hj).2 ⟨hf, h⟩]
  rfl
theorem sayO_no {rs : List Rw} {c : List Int} (h : ∀ i, i < rs.length → fitR (rAt rs i).cells c = false) : sayO rs c = none := by
  unfold sayO
  have := (says_none_iff rs c).2 h
  rw [Option.isNone_iff_eq_none] at this
  rw [this]
  rfl
end Go.Proofs.YtjfiodknjchngaaDoor.Gp
namespace Go.Proofs.YtjfiodknjchngaaDoor.Gp
open Go.RowKit Mem Nest Fk Err

theorem says_out {rs : List Rw} {c : List Int} : sayO rs c = (saysF rs c).map fun k => (rAt rs k).out := rfl
set_option maxRecDepth 20000 in
set_option maxHeartbeats 1000000 in
theorem dsays_any (qv : Value) (ms : List RwM) (A : Option Addr) (c : Nat) (cs : List Int) (B : Option Addr) (cc : Nat) (hl : ∀ r ∈ ms, cs.length ≤ r.cells.length) (hml : ms.length ≤ 1048576) (hm : cs.length ≤ 1048576) (w : World) (h : DRows w A ms) (hc : Rd w B (ints cs)) :
    Calls Tryd.prog 14 #[.agg #[qv, .slice A ms.length c], .slice B cs.length cc] w (SayPost (sayO (ms.map RwM.rw) cs) w) := by
  have hbk := Blk.new w 25 [qv, .slice A ms.length c]
  have hx := ext_alloc w (.cells (List.toArray [qv, .slice A ms.length c]) 25)
  obtain ⟨W, hW⟩ : ∃ W, W = w.alloc (.cells (List.toArray [qv, .slice A ms.length c]) 25) := ⟨_, rfl⟩
  obtain ⟨K, hK⟩ : ∃ K, K = w.heap.size := ⟨_, rfl⟩
  rw [← hW] at hx hbk
  rw [← hK] at hbk
  have HX := Lib.hid hx
  have HD := Lib.hid (h.ext hx)
  have HW := Lib.hid hW
  have HK := Lib.hid hK
  have r0 := hbk.cell 0 rfl
  have r1 := hbk.cell 1 rfl
  have HS := Lib.hid (saysof_any qv ms A c cs B cc hl hml hm W (h.ext hx) (hc.ext hx))
  obtain ⟨f, hf⟩ : ∃ f, f = saysF (ms.map RwM.rw) cs := ⟨_, rfl⟩
  rw [← hf] at HS
  have HO := Lib.hid (show sayO (ms.map RwM.rw) cs = f.map fun k => (rAt (ms.map RwM.rw) k).out by rw [hf]; rfl)
  have HLt := Lib.hid (show ∀ k, f = some k → k < ms.length from fun k h => by
    have := says_lt (rs := ms.map RwM.rw) (c := cs) (k := k) (by rw [← hf]; exact h)
    rwa [List.length_map] at this)
  obtain ⟨o, ho⟩ : ∃ o, o = sayO (ms.map RwM.rw) cs := ⟨_, rfl⟩
  rw [← ho] at HO ⊢
  clear hbk hx hW hK h hc hl hf ho
  go_enter Tryd.func14, Tryd.ntmps14
  go_upto_region 1 with fail
  rw [show w.alloc (.cells #[qv, .slice A ms.length c] 25) = W from HW.out.symm, ← HK.out]
  clear HW
  go_wp2_with fail
  refine HS.out.mono ?_
  rintro e w1 ⟨rfl, hb1⟩
  have HB1 := Lib.hid (ext_trans HX.out hb1)
  have r1 := cell_ext hb1 r1
  have HD1 := Lib.hid (HD.out.ext hb1)
  clear hb1 r0
  cases f with
  | none =>
    have HE := Lib.hid (show o = none from HO.out)
    unfold idxI
    go_wp2_with fail
    go_ret2
    exact ⟨by rw [HE.out]; rfl, HB1.out⟩
  | some k =>
    have hlt := HLt.out k rfl
    have hkc : (k : Int) < ms.length := by omega
    have hk0 : ¬ ((k : Int) < 0) := by omega
    obtain ⟨b, o2, hA, x0, x1⟩ := HD1.out.row hlt
    subst hA
    have HE := Lib.hid (show o = some ms[k].out by
      have := HO.out
      rw [this]
      simp [rAt, hlt, RwM.rw])
    generalize ms[k] = r at *
    obtain ⟨zs, zA, zc, ro⟩ := r
    simp only at x0 x1 HE
    unfold idxI
    clear hlt
    go_wp2_with fail
    go_ret2
    exact ⟨by rw [HE.out]; rfl, HB1.out⟩
theorem sameQ_ns {qa qb : List Qn} (h : sameQ qa qb = true) : (qa.map fun q => q.ans.length) = qb.map fun q => q.ans.length := by
  have hl := sameQ_len h
  unfold sameQ at h
  simp only [Bool.and_eq_true, Bool.not_eq_true'] at h
  apply List.ext_getElem
  · simp [hl]
  · intro i h1 h2
    have hi : i < qa.length := by simpa using h1
    have hi2 : i < qb.length := by omega
    have h3 := anyTo_no h.2 hi
    simp only [Bool.not_eq_false'] at h3
    unfold eqQ at h3
    rw [qAt_get hi, qAt_get hi2, Bool.and_eq_true, beq_iff_eq, beq_iff_eq] at h3
    simp [h3.2]
/-- a table that was copied -/
structure TabF (w : World) (qms : List QnM) (rrs : List RR) (q2 : List QnM) (QA : Option Addr) (m2 : List RwM) (RA : Option Addr) : Prop where
  hq : q2.map QnM.qn = qms.map QnM.qn
  hm : m2.map RwM.rw = rrs.map rrRw
  qs : QsP w QA q2
  ro : RowsP w RA m2
  cap : ∀ q ∈ q2, q.ans.length ≤ q.c
theorem TabF.ext {w w' : World} {qms : List QnM} {rrs : List RR} {q2 : List QnM} {QA : Option Addr} {m2 : List RwM} {RA : Option Addr} (h : TabF w qms rrs q2 QA m2 RA) (hb : Below w.heap.size w w') : TabF w' qms rrs q2 QA m2 RA := ⟨h.hq, h.hm, h.qs.ext hb, h.ro.ext hb, h.cap⟩
theorem TabF.len {w : World} {qms : List QnM} {rrs : List RR} {q2 : List QnM} {QA : Option Addr} {m2 : List RwM} {RA : Option Addr} (h : TabF w qms rrs q2 QA m2 RA) : q2.length = qms.length := by
  have := congrArg List.length h.hq
  simpa using this
theorem TabF.ns {w : World} {qms : List QnM} {rrs : List RR} {q2 : List QnM} {QA : Option Addr} {m2 : List RwM} {RA : Option Addr} (h : TabF w qms rrs q2 QA m2 RA) : (q2.map fun q => q.ans.length) = qms.map fun q => q.ans.length := by
  have e : ∀ l : List QnM, (l.map fun q => q.ans.length) = (l.map QnM.qn).map fun q => q.ans.length := fun l => by
    rw [List.map_map]
    rfl
  rw [e, h.hq, ← e]
theorem TabF.al {w : World} {qms : List QnM} {rrs : List RR} {q2 : List QnM} {QA : Option Addr} {m2 : List RwM} {RA : Option Addr} (h : TabF w qms rrs q2 QA m2 RA) (ha : ∀ q ∈ qms, q.ans.length ≤ 1048576) : ∀ q ∈ q2, q.ans.length ≤ 1048576 := fun q hq => by
  have h1 : q.qn ∈ qms.map QnM.qn := by rw [← h.hq]; exact List.mem_map.2 ⟨q, hq, rfl⟩
  obtain ⟨q', hq', e⟩ := List.mem_map.1 h1
  have e2 : q'.ans = q.ans := congrArg Qn.ans e
  rw [← e2]
  exact ha q' hq'
theorem valid_tab {E : Nat → Addr} {w : World} {qms : List QnM} {rrs : List RR} {q2 : List QnM} {QA : Option Addr} {qc : Nat} {m2 : List RwM} {RA : Option Addr} {rc : Nat} (hs : SmallP (qms.map QnM.qn) (rrs.map rrRw)) (hE : Errs w E) (h : TabF w qms rrs q2 QA m2 RA) :
    Calls Tryd.prog 25 #[.agg #[.slice QA q2.length qc, .slice RA m2.length rc]] w (ValidPost E (vcode (qms.map QnM.qn) (rrs.map rrRw)) w) := by
  have h1 := pvalid_any E q2 QA qc m2 RA rc (hs.small h.hq h.hm) h.cap w hE h.qs h.ro
  rw [h.hq, h.hm] at h1
  exact h1
end Go.Proofs.YtjfiodknjchngaaDoor.Gp

/- Gaps: the document's first row that fits; all cases. -/
import Derived.Test.YtjfiodknjchngaaDoorGpD
import Derived.Test.YtjfiodknjchngaaDoorApp
namespace Go.Proofs.YtjfiodknjchngaaDoor.Gp
open Go.RowKit Mem Nest Fk

def idxI : Option Nat → Int
  | some k => k
  | none => -1
def RetI (x : Int) (w : World) (e : Ending) (w' : World) : Prop := e = .returned (.int .i64 x) ∧ Below w.heap.size w w'
theorem retI {a b : Int} {w w' : World} (h : a = b) (hb : Below w.heap.size w w') : RetI b w (.returned (.int .i64 a)) w' := ⟨by rw [h], hb⟩
theorem says_at {rs : List Rw} {c : List Int} {j : Nat} (hj : j < rs.length) (h : ∀ i (hi : i < rs.length), i < j → fitR rs[i].cells c = false) (hf : fitR rs[j].cells c = true) : saysF rs c = some j := by
  unfold saysF
  rw [List.findIdx?_eq_some_iff_getElem]
  exact ⟨hj, hf, fun i hi => by rw [h i (by omega) hi]; simp⟩
theorem says_none {rs : List Rw} {c : List Int} (h : ∀ i (hi : i < rs.length), fitR rs[i].cells c = false) : saysF rs c = none := by
  unfold saysF
  rw [List.findIdx?_eq_none_iff]
  intro r hr
  obtain ⟨i, hi, rfl⟩ := List.mem_iff_getElem.1 hr
  exact h i hi
theorem rw_cells (ms : List RwM) (i : Nat) (hi : i < (ms.map RwM.rw).length) : (ms.map RwM.rw)[i].cells = (ms[i]'(by simpa using hi)).cells.map (·.l) := by simp [RwM.rw]
set_option maxRecDepth 20000 in
set_option maxHeartbeats 2000000 in
theorem saysof_any (qv : Value) (ms : List RwM) (A : Option Addr) (c : Nat) (cs : List Int) (B : Option Addr) (cc : Nat) (hl : ∀ r ∈ ms, cs.length ≤ r.cells.length) (hml : ms.length ≤ 1048576) (hm : cs.length ≤ 1048576) (w : World) (h : DRows w A ms) (hc : Rd w B (ints cs)) :
    Calls Tryd.prog 32 #[.agg #[qv, .slice A ms.length c], .slice B cs.length cc] w (RetI (idxI (saysF (ms.map RwM.rw) cs)) w) := by
  have hbk := Blk.new w 25 [qv, .slice A ms.length c]
  have hx := ext_alloc w (.cells (List.toArray [qv, .slice A ms.length c]) 25)
  obtain ⟨W, hW⟩ : ∃ W, W = w.alloc (.cells (List.toArray [qv, .slice A ms.length c]) 25) := ⟨_, rfl⟩
  rw [← hW] at hx hbk
  have HX := Lib.hid hx
  have HD := Lib.hid (h.ext hx)
  have HC := Lib.hid (hc.ext hx)
  have HW := Lib.hid hW
  have HL := Lib.hid hl
  have r1 := hbk.cell 1 rfl
  clear hbk hx hW h hc hl
  go_enter Tryd.func32, Tryd.ntmps32
  go_upto_region 1 with fail
  rw [show w.alloc (.cells #[qv, .slice A ms.length c] 25) = W from HW.out.symm]
  clear HW
  go_wp2_with fail
  go_loopw [5] (fun t5 wr => ∃ (j : Nat), t5 = .int .i64 j ∧ j ≤ ms.length ∧ Hid (∀ i (hi : i < (ms.map RwM.rw).length), i < j → fitR (ms.map RwM.rw)[i].cells cs = false) ∧ Hid (Below W.heap.size W wr)) (fun t5 _ => ms.length - (intOf t5).toNat)
  case atStart => exact ⟨0, rfl, by omega, fun i hi h => absurd h (by omega), Below.refl _ _⟩
  case round =>
    obtain ⟨j, rfl, hj, HF, HB⟩ := hrel
    have k1 := cell_ext HB.out r1
    by_cases hlt : j < ms.length
    · have hcl : (j : Int) < ms.length := by omega
      obtain ⟨b, o, hAe, x0, x1⟩ := (HD.out.ext HB.out).row hlt
      subst hAe
      have hjm : j < (ms.map RwM.rw).length := by simpa using hlt
      obtain ⟨f, hf⟩ : ∃ f, f = fitR (ms.map RwM.rw)[j].cells cs := ⟨_, rfl⟩
      have HJF := Lib.hid (show f = fitR (ms[j].cells.map (·.l)) cs by rw [hf, rw_cells])
      have HFit := Lib.hid (show ∀ w : World, DCells w ms[j].A ms[j].cells → Rd w B (ints cs) → Calls Tryd.prog 13 #[.agg #[.slice ms[j].A ms[j].cells.length ms[j].c, .string ⟨ms[j].out.toArray⟩], .slice B cs.length cc] w (RetA f w) from fun w h hc => by
        rw [HJF.out]
        exact rfits_any ms[j].cells ms[j].A ms[j].c ⟨ms[j].out.toArray⟩ cs B cc (HL.out _ (List.getElem_mem hlt)) hm w h hc)
      have HCe := Lib.hid ((HD.out.ext HB.out).cells _ (List.getElem_mem hlt))
      have HCc := Lib.hid (HC.out.ext HB.out)
      have HFe := Lib.hid hf
      clear hf HJF
      generalize ms[j] = r at *
      obtain ⟨rc, rA, rcc, ro⟩ := r
      simp only at x0 x1 HFit HCe
      have HCall := Lib.hid (HFit.out wr HCe.out HCc.out)
      go_wp2_with fail
      refine HCall.out.mono ?_
      rintro e w' ⟨rfl, hb2⟩
      have HB2 := Lib.hid hb2
      clear hb2 x0 x1
      cases f with
      | true =>
        go_wp2_with fail
        go_ret
        refine retI ?_ (ext_trans HX.out (ext_trans HB.out HB2.out))
        rw [says_at hjm HF.out HFe.out.symm]
        rfl
      | false =>
        have k1 := cell_ext HB2.out k1
        go_wp2_with fail
        go_roundw
        case rel => exact ⟨j + 1, by go_num, by omega, (show ∀ i (hi : i < (ms.map RwM.rw).length), i < j + 1 → fitR (ms.map RwM.rw)[i].cells cs = false from fun i hi h => by
          rcases Nat.lt_succ_iff_lt_or_eq.1 h with h | rfl
          · exact HF.out i hi h
          · exact HFe.out.symm), ext_trans HB.out HB2.out⟩
        case measure => simp [intOf]; omega
    · obtain rfl : ms.length = j := by omega
      go_wp2_with fail
      go_ret
      refine retI ?_ (ext_trans HX.out HB.out)
      rw [says_none fun i hi => HF.out i hi (by simpa using hi)]
      rfl
end Go.Proofs.YtjfiodknjchngaaDoor.Gp

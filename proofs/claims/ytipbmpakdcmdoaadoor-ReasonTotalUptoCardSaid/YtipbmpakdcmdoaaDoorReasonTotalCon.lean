/- The law ReasonTotal: from the argument as it reads to the walk. -/
import Derived.Test.YtipbmpakdcmdoaaDoorReasonTotalWalk
import Derived.Test.YtipbmpakdcmdoaaDoorRows
import Derived.Test.YtipbmpakdcmdoaaDoorLaid
import Derived.Test.YtipbmpakdcmdoaaDoorOpenTh
namespace Go.Proofs.YtipbmpakdcmdoaaDoor.ReasonTotal
open Go.ChangeShapes Go.WideShapes Go.ChangeAt Go.RowKit Mem Nest LawT
theorem laidOut : laidOutB Tryd.prog = true := by kernel_rfl
theorem four_of {W : World} (hL : laidMetH Tryd.prog Rows.reasonTotalUptoRow.laid W) : ∃ aB aK aN aO, E4 W aB aK aN aO := by
  obtain ⟨h1, _⟩ := laidMetH_iff.1 hL
  rw [show (Rows.reasonTotalUptoRow.laid.filter fun x => x.2.handleName?.isNone) = Rows.reasonTotalUptoRow.laid from by kernel_rfl] at h1
  obtain ⟨a1, s1⟩ := Err.sent_of_laid (b := Err.bErrBound) h1 (by unfold Rows.reasonTotalUptoRow; repeat (first | exact List.Mem.head _ | apply List.Mem.tail)) Err.gErrBound Err.tErrBound
  obtain ⟨a2, s2⟩ := Err.sent_of_laid (b := Err.bErrKind) h1 (by unfold Rows.reasonTotalUptoRow; repeat (first | exact List.Mem.head _ | apply List.Mem.tail)) Err.gErrKind Err.tErrKind
  obtain ⟨a3, s3⟩ := Err.sent_of_laid (b := Err.bErrName) h1 (by unfold Rows.reasonTotalUptoRow; repeat (first | exact List.Mem.head _ | apply List.Mem.tail)) Err.gErrName Err.tErrName
  obtain ⟨a4, s4⟩ := Err.sent_of_laid (b := Err.bErrOrder) h1 (by unfold Rows.reasonTotalUptoRow; repeat (first | exact List.Mem.head _ | apply List.Mem.tail)) Err.gErrOrder Err.tErrOrder
  exact ⟨a1, a2, a3, a4, ⟨s1.v, s2.v, s3.v, s4.v⟩⟩
set_option maxRecDepth 100000 in
theorem contract (H : Type) (enc : TypeId × Value → H) (W : World) (base : Nat) (args : Array Value) (ds gs : List (DataW H)) (before : List MemPlace)
    (hval : ∀ (j : Nat) t v, Tryd.f7.params[j]? = some t → args[j]? = some v → Value.okWide Tryd.prog W .any base t v)
    (hW : DataW.Whole enc Tryd.prog Tryd.f7.params.toList Rows.reasonTotalSpec.vars false W args.toList ds gs before) (hk : Rows.uptoSmall H (ds ++ gs) = true) (hL : laidMetH Tryd.prog Rows.reasonTotalUptoRow.laid W) :
    Calls Tryd.prog 7 args W fun e W' => ∃ v, e = .returned v ∧ Rows.reasonTotalSpec.post enc Tryd.prog Tryd.f7 false true false false W args v W' := by
  have hW' := hW
  obtain ⟨p, q, hA0, hV, rfl, hfz, hnd⟩ := hW
  have hA : DataW.TrodAll enc Tryd.prog W 0 (fun _ => true) true Tryd.f7.params.toList args.toList ds p := hA0
  rw [Tryd.params7] at hA hval
  obtain ⟨v0, vs0, d0, ds0, p0, q0, hargs, rfl, rfl, h0, r0⟩ := trodAll_cons hA
  obtain ⟨rfl, rfl, rfl⟩ := trodAll_nil r0
  obtain rfl : args = #[v0] := by cases args; simp_all
  obtain ⟨rfl, rfl⟩ := trodVars_none hV
  have k0 := h0
  have lt0 : ∀ x ∈ p0, x.block < W.heap.size := by obtain ⟨m, hm⟩ := k0; exact DataW.trod_lt m _ _ _ hm
  have hbk : Rows.uptoBulk d0 ≤ 1048576 := by
    have h : Rows.uptoBulkAll ([d0] ++ []) ≤ 1048576 := of_decide_eq_true hk
    simp only [List.append_nil, Rows.uptoBulkAll] at h
    omega
  obtain ⟨aB, aK, aN, aO, hE⟩ := four_of hL
  have hcall : Calls Tryd.prog 7 #[v0] W (BoolT W) := by
    rcases Open.theory_of (hval 0 57 v0 rfl rfl) h0 hbk with rfl | ⟨b, o, M, rs, RA, rc, ov, OA, oc, rfl, hT⟩
    · exact walk_nil aB aK aN aO W hE
    · exact walk_ptr b o M rs RA rc ov OA oc aB aK aN aO W (hT (Nat.le_refl _)) hE
  clear hA0
  simp only [List.append_nil] at hW'
  refine hcall.mono fun e W' ⟨he, bel⟩ => ?_
  subst he
  exact ⟨_, rfl, _, _, _, [], _, [], hW', trodAll_mk1 (shut_bool Tryd.underlying4 _), (trodAll_cons_mk (Below.trod laidOut (by kernel_rfl) (of_decide_eq_true (by kernel_rfl)) k0 bel lt0) trodAll_mk0), rfl, bel.frame _, fun h => by cases h⟩
-- WITNESS args: .pointer none
-- WITNESS data: .nil
-- PARAM types: 57
end Go.Proofs.YtipbmpakdcmdoaaDoor.ReasonTotal

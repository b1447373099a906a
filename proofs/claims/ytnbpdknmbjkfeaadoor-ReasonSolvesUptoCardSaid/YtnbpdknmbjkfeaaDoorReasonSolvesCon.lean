/- The law ReasonSolves: from the argument as it reads to the walk. -/
import Derived.Test.YtnbpdknmbjkfeaaDoorReasonSolvesMain
import Derived.Test.YtnbpdknmbjkfeaaDoorRows
import Derived.Test.YtnbpdknmbjkfeaaDoorLaid
import Derived.Test.YtnbpdknmbjkfeaaDoorOpenTh
namespace Go.Proofs.YtnbpdknmbjkfeaaDoor.ReasonSolves
open Go.ChangeShapes Go.WideShapes Go.ChangeAt Go.RowKit Mem Nest LawT
theorem laidOut : laidOutB Tryd.prog = true := by kernel_rfl
set_option maxRecDepth 100000 in
theorem contract (H : Type) (enc : TypeId × Value → H) (W : World) (base : Nat) (args : Array Value) (ds gs : List (DataW H)) (before : List MemPlace)
    (hval : ∀ (j : Nat) t v, Tryd.f10.params[j]? = some t → args[j]? = some v → Value.okWide Tryd.prog W .any base t v)
    (hW : DataW.Whole enc Tryd.prog Tryd.f10.params.toList Rows.reasonSolvesSpec.vars false W args.toList ds gs before) (hk : Rows.uptoSmall H (ds ++ gs) = true) (hL : laidMetH Tryd.prog Rows.reasonSolvesUptoRow.laid W) :
    Calls Tryd.prog 10 args W fun e W' => ∃ v, e = .returned v ∧ Rows.reasonSolvesSpec.post enc Tryd.prog Tryd.f10 false true false false W args v W' := by
  have hW' := hW
  obtain ⟨p, q, hA0, hV, rfl, hfz, hnd⟩ := hW
  have hA : DataW.TrodAll enc Tryd.prog W 0 (fun _ => true) true Tryd.f10.params.toList args.toList ds p := hA0
  rw [Tryd.params10] at hA hval
  obtain ⟨v0, vs0, d0, ds0, p0, q0, hargs, rfl, rfl, h0, r0⟩ := trodAll_cons hA
  obtain ⟨rfl, rfl, rfl⟩ := trodAll_nil r0
  obtain rfl : args = #[v0] := by cases args; simp_all
  obtain ⟨rfl, rfl⟩ := trodVars_none hV
  have k0 := h0
  have lt0 : ∀ x ∈ p0, x.block < W.heap.size := by obtain ⟨m, hm⟩ := k0; exact DataW.trod_lt m _ _ _ hm
  have hbk : Rows.uptoBulk d0 ≤ 1048576 := by
    have h : Rows.uptoBulkAll ([d0] ++ []) ≤ 1048576 := of_decide_eq_true hk
    simp only [List.append_nil, Rows.uptoBulkAll] at h
    omega
  obtain ⟨A, hE⟩ := Err.errs_of_laid hL
  have hcall : Calls Tryd.prog 10 #[v0] W (WhySound.BoolT W) := by
    rcases Open.theory_of (hval 0 92 v0 rfl rfl) h0 hbk with rfl | ⟨b, o, M, rs, RA, rc, ov, OA, oc, rfl, hT⟩
    · exact walk_nil A W hE
    · exact walk_ptr b o M rs RA rc ov OA oc A W (hT (Nat.le_refl _)) hE
  clear hA0
  simp only [List.append_nil] at hW'
  refine hcall.mono fun e W' ⟨he, bel⟩ => ?_
  subst he
  exact ⟨_, rfl, _, _, _, [], _, [], hW', trodAll_mk1 (shut_bool Tryd.underlying4 _), (trodAll_cons_mk (Below.trod laidOut (by kernel_rfl) (of_decide_eq_true (by kernel_rfl)) k0 bel lt0) trodAll_mk0), rfl, bel.frame _, fun h => by cases h⟩
-- WITNESS args: .pointer none
-- WITNESS data: .nil
-- PARAM types: 92
end Go.Proofs.YtnbpdknmbjkfeaaDoor.ReasonSolves

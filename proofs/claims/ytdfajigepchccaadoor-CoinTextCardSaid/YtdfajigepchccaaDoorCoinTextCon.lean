/- The law CoinText: from the arguments as they read to the walk. -/
import Derived.Test.YtdfajigepchccaaDoorCoinTextMain
import Derived.Test.YtdfajigepchccaaDoorLaid3
import Derived.Test.YtdfajigepchccaaDoorRows
import Derived.ProofKit
import Derived.OpenShut
namespace Go.Proofs.YtdfajigepchccaaDoor.CoinText
open Go.ChangeShapes Go.WideShapes Go.ChangeAt Go.RowKit
set_option maxRecDepth 100000 in
theorem contract (H : Type) (enc : TypeId × Value → H) (W : World) (base : Nat) (args : Array Value) (ds gs : List (DataW H)) (before : List MemPlace)
    (hval : ∀ (j : Nat) t v, Tryd.f6.params[j]? = some t → args[j]? = some v → Value.okWide Tryd.prog W .any base t v)
    (hW : DataW.Whole enc Tryd.prog Tryd.f6.params.toList Rows.coinTextSpec.vars false W args.toList ds gs before) (hL : laidMetH Tryd.prog Rows.coinTextRow.laid W) (hS : W.ShapedOpen Tryd.prog) :
    Calls Tryd.prog 6 args W fun e W' => ∃ v, e = .returned v ∧ Rows.coinTextSpec.post enc Tryd.prog Tryd.f6 false true false false W args v W' := by
  have hW' := hW
  obtain ⟨p, q, hA0, hV, rfl, hfz, hnd⟩ := hW
  have hA : DataW.TrodAll enc Tryd.prog W 0 (fun _ => true) true Tryd.f6.params.toList args.toList ds p := hA0
  rw [Tryd.params6] at hA hval
  obtain ⟨v0, vs0, d0, ds0, p0, q0, hargs, rfl, rfl, h0, r0⟩ := trodAll_cons hA
  obtain ⟨rfl, rfl, rfl⟩ := trodAll_nil r0
  obtain rfl : args = #[v0] := by cases args; simp_all
  obtain ⟨rfl, rfl⟩ := trodVars_none hV
  obtain ⟨a0, rfl, rfl, rfl, w0⟩ := open_int Tryd.underlying3 (hval 0 3 v0 rfl rfl) h0
  clear hA0
  simp only [List.append_nil] at hW'
  obtain ⟨A, rv, m, hE⟩ := Laid2.ce_of hL hS (by kernel_rfl) (by kernel_rfl) (by kernel_rfl)
  have hP := Laid2.pow_of hL (by kernel_rfl)
  obtain ⟨b1, b2⟩ := bounds_i64 w0
  refine (walk a0 b1 b2 A rv m W hE hP).mono fun e W' ⟨he, bel⟩ => ?_
  subst he
  exact ⟨_, rfl, _, _, _, [], _, [], hW', trodAll_mk1 (shut_bool Tryd.underlying4 _), (trodAll_cons_mk (shut_int Tryd.underlying3 w0) trodAll_mk0), rfl, bel.frame _, fun h => by cases h⟩
-- WITNESS args: .int .i64 0
-- WITNESS data: .lit (.int .i64 0)
-- PARAM types: 3
-- SHAPED
end Go.Proofs.YtdfajigepchccaaDoor.CoinText

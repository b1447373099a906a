/- The law CoinGrows: from the arguments as they read to the walk. -/
import Derived.Test.YtdfajigepchccaaDoorCoinGrowsMain
import Derived.Test.YtdfajigepchccaaDoorLaid3
import Derived.Test.YtdfajigepchccaaDoorRows
import Derived.Test.YtdfajigepchccaaDoorOpenBn
import Derived.ProofKit
import Derived.OpenShut
import Derived.ChangeMaps5
namespace Go.Proofs.YtdfajigepchccaaDoor.CoinGrows
open Go.ChangeShapes Go.WideShapes Go.ChangeAt Go.RowKit
def orderName : String := "statute/api.ErrOrder"
def kindName : String := "statute/api.ErrKind"
theorem laidOut : laidOutB Tryd.prog = true := by kernel_rfl
set_option maxRecDepth 100000 in
theorem contract (H : Type) (enc : TypeId × Value → H) (W : World) (base : Nat) (args : Array Value) (ds gs : List (DataW H)) (before : List MemPlace)
    (hval : ∀ (j : Nat) t v, Tryd.f7.params[j]? = some t → args[j]? = some v → Value.okWide Tryd.prog W .any base t v)
    (hW : DataW.Whole enc Tryd.prog Tryd.f7.params.toList Rows.coinGrowsSpec.vars false W args.toList ds gs before) (hL : laidMetH Tryd.prog Rows.coinGrowsRow.laid W) (hS : W.ShapedOpen Tryd.prog) :
    Calls Tryd.prog 7 args W fun e W' => ∃ v, e = .returned v ∧ Rows.coinGrowsSpec.post enc Tryd.prog Tryd.f7 false true false false W args v W' := by
  have hW' := hW
  obtain ⟨p, q, hA0, hV, rfl, hfz, hnd⟩ := hW
  have hA : DataW.TrodAll enc Tryd.prog W 0 (fun _ => true) true Tryd.f7.params.toList args.toList ds p := hA0
  rw [Tryd.params7] at hA hval
  obtain ⟨v0, vs0, d0, ds0, p0, q0, hargs, rfl, rfl, h0, r0⟩ := trodAll_cons hA
  obtain ⟨v1, vs1, d1, ds1, p1, q1, rfl, rfl, rfl, h1, r1⟩ := trodAll_cons r0
  obtain ⟨v2, vs2, d2, ds2, p2, q2, rfl, rfl, rfl, h2, r2⟩ := trodAll_cons r1
  obtain ⟨rfl, rfl, rfl⟩ := trodAll_nil r2
  obtain rfl : args = #[v0, v1, v2] := by cases args; simp_all
  obtain ⟨rfl, rfl⟩ := trodVars_none hV
  obtain ⟨a0, rfl, rfl, rfl, w0⟩ := open_int Tryd.underlying3 (hval 0 3 v0 rfl rfl) h0
  obtain ⟨a1, rfl, rfl, rfl, w1⟩ := open_int Tryd.underlying3 (hval 1 3 v1 rfl rfl) h1
  obtain ⟨A2, n2, c2, rfl⟩ := okWide_slice Tryd.underlying62 (hval 2 62 v2 rfl rfl)
  have k2 := h2
  have lt2 : ∀ x ∈ p2, x.block < W.heap.size := by obtain ⟨m, hm⟩ := k2; exact DataW.trod_lt m _ _ _ hm
  obtain ⟨fuel2, hf2⟩ := h2
  obtain ⟨l, rfl, l1, l2, hR⟩ := Open.bands_of hf2
  clear hA0
  simp only [List.append_nil] at hW'
  obtain ⟨A, rv, m, hE⟩ := Laid2.ce_of hL hS (by kernel_rfl) (by kernel_rfl) (by kernel_rfl)
  obtain ⟨aO, hO⟩ := Laid2.sent_of hL orderName Err.bErrOrder _ (by kernel_rfl) Err.gErrOrder Err.tErrOrder
  obtain ⟨aK, hK⟩ := Laid2.sent_of hL kindName Err.bErrKind _ (by kernel_rfl) Err.gErrKind Err.tErrKind
  refine (walk a0 a1 l A2 c2 (by unfold maxLen at l2; omega) A rv m aO aK W hR hE hO hK).mono fun e W' ⟨he, bel⟩ => ?_
  subst he
  exact ⟨_, rfl, _, _, _, [], _, [], hW', trodAll_mk1 (shut_bool Tryd.underlying4 _), (trodAll_cons_mk (shut_int Tryd.underlying3 w0) (trodAll_cons_mk (shut_int Tryd.underlying3 w1) (trodAll_cons_mk (Below.trod laidOut (by kernel_rfl) (of_decide_eq_true (by kernel_rfl)) k2 bel lt2) trodAll_mk0))), rfl, bel.frame _, fun h => by cases h⟩
-- WITNESS args: .int .i64 0, .int .i64 0, .slice none 0 0
-- WITNESS data: .lit (.int .i64 0), .lit (.int .i64 0), .nil
-- PARAM types: 3, 3, 62
-- SHAPED
end Go.Proofs.YtdfajigepchccaaDoor.CoinGrows

/- The law CoinBands: from the arguments as they read to the walk. -/
import Derived.Test.YtdfajigepchccaaGreatDoorCoinBandsMain
import Derived.Test.YtdfajigepchccaaGreatDoorLaid3
import Derived.Test.YtdfajigepchccaaGreatDoorRows
import Derived.Test.YtdfajigepchccaaGreatDoorOpenBn
import Derived.ProofKit
import Derived.OpenShut
import Derived.ChangeMaps5
namespace Go.Proofs.YtdfajigepchccaaGreatDoor.CoinBands
open Go.ChangeShapes Go.WideShapes Go.ChangeAt Go.RowKit
theorem laidOut : laidOutB Tryz.prog = true := by kernel_rfl
set_option maxRecDepth 100000 in
theorem contract (H : Type) (enc : TypeId × Value → H) (W : World) (base : Nat) (args : Array Value) (ds gs : List (DataW H)) (before : List MemPlace)
    (hval : ∀ (j : Nat) t v, Tryz.f4.params[j]? = some t → args[j]? = some v → Value.okWide Tryz.prog W .any base t v)
    (hW : DataW.Whole enc Tryz.prog Tryz.f4.params.toList Rows.coinBandsSpec.vars false W args.toList ds gs before) (hL : laidMetH Tryz.prog Rows.coinBandsRow.laid W) (hS : W.ShapedOpen Tryz.prog) :
    Calls Tryz.prog 4 args W fun e W' => ∃ v, e = .returned v ∧ Rows.coinBandsSpec.post enc Tryz.prog Tryz.f4 false true false false W args v W' := by
  have hW' := hW
  obtain ⟨p, q, hA0, hV, rfl, hfz, hnd⟩ := hW
  have hA : DataW.TrodAll enc Tryz.prog W 0 (fun _ => true) true Tryz.f4.params.toList args.toList ds p := hA0
  rw [Tryz.params4] at hA hval
  obtain ⟨v0, vs0, d0, ds0, p0, q0, hargs, rfl, rfl, h0, r0⟩ := trodAll_cons hA
  obtain ⟨v1, vs1, d1, ds1, p1, q1, rfl, rfl, rfl, h1, r1⟩ := trodAll_cons r0
  obtain ⟨v2, vs2, d2, ds2, p2, q2, rfl, rfl, rfl, h2, r2⟩ := trodAll_cons r1
  obtain ⟨rfl, rfl, rfl⟩ := trodAll_nil r2
  obtain rfl : args = #[v0, v1, v2] := by cases args; simp_all
  obtain ⟨rfl, rfl⟩ := trodVars_none hV
  obtain ⟨a0, rfl, rfl, rfl, w0⟩ := open_int Tryz.underlying3 (hval 0 3 v0 rfl rfl) h0
  obtain ⟨A1, n1, c1, rfl⟩ := okWide_slice Tryz.underlying33 (hval 1 33 v1 rfl rfl)
  obtain ⟨a2, rfl, rfl, rfl, w2⟩ := open_int Tryz.underlying3 (hval 2 3 v2 rfl rfl) h2
  have k1 := h1
  have lt1 : ∀ x ∈ p1, x.block < W.heap.size := by obtain ⟨m, hm⟩ := k1; exact DataW.trod_lt m _ _ _ hm
  obtain ⟨fuel1, hf1⟩ := h1
  obtain ⟨l, rfl, l1, l2, hR⟩ := Open.bands_of hf1
  clear hA0
  simp only [List.append_nil] at hW'
  obtain ⟨A, hA1⟩ := Laid2.errs_of hL (by kernel_rfl)
  obtain ⟨ar, hr⟩ := Laid2.sent_of hL Laid2.rangeName Laid2.bErrRange _ (by kernel_rfl) Laid2.gRange Laid2.tRange
  obtain ⟨m, hm⟩ := Laid2.max_of hS
  refine (walk a0 a2 l A1 c1 (by unfold maxLen at l2; omega) A _ m W hR ⟨hA1.v0, hA1.v2, hr, ⟨_, _, rfl⟩, hm⟩ hA1).mono fun e W' ⟨he, bel⟩ => ?_
  subst he
  exact ⟨_, rfl, _, _, _, [], _, [], hW', trodAll_mk1 (shut_bool Tryz.underlying4 _), (trodAll_cons_mk (shut_int Tryz.underlying3 w0) (trodAll_cons_mk (Below.trod laidOut (by kernel_rfl) (of_decide_eq_true (by kernel_rfl)) k1 bel lt1) (trodAll_cons_mk (shut_int Tryz.underlying3 w2) trodAll_mk0))), rfl, bel.frame _, fun h => by cases h⟩
-- WITNESS args: .int .i64 0, .slice none 0 0, .int .i64 0
-- WITNESS data: .lit (.int .i64 0), .nil, .lit (.int .i64 0)
-- PARAM types: 3, 33, 3
-- SHAPED
end Go.Proofs.YtdfajigepchccaaGreatDoor.CoinBands

/- The law GapsParted: from the arguments as they read to the walk. -/
import Derived.Test.YtjfiodknjchngaaDoorGapsPartedMain
import Derived.Test.YtjfiodknjchngaaDoorRows
import Derived.Test.YtjfiodknjchngaaDoorLaid
import Derived.Test.YtjfiodknjchngaaDoorOpenTb
namespace Go.Proofs.YtjfiodknjchngaaDoor.GapsParted
open Go.ChangeShapes Go.WideShapes Go.ChangeAt Go.RowKit Mem Nest
theorem laidOut : laidOutB Tryd.prog = true := by kernel_rfl
set_option maxRecDepth 100000 in
theorem contract (H : Type) (enc : TypeId × Value → H) (W : World) (base : Nat) (args : Array Value) (ds gs : List (DataW H)) (before : List MemPlace)
    (hval : ∀ (j : Nat) t v, Tryd.f3.params[j]? = some t → args[j]? = some v → Value.okWide Tryd.prog W .any base t v)
    (hW : DataW.Whole enc Tryd.prog Tryd.f3.params.toList Rows.gapsPartedSpec.vars false W args.toList ds gs before) (hk : Rows.uptoSmall H (ds ++ gs) = true) (hL : laidMetH Tryd.prog Rows.gapsPartedUptoRow.laid W) :
    Calls Tryd.prog 3 args W fun e W' => ∃ v, e = .returned v ∧ Rows.gapsPartedSpec.post enc Tryd.prog Tryd.f3 false true false false W args v W' := by
  have hW' := hW
  obtain ⟨p, q, hA0, hV, rfl, hfz, hnd⟩ := hW
  have hA : DataW.TrodAll enc Tryd.prog W 0 (fun _ => true) true Tryd.f3.params.toList args.toList ds p := hA0
  rw [Tryd.params3] at hA hval
  obtain ⟨v0, vs0, d0, ds0, p0, q0, hargs, rfl, rfl, h0, r0⟩ := trodAll_cons hA
  obtain ⟨rfl, rfl, rfl⟩ := trodAll_nil r0
  obtain rfl : args = #[v0] := by cases args; simp_all
  obtain ⟨rfl, rfl⟩ := trodVars_none hV
  have k0 := h0
  have lt0 : ∀ x ∈ p0, x.block < W.heap.size := by obtain ⟨m, hm⟩ := k0; exact DataW.trod_lt m _ _ _ hm
  have hbks : Rows.uptoBulk d0 ≤ 1048576 := by
    have h : Rows.uptoBulkAll ([d0] ++ []) ≤ 1048576 := of_decide_eq_true hk
    simp only [List.append_nil, Rows.uptoBulkAll] at h
    omega
  obtain ⟨qms, A, c, rrs, B, bc, rfl, t1, t2, t3, t4, t5, t6⟩ := Open.tab_of (Nat.le_refl _) (hval 0 25 v0 rfl rfl) h0 hbks
  obtain ⟨E, hE⟩ := Laid5.errs_of hL (by kernel_rfl)
  have hcall := gp_walk E qms A c rrs B bc t1 t2 t3 W hE t4 t5 t6
  clear hA0
  simp only [List.append_nil] at hW'
  refine hcall.mono fun e W' ⟨he, bel⟩ => ?_
  subst he
  exact ⟨_, rfl, _, _, _, [], _, [], hW', trodAll_mk1 (shut_bool Tryd.underlying4 _), (trodAll_cons_mk (Below.trod laidOut (by kernel_rfl) (of_decide_eq_true (by kernel_rfl)) k0 bel lt0) trodAll_mk0), rfl, bel.frame _, fun h => by cases h⟩
-- WITNESS args: .agg #[.slice none 0 0, .slice none 0 0]
-- WITNESS data: .agg [.nil, .nil]
-- PARAM types: 25
end Go.Proofs.YtjfiodknjchngaaDoor.GapsParted

/- The law WhyChecks: from the argument as it reads to the walk. -/
import Derived.Test.YtnbpdknmbjkfeaaDoorWhyChecksMain
import Derived.Test.YtnbpdknmbjkfeaaDoorRows
import Derived.Test.YtnbpdknmbjkfeaaDoorLaid
import Derived.Test.YtnbpdknmbjkfeaaDoorOpenTh
namespace Go.Proofs.YtnbpdknmbjkfeaaDoor.WhyChecks
open Go.ChangeShapes Go.WideShapes Go.ChangeAt Go.RowKit Mem Nest LawT
theorem laidOut : laidOutB Tryd.prog = true := by kernel_rfl
set_option maxRecDepth 100000 in
theorem contract (H : Type) (enc : TypeId × Value → H) (W : World) (base : Nat) (args : Array Value) (ds gs : List (DataW H)) (before : List MemPlace)
    (hval : ∀ (j : Nat) t v, Tryd.f9.params[j]? = some t → args[j]? = some v → Value.okWide Tryd.prog W .any base t v)
    (hW : DataW.Whole enc Tryd.prog Tryd.f9.params.toList Rows.whyChecksSpec.vars false W args.toList ds gs before) (hk : Rows.uptoSmall H (ds ++ gs) = true) (hL : laidMetH Tryd.prog Rows.whyChecksUptoRow.laid W) :
    Calls Tryd.prog 9 args W fun e W' => ∃ v, e = .returned v ∧ Rows.whyChecksSpec.post enc Tryd.prog Tryd.f9 false true false false W args v W' := by
  have hW' := hW
  obtain ⟨p, q, hA0, hV, rfl, hfz, hnd⟩ := hW
  have hA : DataW.TrodAll enc Tryd.prog W 0 (fun _ => true) true Tryd.f9.params.toList args.toList ds p := hA0
  rw [Tryd.params9] at hA hval
  obtain ⟨v0, vs0, d0, ds0, p0, q0, hargs, rfl, rfl, h0, r0⟩ := trodAll_cons hA
  obtain ⟨v1, vs1, d1, ds1, p1, q1, rfl, rfl, rfl, h1, r1⟩ := trodAll_cons r0
  obtain ⟨rfl, rfl, rfl⟩ := trodAll_nil r1
  obtain rfl : args = #[v0, v1] := by cases args; simp_all
  obtain ⟨rfl, rfl⟩ := trodVars_none hV
  obtain ⟨A1, n1, c1, rfl⟩ := okWide_slice Tryd.underlying93 (hval 1 93 v1 rfl rfl)
  have k0 := h0
  have k1 := h1
  have lt0 : ∀ x ∈ p0, x.block < W.heap.size := by obtain ⟨m, hm⟩ := k0; exact DataW.trod_lt m _ _ _ hm
  have lt1 : ∀ x ∈ p1, x.block < W.heap.size := by obtain ⟨m, hm⟩ := k1; exact DataW.trod_lt m _ _ _ hm
  have hbks : Rows.uptoBulk d0 ≤ 1048576 ∧ Rows.uptoBulk d1 ≤ 1048576 := by
    have h : Rows.uptoBulkAll ([d0, d1] ++ []) ≤ 1048576 := of_decide_eq_true hk
    simp only [List.append_nil, Rows.uptoBulkAll] at h
    omega
  obtain ⟨fuel1, hf1⟩ := h1
  obtain ⟨z1, rfl, l1, hL1, _⟩ := Open.stepsN hf1 hbks.2
  obtain ⟨A, hE⟩ := Err.errs_of_laid hL
  have hcall : Calls Tryd.prog 9 #[v0, .slice A1 z1.length c1] W (WhySound.BoolT W) := by
    rcases Open.theory_of (hval 0 92 v0 rfl rfl) h0 hbks.1 with rfl | ⟨b, o, M, rs, RA, rc, ov, OA, oc, rfl, hT⟩
    · exact walk_nil A1 z1.length c1 A W hE
    · exact walk_ptr b o M rs RA rc ov OA oc z1 l1 A1 c1 A W (hT (Nat.le_refl _)) hE hL1
  clear hA0
  simp only [List.append_nil] at hW'
  refine hcall.mono fun e W' ⟨he, bel⟩ => ?_
  subst he
  exact ⟨_, rfl, _, _, _, [], _, [], hW', trodAll_mk1 (shut_bool Tryd.underlying4 _), (trodAll_cons_mk (Below.trod laidOut (by kernel_rfl) (of_decide_eq_true (by kernel_rfl)) k0 bel lt0) (trodAll_cons_mk (Below.trod laidOut (by kernel_rfl) (of_decide_eq_true (by kernel_rfl)) k1 bel lt1) trodAll_mk0)), rfl, bel.frame _, fun h => by cases h⟩
-- WITNESS args: .pointer none, .slice none 0 0
-- WITNESS data: .nil, .nil
-- PARAM types: 92, 93
end Go.Proofs.YtnbpdknmbjkfeaaDoor.WhyChecks

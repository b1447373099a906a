/- The law CasesFollow: from the arguments as they read to the walk. -/
import Derived.Test.YthokhiejlogpoaaGreatDoorCasesFollowMain
import Derived.Test.YthokhiejlogpoaaGreatDoorRows
import Derived.Test.YthokhiejlogpoaaGreatDoorLaid
import Derived.Test.YthokhiejlogpoaaGreatDoorOpenRu
namespace Go.Proofs.YthokhiejlogpoaaGreatDoor.CasesFollow
open Go.ChangeShapes Go.WideShapes Go.ChangeAt Go.RowKit Mem Nest LawT
theorem laidOut : laidOutB Tryz.prog = true := by kernel_rfl
set_option maxRecDepth 100000 in
theorem contract (H : Type) (enc : TypeId × Value → H) (W : World) (base : Nat) (args : Array Value) (ds gs : List (DataW H)) (before : List MemPlace)
    (hval : ∀ (j : Nat) t v, Tryz.f5.params[j]? = some t → args[j]? = some v → Value.okWide Tryz.prog W .any base t v)
    (hW : DataW.Whole enc Tryz.prog Tryz.f5.params.toList Rows.casesFollowSpec.vars false W args.toList ds gs before) (hk : Rows.uptoSmall H (ds ++ gs) = true) (hL : laidMetH Tryz.prog Rows.casesFollowUptoRow.laid W) :
    Calls Tryz.prog 5 args W fun e W' => ∃ v, e = .returned v ∧ Rows.casesFollowSpec.post enc Tryz.prog Tryz.f5 false true false false W args v W' := by
  have hW' := hW
  obtain ⟨p, q, hA0, hV, rfl, hfz, hnd⟩ := hW
  have hA : DataW.TrodAll enc Tryz.prog W 0 (fun _ => true) true Tryz.f5.params.toList args.toList ds p := hA0
  rw [Tryz.params5] at hA hval
  obtain ⟨v0, vs0, d0, ds0, p0, q0, hargs, rfl, rfl, h0, r0⟩ := trodAll_cons hA
  obtain ⟨v1, vs1, d1, ds1, p1, q1, rfl, rfl, rfl, h1, r1⟩ := trodAll_cons r0
  obtain ⟨rfl, rfl, rfl⟩ := trodAll_nil r1
  obtain rfl : args = #[v0, v1] := by cases args; simp_all
  obtain ⟨rfl, rfl⟩ := trodVars_none hV
  obtain ⟨A1, n1, c1, rfl⟩ := okWide_slice Tryz.underlying96 (hval 1 96 v1 rfl rfl)
  have k0 := h0
  have k1 := h1
  have lt0 : ∀ x ∈ p0, x.block < W.heap.size := by obtain ⟨m, hm⟩ := k0; exact DataW.trod_lt m _ _ _ hm
  have lt1 : ∀ x ∈ p1, x.block < W.heap.size := by obtain ⟨m, hm⟩ := k1; exact DataW.trod_lt m _ _ _ hm
  have hbks : Rows.uptoBulk d0 ≤ 1048576 ∧ Rows.uptoBulk d1 ≤ 1048576 := by
    have h : Rows.uptoBulkAll ([d0, d1] ++ []) ≤ 1048576 := of_decide_eq_true hk
    simp only [List.append_nil, Rows.uptoBulkAll] at h
    omega
  obtain ⟨fuel1, hf1⟩ := h1
  obtain ⟨ls, rfl, l1, hL1, hL2⟩ := Open.rulings_of hf1 hbks.2
  obtain ⟨A, hE⟩ := Err.errs_of_laid hL
  have hcall : Calls Tryz.prog 5 #[v0, .slice A1 ls.length c1] W (Cf.TrueB W) := by
    rcases Open.theory_of2 (hval 0 95 v0 rfl rfl) h0 hbks.1 with rfl | ⟨b, o, M, rs, RA, rc, ov, OA, oc, rfl, hT⟩
    · exact walk_nil A1 ls.length c1 W
    · exact walk_ptr b o M rs RA rc (hT (Nat.le_refl _)).2 ov OA oc ls A1 c1 l1 (fun r hr => (hL2 r hr).1) (fun r hr => (hL2 r hr).2) A W (hT (Nat.le_refl _)).1 hL1 hE
  clear hA0
  simp only [List.append_nil] at hW'
  refine hcall.mono fun e W' ⟨he, bel⟩ => ?_
  subst he
  exact ⟨_, rfl, _, _, _, [], _, [], hW', trodAll_mk1 (shut_bool Tryz.underlying4 _), (trodAll_cons_mk (Below.trod laidOut (by kernel_rfl) (of_decide_eq_true (by kernel_rfl)) k0 bel lt0) (trodAll_cons_mk (Below.trod laidOut (by kernel_rfl) (of_decide_eq_true (by kernel_rfl)) k1 bel lt1) trodAll_mk0)), rfl, bel.frame _, fun h => by cases h⟩
-- WITNESS args: .pointer none, .slice none 0 0
-- WITNESS data: .nil, .nil
-- PARAM types: 95, 96
end Go.Proofs.YthokhiejlogpoaaGreatDoor.CasesFollow

/- The law GapsSame: from the arguments as they read to the walk. -/
import Derived.Test.YtednlkchbjpabaaDoorGapsSameMain
import Derived.Test.YtednlkchbjpabaaDoorRows
import Derived.Test.YtednlkchbjpabaaDoorLaid5
import Derived.Test.YtednlkchbjpabaaDoorOpenTb
namespace Go.Proofs.YtednlkchbjpabaaDoor.GapsSame
open Go.ChangeShapes Go.WideShapes Go.ChangeAt Go.RowKit Mem Nest
theorem laidOut : laidOutB Tryd.prog = true := by kernel_rfl
set_option maxRecDepth 100000 in
theorem contract (H : Type) (enc : TypeId × Value → H) (W : World) (base : Nat) (args : Array Value) (ds gs : List (DataW H)) (before : List MemPlace)
    (hval : ∀ (j : Nat) t v, Tryd.f5.params[j]? = some t → args[j]? = some v → Value.okWide Tryd.prog W .any base t v)
    (hW : DataW.Whole enc Tryd.prog Tryd.f5.params.toList Rows.gapsSameSpec.vars false W args.toList ds gs before) (hk : Rows.uptoSmall H (ds ++ gs) = true) (hL : laidMetH Tryd.prog Rows.gapsSameUptoRow.laid W) :
    Calls Tryd.prog 5 args W fun e W' => ∃ v, e = .returned v ∧ Rows.gapsSameSpec.post enc Tryd.prog Tryd.f5 false true false false W args v W' := by
  have hW' := hW
  obtain ⟨p, q, hA0, hV, rfl, hfz, hnd⟩ := hW
  have hA : DataW.TrodAll enc Tryd.prog W 0 (fun _ => true) true Tryd.f5.params.toList args.toList ds p := hA0
  rw [Tryd.params5] at hA hval
  obtain ⟨v0, vs0, d0, ds0, p0, q0, hargs, rfl, rfl, h0, r0⟩ := trodAll_cons hA
  obtain ⟨v1, vs1, d1, ds1, p1, q1, rfl, rfl, rfl, h1, r1⟩ := trodAll_cons r0
  obtain ⟨v2, vs2, d2, ds2, p2, q2, rfl, rfl, rfl, h2, r2⟩ := trodAll_cons r1
  obtain ⟨rfl, rfl, rfl⟩ := trodAll_nil r2
  obtain rfl : args = #[v0, v1, v2] := by cases args; simp_all
  obtain ⟨rfl, rfl⟩ := trodVars_none hV
  obtain ⟨CA, n2, cc, rfl⟩ := okWide_slice Tryd.underlying34 (hval 2 34 v2 rfl rfl)
  have k0 := h0
  have k1 := h1
  have k2 := h2
  have lt0 : ∀ x ∈ p0, x.block < W.heap.size := by obtain ⟨m, hm⟩ := k0; exact DataW.trod_lt m _ _ _ hm
  have lt1 : ∀ x ∈ p1, x.block < W.heap.size := by obtain ⟨m, hm⟩ := k1; exact DataW.trod_lt m _ _ _ hm
  have lt2 : ∀ x ∈ p2, x.block < W.heap.size := by obtain ⟨m, hm⟩ := k2; exact DataW.trod_lt m _ _ _ hm
  have hbks : Rows.uptoBulk d0 ≤ 1048576 ∧ Rows.uptoBulk d1 ≤ 1048576 ∧ Rows.uptoBulk d2 ≤ 1048576 := by
    have h : Rows.uptoBulkAll ([d0, d1, d2] ++ []) ≤ 1048576 := of_decide_eq_true hk
    simp only [List.append_nil, Rows.uptoBulkAll] at h
    omega
  obtain ⟨qa, A, c, ra, B, bc, rfl, t1, t2, t3, t4, t5, t6⟩ := Open.tab_of (Nat.le_refl _) (hval 0 25 v0 rfl rfl) h0 hbks.1
  obtain ⟨qb, A2, c2, rb, B2, bc2, rfl, u1, u2, u3, u4, u5, u6⟩ := Open.tab_of (Nat.le_refl _) (hval 1 25 v1 rfl rfl) h1 hbks.2.1
  obtain ⟨fuel2, hf2⟩ := h2
  obtain ⟨cs, rfl, _, _, hcs, _⟩ := Open.intsN hf2 hbks.2.2
  obtain ⟨E, hE⟩ := Laid5.errs_of hL (by kernel_rfl)
  have hcall := gs_walk E qa A c ra B bc qb A2 c2 rb B2 bc2 cs CA cc t1 t2 t3 u1 u2 u3 W hE t4 t5 t6 u4 u5 u6 hcs
  clear hA0
  simp only [List.append_nil] at hW'
  refine hcall.mono fun e W' ⟨he, bel⟩ => ?_
  subst he
  exact ⟨_, rfl, _, _, _, [], _, [], hW', trodAll_mk1 (shut_bool Tryd.underlying4 _), (trodAll_cons_mk (Below.trod laidOut (by kernel_rfl) (of_decide_eq_true (by kernel_rfl)) k0 bel lt0) (trodAll_cons_mk (Below.trod laidOut (by kernel_rfl) (of_decide_eq_true (by kernel_rfl)) k1 bel lt1) (trodAll_cons_mk (Below.trod laidOut (by kernel_rfl) (of_decide_eq_true (by kernel_rfl)) k2 bel lt2) trodAll_mk0))), rfl, bel.frame _, fun h => by cases h⟩
-- WITNESS args: .agg #[.slice none 0 0, .slice none 0 0], .agg #[.slice none 0 0, .slice none 0 0], .slice none 0 0
-- WITNESS data: .agg [.nil, .nil], .agg [.nil, .nil], .nil
-- PARAM types: 25, 25, 34
end Go.Proofs.YtednlkchbjpabaaDoor.GapsSame

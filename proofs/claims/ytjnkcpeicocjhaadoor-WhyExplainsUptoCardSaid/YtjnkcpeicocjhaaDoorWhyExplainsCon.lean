/- The law WhyExplains: from the argument as it reads to the walk. -/
import Derived.Test.YtjnkcpeicocjhaaDoorWhyExplainsMain
import Derived.Test.YtjnkcpeicocjhaaDoorRows
import Derived.Test.YtjnkcpeicocjhaaDoorLaid
import Derived.Test.YtjnkcpeicocjhaaDoorOpenTh
namespace Go.Proofs.YtjnkcpeicocjhaaDoor.WhyExplains
open Go.ChangeShapes Go.WideShapes Go.ChangeAt Go.RowKit Mem Nest LawT
section
variable {H : Type} {enc : TypeId × Value → H} {w : World} {base : Nat} {spare : Nat → Bool} {held : Bool}
set_option maxRecDepth 100000 in
theorem step_of {v : Value} {d : DataW H} {ps : List MemPlace} {r : Reach} {b0 : Nat} (hval : Value.okWide Tryd.prog w r b0 63 v) (hd : DataW.Trod enc Tryd.prog w base spare held 63 v d ps) :
    ∃ g : ChkW.Sp, v = Value.agg #[Value.bool g.a, Value.bool g.b, Value.int IntKind.i64 g.q] := by
  obtain ⟨cs, rfl, hcs⟩ := okWide_struct Tryd.underlying63 hval
  obtain ⟨fuel, hf0⟩ := hd
  obtain ⟨l⟩ := cs
  have hf1 : DataW.trod enc Tryd.prog w base spare held fuel 63 l = some (d, ps) := by simpa [Value.cells] using hf0
  obtain ⟨g, rfl, _⟩ := Open.read_step _ _ _ hf1
  exact ⟨g, rfl⟩
end
theorem laidOut : laidOutB Tryd.prog = true := by kernel_rfl
set_option maxRecDepth 100000 in
theorem contract (H : Type) (enc : TypeId × Value → H) (W : World) (base : Nat) (args : Array Value) (ds gs : List (DataW H)) (before : List MemPlace)
    (hval : ∀ (j : Nat) t v, Tryd.f5.params[j]? = some t → args[j]? = some v → Value.okWide Tryd.prog W .any base t v)
    (hW : DataW.Whole enc Tryd.prog Tryd.f5.params.toList Rows.whyExplainsSpec.vars false W args.toList ds gs before) (hk : Rows.uptoSmall H (ds ++ gs) = true) (hL : laidMetH Tryd.prog Rows.whyExplainsUptoRow.laid W) :
    Calls Tryd.prog 5 args W fun e W' => ∃ v, e = .returned v ∧ Rows.whyExplainsSpec.post enc Tryd.prog Tryd.f5 false true false false W args v W' := by
  have hW' := hW
  obtain ⟨p, q, hA0, hV, rfl, hfz, hnd⟩ := hW
  have hA : DataW.TrodAll enc Tryd.prog W 0 (fun _ => true) true Tryd.f5.params.toList args.toList ds p := hA0
  rw [Tryd.params5] at hA hval
  obtain ⟨v0, vs0, d0, ds0, p0, q0, hargs, rfl, rfl, h0, r0⟩ := trodAll_cons hA
  obtain ⟨v1, vs1, d1, ds1, p1, q1, rfl, rfl, rfl, h1, r1⟩ := trodAll_cons r0
  obtain ⟨rfl, rfl, rfl⟩ := trodAll_nil r1
  obtain rfl : args = #[v0, v1] := by cases args; simp_all
  obtain ⟨rfl, rfl⟩ := trodVars_none hV
  obtain ⟨g, rfl⟩ := step_of (hval 1 63 v1 rfl rfl) h1
  have k0 := h0
  have k1 := h1
  have lt0 : ∀ x ∈ p0, x.block < W.heap.size := by obtain ⟨m, hm⟩ := k0; exact DataW.trod_lt m _ _ _ hm
  have lt1 : ∀ x ∈ p1, x.block < W.heap.size := by obtain ⟨m, hm⟩ := k1; exact DataW.trod_lt m _ _ _ hm
  have hbks : Rows.uptoBulk d0 ≤ 1048576 := by
    have h : Rows.uptoBulkAll ([d0, d1] ++ []) ≤ 1048576 := of_decide_eq_true hk
    simp only [List.append_nil, Rows.uptoBulkAll] at h
    omega
  obtain ⟨A, hE⟩ := Err.errs_of_laid hL
  have hcall : Calls Tryd.prog 5 #[v0, .agg #[.bool g.a, .bool g.b, .int .i64 g.q]] W (WhySound.BoolT W) := by
    rcases Open.theory_of (hval 0 61 v0 rfl rfl) h0 hbks with rfl | ⟨b, o, M, rs, RA, rc, ov, OA, oc, rfl, hT⟩
    · exact walk_nil g A W hE
    · exact walk_ptr b o M rs RA rc ov OA oc g A W (hT (Nat.le_refl _)) hE
  clear hA0
  simp only [List.append_nil] at hW'
  refine hcall.mono fun e W' ⟨he, bel⟩ => ?_
  subst he
  exact ⟨_, rfl, _, _, _, [], _, [], hW', trodAll_mk1 (shut_bool Tryd.underlying4 _), (trodAll_cons_mk (Below.trod laidOut (by kernel_rfl) (of_decide_eq_true (by kernel_rfl)) k0 bel lt0) (trodAll_cons_mk (Below.trod laidOut (by kernel_rfl) (of_decide_eq_true (by kernel_rfl)) k1 bel lt1) trodAll_mk0)), rfl, bel.frame _, fun h => by cases h⟩
-- WITNESS args: .pointer none, .agg #[.bool false, .bool false, .int .i64 0]
-- WITNESS data: .nil, .agg [.lit (.bool false), .lit (.bool false), .lit (.int .i64 0)]
-- PARAM types: 61, 63
end Go.Proofs.YtjnkcpeicocjhaaDoor.WhyExplains

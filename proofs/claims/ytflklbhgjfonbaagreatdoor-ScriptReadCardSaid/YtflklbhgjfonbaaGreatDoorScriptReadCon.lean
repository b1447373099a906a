/- The law ScriptRead: from the arguments as they read to the walk. -/
import Derived.Test.YtflklbhgjfonbaaGreatDoorScriptReadMain
import Derived.Test.YtflklbhgjfonbaaGreatDoorLaid
import Derived.Test.YtflklbhgjfonbaaGreatDoorRows
import Derived.ProofKit
import Derived.OpenShut
import Derived.ChangeMaps5
namespace Go.Proofs.YtflklbhgjfonbaaGreatDoor.ScriptRead
open Go.ChangeShapes Go.WideShapes Go.ChangeAt Go.RowKit
theorem bytes_of (s : ByteArray) : ∃ l : List UInt8, s = ⟨l.toArray⟩ := ⟨s.data.toList, by cases s; simp⟩
theorem len_of {l : List UInt8} (h : (ByteArray.mk l.toArray).size ≤ maxLen) : l.length ≤ 9223372036854775807 := by
  have : (ByteArray.mk l.toArray).size = l.length := rfl
  unfold maxLen at h
  omega
set_option maxRecDepth 100000 in
theorem contract (H : Type) (enc : TypeId × Value → H) (W : World) (base : Nat) (args : Array Value) (ds gs : List (DataW H)) (before : List MemPlace)
    (hval : ∀ (j : Nat) t v, Tryz.f3.params[j]? = some t → args[j]? = some v → Value.okWide Tryz.prog W .any base t v)
    (hW : DataW.Whole enc Tryz.prog Tryz.f3.params.toList Rows.scriptReadSpec.vars false W args.toList ds gs before) (hL : laidMetH Tryz.prog Rows.scriptReadRow.laid W) (hS : W.ShapedOpen Tryz.prog) :
    Calls Tryz.prog 3 args W fun e W' => ∃ v, e = .returned v ∧ Rows.scriptReadSpec.post enc Tryz.prog Tryz.f3 false true false false W args v W' := by
  have hW' := hW
  obtain ⟨p, q, hA0, hV, rfl, hfz, hnd⟩ := hW
  have hA : DataW.TrodAll enc Tryz.prog W 0 (fun _ => true) true Tryz.f3.params.toList args.toList ds p := hA0
  rw [Tryz.params3] at hA hval
  obtain ⟨v0, vs0, d0, ds0, p0, q0, hargs, rfl, rfl, h0, r0⟩ := trodAll_cons hA
  obtain ⟨rfl, rfl, rfl⟩ := trodAll_nil r0
  obtain rfl : args = #[v0] := by cases args; simp_all
  obtain ⟨rfl, rfl⟩ := trodVars_none hV
  obtain ⟨s0, rfl, rfl, rfl, w0⟩ := Go.ChangeMaps.open_string Tryz.underlying9 (hval 0 9 v0 rfl rfl) h0
  obtain ⟨l0, rfl⟩ := bytes_of s0
  clear hA0
  simp only [List.append_nil] at hW'
  obtain ⟨A, hE⟩ := Laid5.errs_of hL (by kernel_rfl)
  obtain ⟨m, hm⟩ : ∃ m, W.cell? ⟨14, 0, none⟩ = some (.int .i64 m) := Tryz.laysM146.s1_3 W hS
  refine (sr_walk l0 (len_of w0) A m W hE hm).mono fun e W' ⟨he, bel⟩ => ?_
  subst he
  exact ⟨_, rfl, _, _, _, [], _, [], hW', trodAll_mk1 (shut_bool Tryz.underlying4 _), (trodAll_cons_mk (Go.ChangeMaps.shut_string Tryz.underlying9 w0) trodAll_mk0), rfl, bel.frame _, fun h => by cases h⟩
-- WITNESS args: .string ⟨#[]⟩
-- WITNESS data: .lit (.string [])
-- PARAM types: 9
-- SHAPED
-- IN PARTS
end Go.Proofs.YtflklbhgjfonbaaGreatDoor.ScriptRead

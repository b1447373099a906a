/- The law DayTerms: from the arguments as they read to the walk. -/
import Derived.Test.YtpbmamcmmogidaaDoorDayTermsMain
import Derived.Test.YtpbmamcmmogidaaDoorLaid3
import Derived.Test.YtpbmamcmmogidaaDoorRows
import Derived.ProofKit
import Derived.OpenShut
import Derived.ChangeMaps5
import Derived.ChangeOld
import Derived.Below
namespace Go.Proofs.YtpbmamcmmogidaaDoor.DayTerms
open Go.ChangeShapes Go.WideShapes Go.ChangeAt Go.RowKit
theorem bytes_of (s : ByteArray) : ∃ l : List UInt8, s = ⟨l.toArray⟩ := ⟨s.data.toList, by cases s; simp⟩
theorem len_of {l : List UInt8} (h : (ByteArray.mk l.toArray).size ≤ maxLen) : l.length ≤ 9223372036854775807 := by
  have : (ByteArray.mk l.toArray).size = l.length := rfl
  unfold maxLen at h
  omega
theorem len3 {α : Type} : ∀ {l : List α}, l.length = 3 → ∃ a b c, l = [a, b, c]
  | [a, b, c], _ => ⟨a, b, c, rfl⟩
  | [], h => by simp at h
  | [_], h => by simp at h
  | [_, _], h => by simp at h
  | _ :: _ :: _ :: _ :: _, h => by simp at h
set_option maxRecDepth 100000 in
theorem term_of {H : Type} {enc : TypeId × Value → H} {w : World} {base : Nat} {spare : Nat → Bool} {held : Bool} {v : Value} {d : DataW H} {ps : List MemPlace} {r : Reach} {b0 : Nat} (hval : Value.okWide Tryd.prog w r b0 45 v) (hd : DataW.Trod enc Tryd.prog w base spare held 45 v d ps) :
    ∃ n u how, v = .agg #[.int .i64 n, .int .i64 u, .int .i64 how] := by
  obtain ⟨cs, rfl, hcs⟩ := okWide_struct Tryd.underlying45 hval
  rw [show Tryd.prog.cellsOf 45 = 3 from by kernel_rfl] at hcs
  obtain ⟨fuel, hf0⟩ := hd
  obtain ⟨l⟩ := cs
  have hl2 : l.length = 3 := by simpa using hcs
  obtain ⟨c0, c1, c2, rfl⟩ := len3 hl2
  have hf1 : DataW.trod enc Tryd.prog w base spare held fuel 45 [c0, c1, c2] = some (d, ps) := by simpa [Value.cells] using hf0
  obtain ⟨xs, m, _, hy, _, hx, hf⟩ := DataW.trod_struct Tryd.underlying45 hf1
  have f0 : DataW.trod enc Tryd.prog w base spare held m 3 (([c0, c1, c2].drop 0).take (Tryd.prog.cellsOf 3)) = xs[0]? := hf 0 _ rfl
  have f1 : DataW.trod enc Tryd.prog w base spare held m 3 (([c0, c1, c2].drop 1).take (Tryd.prog.cellsOf 3)) = xs[1]? := hf 1 _ rfl
  have f2 : DataW.trod enc Tryd.prog w base spare held m 3 (([c0, c1, c2].drop 2).take (Tryd.prog.cellsOf 3)) = xs[2]? := hf 2 _ rfl
  have hx3 : xs.length = 3 := by rw [hx]; rfl
  rw [List.getElem?_eq_getElem (by omega)] at f0 f1 f2
  rw [show Tryd.prog.cellsOf 3 = 1 from by kernel_rfl] at f0 f1 f2
  obtain ⟨z0, e0, _⟩ := DataW.trod_int Tryd.underlying3 f0
  obtain ⟨z1, e1, _⟩ := DataW.trod_int Tryd.underlying3 f1
  obtain ⟨z2, e2, _⟩ := DataW.trod_int Tryd.underlying3 f2
  simp at e0 e1 e2
  subst e0 e1 e2
  exact ⟨z0, z1, z2, rfl⟩
theorem laidOut : laidOutB Tryd.prog = true := by kernel_rfl
set_option maxRecDepth 100000 in
theorem contract (H : Type) (enc : TypeId × Value → H) (W : World) (base : Nat) (args : Array Value) (ds gs : List (DataW H)) (before : List MemPlace)
    (hval : ∀ (j : Nat) t v, Tryd.f4.params[j]? = some t → args[j]? = some v → Value.okWide Tryd.prog W .any base t v)
    (hW : DataW.Whole enc Tryd.prog Tryd.f4.params.toList Rows.dayTermsSpec.vars false W args.toList ds gs before) (hL : laidMetH Tryd.prog Rows.dayTermsRow.laid W) :
    Calls Tryd.prog 4 args W fun e W' => ∃ v, e = .returned v ∧ Rows.dayTermsSpec.post enc Tryd.prog Tryd.f4 false true false false W args v W' := by
  have hW' := hW
  obtain ⟨p, q, hA0, hV, rfl, hfz, hnd⟩ := hW
  have hA : DataW.TrodAll enc Tryd.prog W 0 (fun _ => true) true Tryd.f4.params.toList args.toList ds p := hA0
  rw [Tryd.params4] at hA hval
  obtain ⟨v0, vs0, d0, ds0, p0, q0, hargs, rfl, rfl, h0, r0⟩ := trodAll_cons hA
  obtain ⟨v1, vs1, d1, ds1, p1, q1, rfl, rfl, rfl, h1, r1⟩ := trodAll_cons r0
  obtain ⟨rfl, rfl, rfl⟩ := trodAll_nil r1
  obtain rfl : args = #[v0, v1] := by cases args; simp_all
  obtain ⟨rfl, rfl⟩ := trodVars_none hV
  obtain ⟨s0, rfl, rfl, rfl, w0⟩ := Go.ChangeMaps.open_string Tryd.underlying9 (hval 0 9 v0 rfl rfl) h0
  obtain ⟨l0, rfl⟩ := bytes_of s0
  have k3 := h1
  have lt3 : ∀ x ∈ p1, x.block < W.heap.size := by obtain ⟨m, hm⟩ := k3; exact DataW.trod_lt m _ _ _ hm
  obtain ⟨tn, tu, th, rfl⟩ := term_of (hval 1 45 v1 rfl rfl) h1
  clear hA0
  simp only [List.append_nil] at hW'
  obtain ⟨A, hE⟩ := Laid2.errs_of hL (by kernel_rfl)
  have hP := Laid2.pow_of hL (by kernel_rfl)
  obtain ⟨ar, hr⟩ := Laid2.sent_of hL Laid2.rangeName Laid2.bErrRange _ (by kernel_rfl) Laid2.gRange Laid2.tRange
  refine (walk l0 tn tu th A W hE hP _ hr ⟨_, _, rfl⟩).mono fun e W' ⟨he, bel⟩ => ?_
  subst he
  exact ⟨_, rfl, _, _, _, [], _, [], hW', trodAll_mk1 (shut_bool Tryd.underlying4 _), (trodAll_cons_mk (Go.ChangeMaps.shut_string Tryd.underlying9 w0) (trodAll_cons_mk (Below.trod laidOut (by kernel_rfl) (of_decide_eq_true (by kernel_rfl)) k3 bel lt3) trodAll_mk0)), rfl, bel.frame _, fun h => by cases h⟩
-- WITNESS args: .string ⟨#[]⟩, .agg #[.int .i64 0, .int .i64 0, .int .i64 0]
-- WITNESS data: .lit (.string []), .agg [.lit (.int .i64 0), .lit (.int .i64 0), .lit (.int .i64 0)]
-- PARAM types: 9, 45
end Go.Proofs.YtpbmamcmmogidaaDoor.DayTerms

/- The law WhyText: from the arguments as they read to the walk. -/
import Derived.Test.YtpbmamcmmogidaaDoorWhyTextMain
import Derived.Test.YtpbmamcmmogidaaDoorLaid3
import Derived.Test.YtpbmamcmmogidaaDoorRows
import Derived.Test.YtpbmamcmmogidaaDoorOpen
import Derived.ProofKit
import Derived.OpenShut
import Derived.ChangeMaps5
import Derived.ChangeOld
import Derived.Below
namespace Go.Proofs.YtpbmamcmmogidaaDoor.Open
open Go.ChangeShapes Go.WideShapes Go.ChangeAt Go.RowKit Mem Nest Wt
section
variable {H : Type} {enc : TypeId × Value → H} {w : World} {base : Nat} {spare : Nat → Bool} {held : Bool}
theorem wf_int {z : Int} (h : (Lit.int .i64 z).wf = true) : Vq z := by
  unfold Lit.wf at h
  rw [Bool.and_eq_true, decide_eq_true_iff, decide_eq_true_iff] at h
  have e1 : IntKind.min .i64 = -9223372036854775808 := by kernel_rfl
  have e2 : IntKind.max .i64 = 9223372036854775807 := by kernel_rfl
  rw [e1, e2] at h
  exact h
theorem read_dstep (n : Nat) (cs : List Value) (y : DataW H × List MemPlace) (h : DataW.trod enc Tryd.prog w base spare held n 42 cs = some y) : ∃ r : St, cs = spC r ∧ Vq r.2.2 := by
  obtain ⟨xs, m, _, _, hl, hx, hf⟩ := DataW.trod_struct Tryd.underlying42 h
  have h3 : cs.length = 3 := by rw [hl]; kernel_rfl
  clear hl
  obtain ⟨c0, c1, c2, rfl⟩ := len3 h3
  have f0 : DataW.trod enc Tryd.prog w base spare held m 4 (([c0, c1, c2].drop 0).take (Tryd.prog.cellsOf 4)) = xs[0]? := hf 0 _ rfl
  have f1 : DataW.trod enc Tryd.prog w base spare held m 4 (([c0, c1, c2].drop 1).take (Tryd.prog.cellsOf 4)) = xs[1]? := hf 1 _ rfl
  have f2 : DataW.trod enc Tryd.prog w base spare held m 3 (([c0, c1, c2].drop 2).take (Tryd.prog.cellsOf 3)) = xs[2]? := hf 2 _ rfl
  have hx3 : xs.length = 3 := by rw [hx]; rfl
  rw [List.getElem?_eq_getElem (by omega)] at f0 f1 f2
  rw [show Tryd.prog.cellsOf 3 = 1 from by kernel_rfl] at f2
  rw [show Tryd.prog.cellsOf 4 = 1 from by kernel_rfl] at f0 f1
  obtain ⟨b0, e0, _⟩ := DataW.trod_bool Tryd.underlying4 f0
  obtain ⟨b1, e1, _⟩ := DataW.trod_bool Tryd.underlying4 f1
  obtain ⟨n2, e2, _, hw⟩ := DataW.trod_int Tryd.underlying3 f2
  simp at e0 e1 e2
  subst e0 e1 e2
  exact ⟨(b0, b1, n2), rfl, wf_int hw⟩
theorem dsteps_of {A : Option Addr} {n c fuel : Nat} {x : DataW H × List MemPlace} (h : DataW.trod enc Tryd.prog w base spare held fuel 22 (Value.slice A n c).cells.toList = some x) :
    ∃ l : List St, n = l.length ∧ l.length ≤ 9223372036854775807 ∧ Rd w A (l.flatMap spC) ∧ ∀ y ∈ l, Vq y.2.2 := by
  obtain ⟨l, h1, h2, h3, h4, h5⟩ := rows_of (sz := 3) (by omega) spC_len Tryd.underlying22 (by kernel_rfl) read_dstep h
  exact ⟨l, h1, by unfold maxLen at h3; omega, h4, h5⟩
theorem names_of {A : Option Addr} {n c fuel : Nat} {x : DataW H × List MemPlace} (h : DataW.trod enc Tryd.prog w base spare held fuel 23 (Value.slice A n c).cells.toList = some x) :
    ∃ l : List (List UInt8), n = l.length ∧ l.length ≤ 9223372036854775807 ∧ Rd w A (l.map strV) ∧ ∀ y ∈ l, y.length ≤ 9223372036854775807 := by
  obtain ⟨l, h1, h2, h3, h4, h5⟩ := rows_of (f := fun g => [strV g]) (Q := fun g => g.length ≤ 9223372036854775807) (sz := 1) (by omega) (fun _ => rfl) Tryd.underlying23 (by kernel_rfl) (fun n cs y h => by
    obtain ⟨s, e, _, hs⟩ := DataW.trod_string Tryd.underlying9 h
    refine ⟨s.data.toList, ?_, ?_⟩
    · rw [e, strV, mk_toList]
    · rw [← Lib.size_eq s]
      unfold maxLen at hs
      exact hs) h
  have e : (l.flatMap fun g => [strV g]) = l.map strV := by
    clear h h1 h2 h3 h4 h5
    induction l with
    | nil => rfl
    | cons z zs ih => simp only [List.flatMap_cons, ih, List.map_cons]; rfl
  rw [e] at h4
  exact ⟨l, h1, by unfold maxLen at h3; omega, h4, h5⟩
end
end Go.Proofs.YtpbmamcmmogidaaDoor.Open
namespace Go.Proofs.YtpbmamcmmogidaaDoor.WhyText
open Go.ChangeShapes Go.WideShapes Go.ChangeAt Go.RowKit
theorem bytes_of (s : ByteArray) : ∃ l : List UInt8, s = ⟨l.toArray⟩ := ⟨s.data.toList, by cases s; simp⟩
theorem len_of {l : List UInt8} (h : (ByteArray.mk l.toArray).size ≤ maxLen) : l.length ≤ 9223372036854775807 := by
  have : (ByteArray.mk l.toArray).size = l.length := rfl
  unfold maxLen at h
  omega
theorem laidOut : laidOutB Tryd.prog = true := by kernel_rfl
set_option maxRecDepth 100000 in
theorem contract (H : Type) (enc : TypeId × Value → H) (W : World) (base : Nat) (args : Array Value) (ds gs : List (DataW H)) (before : List MemPlace)
    (hval : ∀ (j : Nat) t v, Tryd.f3.params[j]? = some t → args[j]? = some v → Value.okWide Tryd.prog W .any base t v)
    (hW : DataW.Whole enc Tryd.prog Tryd.f3.params.toList Rows.whyTextSpec.vars false W args.toList ds gs before) (hL : laidMetH Tryd.prog Rows.whyTextRow.laid W) (hS : W.ShapedOpen Tryd.prog) :
    Calls Tryd.prog 3 args W fun e W' => ∃ v, e = .returned v ∧ Rows.whyTextSpec.post enc Tryd.prog Tryd.f3 false true false false W args v W' := by
  have hW' := hW
  obtain ⟨p, q, hA0, hV, rfl, hfz, hnd⟩ := hW
  have hA : DataW.TrodAll enc Tryd.prog W 0 (fun _ => true) true Tryd.f3.params.toList args.toList ds p := hA0
  rw [Tryd.params3] at hA hval
  obtain ⟨v0, vs0, d0, ds0, p0, q0, hargs, rfl, rfl, h0, r0⟩ := trodAll_cons hA
  obtain ⟨v1, vs1, d1, ds1, p1, q1, rfl, rfl, rfl, h1, r1⟩ := trodAll_cons r0
  obtain ⟨v2, vs2, d2, ds2, p2, q2, rfl, rfl, rfl, h2, r2⟩ := trodAll_cons r1
  obtain ⟨rfl, rfl, rfl⟩ := trodAll_nil r2
  obtain rfl : args = #[v0, v1, v2] := by cases args; simp_all
  obtain ⟨rfl, rfl⟩ := trodVars_none hV
  obtain ⟨A0, n0, c0, rfl⟩ := okWide_slice Tryd.underlying22 (hval 0 22 v0 rfl rfl)
  obtain ⟨A1, n1, c1, rfl⟩ := okWide_slice Tryd.underlying23 (hval 1 23 v1 rfl rfl)
  have k0 := h0
  have k1 := h1
  have lt0 : ∀ x ∈ p0, x.block < W.heap.size := by obtain ⟨m, hm⟩ := k0; exact DataW.trod_lt m _ _ _ hm
  have lt1 : ∀ x ∈ p1, x.block < W.heap.size := by obtain ⟨m, hm⟩ := k1; exact DataW.trod_lt m _ _ _ hm
  obtain ⟨fuel0, hf0⟩ := h0
  obtain ⟨fuel1, hf1⟩ := h1
  obtain ⟨l, rfl, hl, hd, hq⟩ := Open.dsteps_of hf0
  obtain ⟨N, rfl, hN, hM, hx⟩ := Open.names_of hf1
  obtain ⟨s2, rfl, rfl, rfl, w2⟩ := Go.ChangeMaps.open_string Tryd.underlying9 (hval 2 9 v2 rfl rfl) h2
  obtain ⟨l2, rfl⟩ := bytes_of s2
  clear hA0
  simp only [List.append_nil] at hW'
  obtain ⟨A, hE⟩ := Laid2.errs_of hL (by kernel_rfl)
  obtain ⟨m, hm⟩ := Laid2.max_of hS
  refine (walk l hl hq A0 c0 N hN hx A1 c1 l2 (len_of w2) A m W hE hm hd hM).mono fun e W' ⟨he, bel⟩ => ?_
  subst he
  exact ⟨_, rfl, _, _, _, [], _, [], hW', trodAll_mk1 (shut_bool Tryd.underlying4 _), (trodAll_cons_mk (Below.trod laidOut (by kernel_rfl) (of_decide_eq_true (by kernel_rfl)) k0 bel lt0) (trodAll_cons_mk (Below.trod laidOut (by kernel_rfl) (of_decide_eq_true (by kernel_rfl)) k1 bel lt1) (trodAll_cons_mk (Go.ChangeMaps.shut_string Tryd.underlying9 w2) trodAll_mk0))), rfl, bel.frame _, fun h => by cases h⟩
-- WITNESS args: .slice none 0 0, .slice none 0 0, .string ⟨#[]⟩
-- WITNESS data: .nil, .nil, .lit (.string [])
-- PARAM types: 22, 23, 9
-- SHAPED
end Go.Proofs.YtpbmamcmmogidaaDoor.WhyText

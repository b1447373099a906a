/- The law SumsSplit: from the arguments as they read to the walk. -/
import Derived.Test.YtipbmpakdcmdoaaDoorSumsSplitMain
import Derived.Test.YtipbmpakdcmdoaaDoorRows
import Derived.Test.YtipbmpakdcmdoaaDoorLaid
import Derived.Test.YtipbmpakdcmdoaaDoorOpen
namespace Go.Proofs.YtipbmpakdcmdoaaDoor.SumsSplit
open Go.ChangeShapes Go.WideShapes Go.ChangeAt Go.RowKit Cal Day Mem RefDay
theorem laidOut : laidOutB Tryd.prog = true := by kernel_rfl
theorem walk (a y m : Int) (xs : List Int) (A : Option Addr) (c : Nat) (hc : xs.length ≤ c) (aD aB aC aK : Addr) (w : World) (hF : Four w aD aB aC aK) (hr : Rd w A (ints xs)) :
    Calls Tryd.prog 5 #[.int .i64 a, .slice A xs.length c, .int .i64 y, .int .i64 m] w fun e w' => e = .returned (.bool true) ∧ Below w.heap.size w w' := by
  by_cases h1 : a < -1000000000000 ∨ 1000000000000 < a
  · exact walk_big a y m xs A c aD aB aC aK w hF h1
  · by_cases h2 : Vld y m 1
    · by_cases h3 : mon y m 1 ≤ 119999
      · exact walk_main a y m xs A c hc aD aB aC aK w hF hr (by omega) (by omega) h2 h3
      · exact walk_last a y m xs A c aD aB aC aK w hF (by omega) (by omega) h2 (by omega)
    · exact walk_nomonth a y m xs A c aD aB aC aK w hF (by omega) (by omega) h2
theorem four_of {W : World} (hL : laidMetH Tryd.prog Rows.sumsSplitRow.laid W) : ∃ aD aB aC aK, Four W aD aB aC aK := by
  obtain ⟨h1, _⟩ := laidMetH_iff.1 hL
  rw [show (Rows.sumsSplitRow.laid.filter fun x => x.2.handleName?.isNone) = [("statute/api.ErrBound", Rows.laid_statute_api_ErrBound), ("statute/api.ErrCoin", Rows.laid_statute_api_ErrCoin), ("statute/api.ErrDay", Rows.laid_statute_api_ErrDay), ("statute/api.ErrKind", Rows.laid_statute_api_ErrKind)] from by kernel_rfl] at h1
  obtain ⟨a1, s1⟩ := Err.sent_of_laid (b := Err.bErrBound) h1 (by repeat (first | exact List.Mem.head _ | apply List.Mem.tail)) Err.gErrBound Err.tErrBound
  obtain ⟨a2, s2⟩ := Err.sent_of_laid (b := Err.bErrCoin) h1 (by repeat (first | exact List.Mem.head _ | apply List.Mem.tail)) Err.gErrCoin Err.tErrCoin
  obtain ⟨a3, s3⟩ := Err.sent_of_laid (b := Err.bErrDay) h1 (by repeat (first | exact List.Mem.head _ | apply List.Mem.tail)) Err.gErrDay Err.tErrDay
  obtain ⟨a4, s4⟩ := Err.sent_of_laid (b := Err.bErrKind) h1 (by repeat (first | exact List.Mem.head _ | apply List.Mem.tail)) Err.gErrKind Err.tErrKind
  exact ⟨a3, a1, a2, a4, s3.v, s1.v, s2.v, s4.v⟩
set_option maxRecDepth 100000 in
theorem contract (H : Type) (enc : TypeId × Value → H) (W : World) (base : Nat) (args : Array Value) (ds gs : List (DataW H)) (before : List MemPlace)
    (hval : ∀ (j : Nat) t v, Tryd.f5.params[j]? = some t → args[j]? = some v → Value.okWide Tryd.prog W .any base t v)
    (hW : DataW.Whole enc Tryd.prog Tryd.f5.params.toList Rows.sumsSplitSpec.vars false W args.toList ds gs before) (hL : laidMetH Tryd.prog Rows.sumsSplitRow.laid W) :
    Calls Tryd.prog 5 args W fun e W' => ∃ v, e = .returned v ∧ Rows.sumsSplitSpec.post enc Tryd.prog Tryd.f5 false true false false W args v W' := by
  have hW' := hW
  obtain ⟨p, q, hA0, hV, rfl, hfz, hnd⟩ := hW
  have hA : DataW.TrodAll enc Tryd.prog W 0 (fun _ => true) true Tryd.f5.params.toList args.toList ds p := hA0
  rw [Tryd.params5] at hA hval
  obtain ⟨v0, vs0, d0, ds0, p0, q0, hargs, rfl, rfl, h0, r0⟩ := trodAll_cons hA
  obtain ⟨v1, vs1, d1, ds1, p1, q1, rfl, rfl, rfl, h1, r1⟩ := trodAll_cons r0
  obtain ⟨v2, vs2, d2, ds2, p2, q2, rfl, rfl, rfl, h2, r2⟩ := trodAll_cons r1
  obtain ⟨v3, vs3, d3, ds3, p3, q3, rfl, rfl, rfl, h3, r3⟩ := trodAll_cons r2
  obtain ⟨rfl, rfl, rfl⟩ := trodAll_nil r3
  obtain rfl : args = #[v0, v1, v2, v3] := by cases args; simp_all
  obtain ⟨rfl, rfl⟩ := trodVars_none hV
  obtain ⟨a0, rfl, rfl, rfl, w0⟩ := open_int Tryd.underlying3 (hval 0 3 v0 rfl rfl) h0
  obtain ⟨A1, n1, c1, rfl⟩ := okWide_slice Tryd.underlying49 (hval 1 49 v1 rfl rfl)
  have k1 := h1
  have lt1 : ∀ x ∈ p1, x.block < W.heap.size := by obtain ⟨m, hm⟩ := k1; exact DataW.trod_lt m _ _ _ hm
  obtain ⟨fuel1, hf1⟩ := h1
  obtain ⟨z1, rfl, l1, _, z1'⟩ := Open.ints_of hf1
  obtain ⟨a2, rfl, rfl, rfl, w2⟩ := open_int Tryd.underlying3 (hval 2 3 v2 rfl rfl) h2
  obtain ⟨a3, rfl, rfl, rfl, w3⟩ := open_int Tryd.underlying3 (hval 3 3 v3 rfl rfl) h3
  clear hA0
  simp only [List.append_nil] at hW'
  obtain ⟨aD, aB, aC, aK, hF⟩ := four_of hL
  refine (walk a0 a2 a3 z1 A1 c1 l1 aD aB aC aK W hF z1').mono fun e W' ⟨he, bel⟩ => ?_
  subst he
  exact ⟨_, rfl, _, _, _, [], _, [], hW', trodAll_mk1 (shut_bool Tryd.underlying4 _), (trodAll_cons_mk (shut_int Tryd.underlying3 w0) (trodAll_cons_mk (Below.trod laidOut (by kernel_rfl) (of_decide_eq_true (by kernel_rfl)) k1 bel lt1) (trodAll_cons_mk (shut_int Tryd.underlying3 w2) (trodAll_cons_mk (shut_int Tryd.underlying3 w3) trodAll_mk0)))), rfl, bel.frame _, fun h => by cases h⟩
-- WITNESS args: .int .i64 0, .slice none 0 0, .int .i64 0, .int .i64 0
-- WITNESS data: .lit (.int .i64 0), .nil, .lit (.int .i64 0), .lit (.int .i64 0)
-- PARAM types: 3, 49, 3, 3
end Go.Proofs.YtipbmpakdcmdoaaDoor.SumsSplit

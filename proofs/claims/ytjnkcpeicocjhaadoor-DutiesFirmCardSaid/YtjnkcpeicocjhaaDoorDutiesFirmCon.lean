/- The law DutiesFirm: from the arguments as they read to the walk. -/
import Derived.Test.YtjnkcpeicocjhaaDoorDutiesFirmMain
import Derived.Test.YtjnkcpeicocjhaaDoorRows
import Derived.Test.YtjnkcpeicocjhaaDoorLaid
import Derived.Test.YtjnkcpeicocjhaaDoorOpen
namespace Go.Proofs.YtjnkcpeicocjhaaDoor.Open
open Go.ChangeShapes Go.WideShapes Go.ChangeAt Go.RowKit Mem Nest Dut

theorem len4 {l : List Value} (h : l.length = 4) : ∃ a b c d, l = [a, b, c, d] := by
  match l, h with
  | [a, b, c, d], _ => exact ⟨a, b, c, d, rfl⟩
theorem len8 {l : List Value} (h : l.length = 8) : ∃ a b c d e f g i, l = [a, b, c, d, e, f, g, i] := by
  match l, h with
  | [a, b, c, d, e, f, g, i], _ => exact ⟨a, b, c, d, e, f, g, i, rfl⟩
theorem str_list (s : ByteArray) : (⟨s.data.toList.toArray⟩ : ByteArray) = s := by
  cases s
  simp
section
variable {H : Type} {enc : TypeId × Value → H} {w : World} {base : Nat} {spare : Nat → Bool} {held : Bool}
theorem read_term (n : Nat) (a b c : Value) (y : DataW H × List MemPlace) (h : DataW.trod enc Tryd.prog w base spare held n 95 [a, b, c] = some y) : ∃ i j k : Int, a = .int .i64 i ∧ b = .int .i64 j ∧ c = .int .i64 k := by
  obtain ⟨xs, m, _, _, _, hx, hf⟩ := DataW.trod_struct Tryd.underlying95 h
  have f0 : DataW.trod enc Tryd.prog w base spare held m 3 (([a, b, c].drop 0).take (Tryd.prog.cellsOf 3)) = xs[0]? := hf 0 _ rfl
  have f1 : DataW.trod enc Tryd.prog w base spare held m 3 (([a, b, c].drop 1).take (Tryd.prog.cellsOf 3)) = xs[1]? := hf 1 _ rfl
  have f2 : DataW.trod enc Tryd.prog w base spare held m 3 (([a, b, c].drop 2).take (Tryd.prog.cellsOf 3)) = xs[2]? := hf 2 _ rfl
  have hx3 : xs.length = 3 := by rw [hx]; rfl
  rw [List.getElem?_eq_getElem (by omega)] at f0 f1 f2
  rw [show Tryd.prog.cellsOf 3 = 1 from by kernel_rfl] at f0 f1 f2
  obtain ⟨n0, e0, _, _⟩ := DataW.trod_int Tryd.underlying3 f0
  obtain ⟨n1, e1, _, _⟩ := DataW.trod_int Tryd.underlying3 f1
  obtain ⟨n2, e2, _, _⟩ := DataW.trod_int Tryd.underlying3 f2
  simp at e0 e1 e2
  exact ⟨n0, n1, n2, e0, e1, e2⟩
theorem read_duty (n : Nat) (cs : List Value) (y : DataW H × List MemPlace) (h : DataW.trod enc Tryd.prog w base spare held n 97 cs = some y) : ∃ r : Dt, cs = dtCells r ∧ True := by
  obtain ⟨xs, m, _, _, hl, hx, hf⟩ := DataW.trod_struct Tryd.underlying97 h
  have h8 : cs.length = 8 := by rw [hl]; kernel_rfl
  clear hl
  obtain ⟨c0, c1, c2, c3, c4, c5, c6, c7, rfl⟩ := len8 h8
  have f0 : DataW.trod enc Tryd.prog w base spare held m 9 (([c0, c1, c2, c3, c4, c5, c6, c7].drop 0).take (Tryd.prog.cellsOf 9)) = xs[0]? := hf 0 _ rfl
  have f1 : DataW.trod enc Tryd.prog w base spare held m 9 (([c0, c1, c2, c3, c4, c5, c6, c7].drop 1).take (Tryd.prog.cellsOf 9)) = xs[1]? := hf 1 _ rfl
  have f2 : DataW.trod enc Tryd.prog w base spare held m 3 (([c0, c1, c2, c3, c4, c5, c6, c7].drop 2).take (Tryd.prog.cellsOf 3)) = xs[2]? := hf 2 _ rfl
  have f3 : DataW.trod enc Tryd.prog w base spare held m 3 (([c0, c1, c2, c3, c4, c5, c6, c7].drop 3).take (Tryd.prog.cellsOf 3)) = xs[3]? := hf 3 _ rfl
  have f4 : DataW.trod enc Tryd.prog w base spare held m 9 (([c0, c1, c2, c3, c4, c5, c6, c7].drop 4).take (Tryd.prog.cellsOf 9)) = xs[4]? := hf 4 _ rfl
  have f5 : DataW.trod enc Tryd.prog w base spare held m 95 (([c0, c1, c2, c3, c4, c5, c6, c7].drop 5).take (Tryd.prog.cellsOf 95)) = xs[5]? := hf 5 _ rfl
  have hx3 : xs.length = 6 := by rw [hx]; rfl
  rw [List.getElem?_eq_getElem (by omega)] at f0 f1 f2 f3 f4 f5
  rw [show Tryd.prog.cellsOf 3 = 1 from by kernel_rfl] at f2 f3
  rw [show Tryd.prog.cellsOf 9 = 1 from by kernel_rfl] at f0 f1 f4
  rw [show Tryd.prog.cellsOf 95 = 3 from by kernel_rfl] at f5
  obtain ⟨s0, e0, _, _⟩ := DataW.trod_string Tryd.underlying9 f0
  obtain ⟨s1, e1, _, _⟩ := DataW.trod_string Tryd.underlying9 f1
  obtain ⟨n2, e2, _, _⟩ := DataW.trod_int Tryd.underlying3 f2
  obtain ⟨n3, e3, _, _⟩ := DataW.trod_int Tryd.underlying3 f3
  obtain ⟨s4, e4, _, _⟩ := DataW.trod_string Tryd.underlying9 f4
  obtain ⟨i, j, k, e5, e6, e7⟩ := read_term _ c5 c6 c7 _ f5
  simp at e0 e1 e2 e3 e4
  subst e0 e1 e2 e3 e4 e5 e6 e7
  exact ⟨⟨s0.data.toList, s1.data.toList, n2, n3, s4.data.toList, i, j, k⟩, by simp only [dtCells, str_list], trivial⟩
theorem read_event (n : Nat) (cs : List Value) (y : DataW H × List MemPlace) (h : DataW.trod enc Tryd.prog w base spare held n 107 cs = some y) : ∃ r : Ev, cs = evCells r ∧ True := by
  obtain ⟨xs, m, _, _, hl, hx, hf⟩ := DataW.trod_struct Tryd.underlying107 h
  have h4 : cs.length = 4 := by rw [hl]; kernel_rfl
  clear hl
  obtain ⟨c0, c1, c2, c3, rfl⟩ := len4 h4
  have f0 : DataW.trod enc Tryd.prog w base spare held m 3 (([c0, c1, c2, c3].drop 0).take (Tryd.prog.cellsOf 3)) = xs[0]? := hf 0 _ rfl
  have f1 : DataW.trod enc Tryd.prog w base spare held m 9 (([c0, c1, c2, c3].drop 1).take (Tryd.prog.cellsOf 9)) = xs[1]? := hf 1 _ rfl
  have f2 : DataW.trod enc Tryd.prog w base spare held m 9 (([c0, c1, c2, c3].drop 2).take (Tryd.prog.cellsOf 9)) = xs[2]? := hf 2 _ rfl
  have f3 : DataW.trod enc Tryd.prog w base spare held m 4 (([c0, c1, c2, c3].drop 3).take (Tryd.prog.cellsOf 4)) = xs[3]? := hf 3 _ rfl
  have hx3 : xs.length = 4 := by rw [hx]; rfl
  rw [List.getElem?_eq_getElem (by omega)] at f0 f1 f2 f3
  rw [show Tryd.prog.cellsOf 3 = 1 from by kernel_rfl] at f0
  rw [show Tryd.prog.cellsOf 9 = 1 from by kernel_rfl] at f1 f2
  rw [show Tryd.prog.cellsOf 4 = 1 from by kernel_rfl] at f3
  obtain ⟨n0, e0, _, _⟩ := DataW.trod_int Tryd.underlying3 f0
  obtain ⟨s1, e1, _, _⟩ := DataW.trod_string Tryd.underlying9 f1
  obtain ⟨s2, e2, _, _⟩ := DataW.trod_string Tryd.underlying9 f2
  obtain ⟨b3, e3, _⟩ := DataW.trod_bool Tryd.underlying4 f3
  simp at e0 e1 e2 e3
  subst e0 e1 e2 e3
  exact ⟨⟨n0, s1.data.toList, s2.data.toList, b3⟩, by simp only [evCells, str_list], trivial⟩
theorem duties_of {A : Option Addr} {n c fuel : Nat} {x : DataW H × List MemPlace} (h : DataW.trod enc Tryd.prog w base spare held fuel 22 (Value.slice A n c).cells.toList = some x) :
    ∃ l : List Dt, n = l.length ∧ l.length ≤ 9223372036854775807 ∧ Rd w A (l.flatMap dtCells) := by
  obtain ⟨l, h1, h2, h3, h4, _⟩ := rows_of (sz := 8) (by omega) dtCells_len Tryd.underlying22 (by kernel_rfl) read_duty h
  exact ⟨l, h1, by unfold maxLen at h3; omega, h4⟩
theorem events_of {A : Option Addr} {n c fuel : Nat} {x : DataW H × List MemPlace} (h : DataW.trod enc Tryd.prog w base spare held fuel 23 (Value.slice A n c).cells.toList = some x) :
    ∃ l : List Ev, n = l.length ∧ l.length ≤ 9223372036854775807 ∧ Rd w A (l.flatMap evCells) := by
  obtain ⟨l, h1, h2, h3, h4, _⟩ := rows_of (sz := 4) (by omega) evCells_len Tryd.underlying23 (by kernel_rfl) read_event h
  exact ⟨l, h1, by unfold maxLen at h3; omega, h4⟩
end
end Go.Proofs.YtjnkcpeicocjhaaDoor.Open
namespace Go.Proofs.YtjnkcpeicocjhaaDoor.DutiesFirm
open Go.ChangeShapes Go.WideShapes Go.ChangeAt Go.RowKit Mem Nest Dut CdM Err
theorem laidOut : laidOutB Tryd.prog = true := by kernel_rfl
theorem e3_of_laid {W : World} (h : laidMetH Tryd.prog Rows.dutiesFirmRow.laid W) : ∃ A, E3 W A := by
  obtain ⟨h1, _⟩ := laidMetH_iff.1 h
  rw [show (Rows.dutiesFirmRow.laid.filter fun x => x.2.handleName?.isNone) = [("statute/api.ErrBound", Rows.laid_statute_api_ErrBound), ("statute/api.ErrDay", Rows.laid_statute_api_ErrDay), ("statute/api.ErrKind", Rows.laid_statute_api_ErrKind)] from by kernel_rfl] at h1
  obtain ⟨a1, s1⟩ := sent_of_laid (b := bErrBound) h1 (by repeat (first | exact List.Mem.head _ | apply List.Mem.tail)) gErrBound tErrBound
  obtain ⟨a3, s3⟩ := sent_of_laid (b := bErrDay) h1 (by repeat (first | exact List.Mem.head _ | apply List.Mem.tail)) gErrDay tErrDay
  obtain ⟨a8, s8⟩ := sent_of_laid (b := bErrKind) h1 (by repeat (first | exact List.Mem.head _ | apply List.Mem.tail)) gErrKind tErrKind
  exact ⟨fun k => match k with | 1 => a1 | 3 => a3 | _ => a8, s1.v, s3.v, s8.v⟩
set_option maxRecDepth 100000 in
theorem contract (H : Type) (enc : TypeId × Value → H) (W : World) (base : Nat) (args : Array Value) (ds gs : List (DataW H)) (before : List MemPlace)
    (hval : ∀ (j : Nat) t v, Tryd.f3.params[j]? = some t → args[j]? = some v → Value.okWide Tryd.prog W .any base t v)
    (hW : DataW.Whole enc Tryd.prog Tryd.f3.params.toList Rows.dutiesFirmSpec.vars false W args.toList ds gs before) (hL : laidMetH Tryd.prog Rows.dutiesFirmRow.laid W) :
    Calls Tryd.prog 3 args W fun e W' => ∃ v, e = .returned v ∧ Rows.dutiesFirmSpec.post enc Tryd.prog Tryd.f3 false true false false W args v W' := by
  have hW' := hW
  obtain ⟨p, q, hA0, hV, rfl, hfz, hnd⟩ := hW
  have hA : DataW.TrodAll enc Tryd.prog W 0 (fun _ => true) true Tryd.f3.params.toList args.toList ds p := hA0
  rw [Tryd.params3] at hA hval
  obtain ⟨v0, vs0, d0, ds0, p0, q0, hargs, rfl, rfl, h0, r0⟩ := trodAll_cons hA
  obtain ⟨v1, vs1, d1, ds1, p1, q1, rfl, rfl, rfl, h1, r1⟩ := trodAll_cons r0
  obtain ⟨v2, vs2, d2, ds2, p2, q2, rfl, rfl, rfl, h2, r2⟩ := trodAll_cons r1
  obtain ⟨v3, vs3, d3, ds3, p3, q3, rfl, rfl, rfl, h3, r3⟩ := trodAll_cons r2
  obtain ⟨rfl, rfl, rfl⟩ := trodAll_nil r3
  obtain rfl : args = #[v0, v1, v2, v3] := by cases args; simp_all
  obtain ⟨rfl, rfl⟩ := trodVars_none hV
  obtain ⟨A0, n0, c0, rfl⟩ := okWide_slice Tryd.underlying22 (hval 0 22 v0 rfl rfl)
  obtain ⟨A1, n1, c1, rfl⟩ := okWide_slice Tryd.underlying23 (hval 1 23 v1 rfl rfl)
  have k0 := h0
  have k1 := h1
  have lt0 : ∀ x ∈ p0, x.block < W.heap.size := by obtain ⟨m, hm⟩ := k0; exact DataW.trod_lt m _ _ _ hm
  have lt1 : ∀ x ∈ p1, x.block < W.heap.size := by obtain ⟨m, hm⟩ := k1; exact DataW.trod_lt m _ _ _ hm
  obtain ⟨fuel0, hf0⟩ := h0
  obtain ⟨fuel1, hf1⟩ := h1
  obtain ⟨l, rfl, hl, hd⟩ := Open.duties_of hf0
  obtain ⟨es, rfl, he, hv⟩ := Open.events_of hf1
  obtain ⟨a2, rfl, rfl, rfl, w2⟩ := open_int Tryd.underlying3 (hval 2 3 v2 rfl rfl) h2
  obtain ⟨a3, rfl, rfl, rfl, w3⟩ := open_int Tryd.underlying3 (hval 3 3 v3 rfl rfl) h3
  clear hA0
  simp only [List.append_nil] at hW'
  obtain ⟨A, hE⟩ := e3_of_laid hL
  refine (walk l es a2 a3 A A0 A1 c0 c1 hl he W hd hv hE).mono fun e W' ⟨he, bel⟩ => ?_
  subst he
  exact ⟨_, rfl, _, _, _, [], _, [], hW', trodAll_mk1 (shut_bool Tryd.underlying4 _), (trodAll_cons_mk (Below.trod laidOut (by kernel_rfl) (of_decide_eq_true (by kernel_rfl)) k0 bel lt0) (trodAll_cons_mk (Below.trod laidOut (by kernel_rfl) (of_decide_eq_true (by kernel_rfl)) k1 bel lt1) (trodAll_cons_mk (shut_int Tryd.underlying3 w2) (trodAll_cons_mk (shut_int Tryd.underlying3 w3) trodAll_mk0)))), rfl, bel.frame _, fun h => by cases h⟩
-- WITNESS args: .slice none 0 0, .slice none 0 0, .int .i64 0, .int .i64 0
-- WITNESS data: .nil, .nil, .lit (.int .i64 0), .lit (.int .i64 0)
-- PARAM types: 22, 23, 3, 3
end Go.Proofs.YtjnkcpeicocjhaaDoor.DutiesFirm

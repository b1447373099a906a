/- The law LedgerKeeps: from the arguments as they read to the walk. -/
import Derived.Test.YtdnhfcphmbhloaaGreatDoorLedgerKeepsMain
import Derived.Test.YtdnhfcphmbhloaaGreatDoorRows
import Derived.Test.YtdnhfcphmbhloaaGreatDoorLaid
import Derived.Test.YtdnhfcphmbhloaaGreatDoorOpen
namespace Go.Proofs.YtdnhfcphmbhloaaGreatDoor.LedgerKeeps
open Go.ChangeShapes Go.WideShapes Go.ChangeAt Go.RowKit Mem Nest Fk Lk Go.Proofs.YtdnhfcphmbhloaaGreatDoor.Open

theorem bytes_of (s : ByteArray) : ∃ l : List UInt8, s = ⟨l.toArray⟩ := ⟨s.data.toList, by cases s; simp⟩
theorem str_list (s : ByteArray) : (⟨s.data.toList.toArray⟩ : ByteArray) = s := by
  cases s
  simp
theorem len_of {l : List UInt8} (h : (ByteArray.mk l.toArray).size ≤ maxLen) : l.length ≤ 9223372036854775807 := by
  unfold maxLen at h
  have : (ByteArray.mk l.toArray).size = l.length := rfl
  omega
theorem str_len {s : ByteArray} (h : s.size ≤ maxLen) : s.data.toList.length ≤ 9223372036854775807 := by
  have : s.data.toList.length = s.size := by cases s; simp [ByteArray.size]
  unfold maxLen at h
  omega
section
variable {H : Type} {enc : TypeId × Value → H} {w : World} {base : Nat} {spare : Nat → Bool} {held : Bool}
theorem read_ln (n : Nat) (cs : List Value) (y : DataW H × List MemPlace) (h : DataW.trod enc Tryz.prog w base spare held n 102 cs = some y) : ∃ r : Ln, cs = lnCells r ∧ r.1.length ≤ 9223372036854775807 := by
  obtain ⟨xs, m, _, _, hl, hx, hf⟩ := DataW.trod_struct Tryz.underlying102 h
  have h2 : cs.length = 2 := by rw [hl]; kernel_rfl
  clear hl
  obtain ⟨c0, c1, rfl⟩ := len2 h2
  have f0 : DataW.trod enc Tryz.prog w base spare held m 9 (([c0, c1].drop 0).take (Tryz.prog.cellsOf 9)) = xs[0]? := hf 0 _ rfl
  have f1 : DataW.trod enc Tryz.prog w base spare held m 3 (([c0, c1].drop 1).take (Tryz.prog.cellsOf 3)) = xs[1]? := hf 1 _ rfl
  have hx2 : xs.length = 2 := by rw [hx]; rfl
  rw [List.getElem?_eq_getElem (by omega)] at f0 f1
  rw [show Tryz.prog.cellsOf 9 = 1 from by kernel_rfl] at f0
  rw [show Tryz.prog.cellsOf 3 = 1 from by kernel_rfl] at f1
  obtain ⟨n0, e0, _, hs⟩ := DataW.trod_string Tryz.underlying9 f0
  obtain ⟨n1, e1, _, _⟩ := DataW.trod_int Tryz.underlying3 f1
  simp at e0 e1
  subst e0 e1
  exact ⟨(n0.data.toList, n1), by simp only [lnCells, str_list], str_len hs⟩
theorem lns_of {A : Option Addr} {n c fuel : Nat} {x : DataW H × List MemPlace} (h : DataW.trod enc Tryz.prog w base spare held fuel 28 (Value.slice A n c).cells.toList = some x) :
    ∃ l : List Ln, n = l.length ∧ l.length ≤ 9223372036854775807 ∧ Rd w A (l.flatMap lnCells) ∧ ∀ r ∈ l, r.1.length ≤ 9223372036854775807 := by
  obtain ⟨l, h1, h2, h3, h4, h5⟩ := rows_of (sz := 2) (by omega) lnCells_len Tryz.underlying28 (by kernel_rfl) read_ln h
  exact ⟨l, h1, by unfold maxLen at h3; omega, h4, h5⟩
theorem read_en (n : Nat) (cs : List Value) (y : DataW H × List MemPlace) (h : DataW.trod enc Tryz.prog w base spare held n 30 cs = some y) :
    ∃ r : En, cs = enCells r ∧ Rd w r.A (r.lines.flatMap lnCells) ∧ Raw r := by
  obtain ⟨xs, m, _, _, hl, hx, hf⟩ := DataW.trod_struct Tryz.underlying30 h
  have h3 : cs.length = 3 := by rw [hl]; kernel_rfl
  clear hl
  obtain ⟨c0, c1, c2, rfl⟩ := len3 h3
  have f0 : DataW.trod enc Tryz.prog w base spare held m 3 (([c0, c1, c2].drop 0).take (Tryz.prog.cellsOf 3)) = xs[0]? := hf 0 _ rfl
  have f1 : DataW.trod enc Tryz.prog w base spare held m 9 (([c0, c1, c2].drop 1).take (Tryz.prog.cellsOf 9)) = xs[1]? := hf 1 _ rfl
  have f2 : DataW.trod enc Tryz.prog w base spare held m 28 (([c0, c1, c2].drop 2).take (Tryz.prog.cellsOf 28)) = xs[2]? := hf 2 _ rfl
  have hx3 : xs.length = 3 := by rw [hx]; rfl
  rw [List.getElem?_eq_getElem (by omega)] at f0 f1 f2
  rw [show Tryz.prog.cellsOf 3 = 1 from by kernel_rfl] at f0
  rw [show Tryz.prog.cellsOf 9 = 1 from by kernel_rfl] at f1
  rw [show Tryz.prog.cellsOf 28 = 1 from by kernel_rfl] at f2
  obtain ⟨n0, e0, _, _⟩ := DataW.trod_int Tryz.underlying3 f0
  obtain ⟨n1, e1, _, hs⟩ := DataW.trod_string Tryz.underlying9 f1
  simp at e0 e1
  subst e0 e1
  obtain ⟨A, n, c, rfl⟩ : ∃ A n c, c2 = .slice A n c := by
    rcases DataW.trod_slice Tryz.underlying28 f2 with ⟨h0, _⟩ | ⟨a, len, cap, _, _, _, _, hcs, _⟩
    · simp at h0
      exact ⟨_, _, _, h0⟩
    · simp at hcs
      exact ⟨_, _, _, hcs⟩
  obtain ⟨l, rfl, h4, h5, h6⟩ := lns_of (A := A) (n := n) (c := c) f2
  exact ⟨⟨n0, n1.data.toList, l, A, c⟩, by simp only [enCells, str_list], h5, h4, str_len hs, h6⟩
theorem ens_of {A : Option Addr} {n c fuel : Nat} {x : DataW H × List MemPlace} (h : DataW.trod enc Tryz.prog w base spare held fuel 22 (Value.slice A n c).cells.toList = some x) :
    ∃ l : List En, n = l.length ∧ l.length ≤ 9223372036854775807 ∧ Ens w A l ∧ ∀ r ∈ l, Raw r := by
  obtain ⟨l, h1, h2, h3, h4, h5⟩ := rows_of (sz := 3) (by omega) enCells_len Tryz.underlying22 (by kernel_rfl) read_en h
  exact ⟨l, h1, by unfold maxLen at h3; omega, ⟨h4, fun r hr => (h5 r hr).1⟩, fun r hr => (h5 r hr).2⟩
end
theorem laidOut : laidOutB Tryz.prog = true := by kernel_rfl
set_option maxRecDepth 100000 in
theorem contract (H : Type) (enc : TypeId × Value → H) (W : World) (base : Nat) (args : Array Value) (ds gs : List (DataW H)) (before : List MemPlace)
    (hval : ∀ (j : Nat) t v, Tryz.f3.params[j]? = some t → args[j]? = some v → Value.okWide Tryz.prog W .any base t v)
    (hW : DataW.Whole enc Tryz.prog Tryz.f3.params.toList Rows.ledgerKeepsSpec.vars false W args.toList ds gs before) (hL : laidMetH Tryz.prog Rows.ledgerKeepsRow.laid W) :
    Calls Tryz.prog 3 args W fun e W' => ∃ v, e = .returned v ∧ Rows.ledgerKeepsSpec.post enc Tryz.prog Tryz.f3 false true false false W args v W' := by
  have hW' := hW
  obtain ⟨p, q, hA0, hV, rfl, hfz, hnd⟩ := hW
  have hA : DataW.TrodAll enc Tryz.prog W 0 (fun _ => true) true Tryz.f3.params.toList args.toList ds p := hA0
  rw [Tryz.params3] at hA hval
  obtain ⟨v0, vs0, d0, ds0, p0, q0, hargs, rfl, rfl, h0, r0⟩ := trodAll_cons hA
  obtain ⟨v1, vs1, d1, ds1, p1, q1, rfl, rfl, rfl, h1, r1⟩ := trodAll_cons r0
  obtain ⟨v2, vs2, d2, ds2, p2, q2, rfl, rfl, rfl, h2, r2⟩ := trodAll_cons r1
  obtain ⟨rfl, rfl, rfl⟩ := trodAll_nil r2
  obtain rfl : args = #[v0, v1, v2] := by cases args; simp_all
  obtain ⟨rfl, rfl⟩ := trodVars_none hV
  obtain ⟨A0, n0, c0, rfl⟩ := okWide_slice Tryz.underlying22 (hval 0 22 v0 rfl rfl)
  have k0 := h0
  have lt0 : ∀ x ∈ p0, x.block < W.heap.size := by obtain ⟨m, hm⟩ := k0; exact DataW.trod_lt m _ _ _ hm
  obtain ⟨fuel0, hf0⟩ := h0
  obtain ⟨l, rfl, hl, hd, hraw⟩ := ens_of hf0
  have w1' := hval 1 9 v1 rfl rfl
  obtain ⟨s1, rfl, rfl, rfl, w1⟩ := Go.ChangeMaps.open_string Tryz.underlying9 w1' h1
  obtain ⟨l1, rfl⟩ := bytes_of s1
  obtain ⟨a2, rfl, rfl, rfl, w2⟩ := open_int Tryz.underlying3 (hval 2 3 v2 rfl rfl) h2
  clear hA0
  simp only [List.append_nil] at hW'
  obtain ⟨A, hE⟩ := Laid5.errs_of hL (by kernel_rfl)
  refine (lk_walk A l hl hraw A0 c0 l1 (len_of w1) a2 W hE hd).mono fun e W' ⟨he, bel⟩ => ?_
  subst he
  exact ⟨_, rfl, _, _, _, [], _, [], hW', trodAll_mk1 (shut_bool Tryz.underlying4 _), (trodAll_cons_mk (Below.trod laidOut (by kernel_rfl) (of_decide_eq_true (by kernel_rfl)) k0 bel lt0) (trodAll_cons_mk (Go.ChangeMaps.shut_string Tryz.underlying9 w1) (trodAll_cons_mk (shut_int Tryz.underlying3 w2) trodAll_mk0))), rfl, bel.frame _, fun h => by cases h⟩
-- WITNESS args: .slice none 0 0, .string ⟨#[]⟩, .int .i64 0
-- WITNESS data: .nil, .lit (.string []), .lit (.int .i64 0)
-- PARAM types: 22, 9, 3
end Go.Proofs.YtdnhfcphmbhloaaGreatDoor.LedgerKeeps

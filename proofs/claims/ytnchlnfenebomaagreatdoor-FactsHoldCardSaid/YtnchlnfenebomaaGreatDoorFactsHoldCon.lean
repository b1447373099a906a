/- The law FactsHold: from the arguments as they read to the walk. -/
import Derived.Test.YtnchlnfenebomaaGreatDoorFactsHoldMain
import Derived.Test.YtnchlnfenebomaaGreatDoorRows
import Derived.Test.YtnchlnfenebomaaGreatDoorLaid
import Derived.Test.YtnchlnfenebomaaGreatDoorOpen
namespace Go.Proofs.YtnchlnfenebomaaGreatDoor.FactsHold
open Go.ChangeShapes Go.WideShapes Go.ChangeAt Go.RowKit Mem Nest Fk FactsLater Hd

section
variable {H : Type} {enc : TypeId × Value → H} {P : Program} {w : World} {base : Nat} {spare : Nat → Bool} {held : Bool}
theorem rows_lt {α : Type} {f : α → List Value} {Q : α → Prop} {sz : Nat} {t e : TypeId} (hsz : 0 < sz) (hf : ∀ x, (f x).length = sz) (ht : P.underlying t = some (.slice e)) (hc : P.cellsOf e = sz)
    {fuel : Nat} (hread : ∀ n, n < fuel → ∀ cs y, DataW.trod enc P w base spare held n e cs = some y → ∃ r, cs = f r ∧ Q r)
    {A : Option Addr} {n c : Nat} {x : DataW H × List MemPlace} (h : DataW.trod enc P w base spare held fuel t (Value.slice A n c).cells.toList = some x) :
    ∃ l : List α, n = l.length ∧ l.length ≤ c ∧ c ≤ maxLen ∧ Rd w A (l.flatMap f) ∧ ∀ r ∈ l, Q r := by
  rcases DataW.trod_slice ht h with ⟨h0, _⟩ | ⟨a, len, cap, elems, rest, m, hfu, hcs, _, _, hl, hm, hlen, hel, _, _⟩
  · simp [Value.cells] at h0
    obtain ⟨rfl, rfl, rfl⟩ := h0
    exact ⟨[], rfl, by simp, by simp [maxLen], Rd.nil, by simp⟩
  · simp [Value.cells] at hcs
    obtain ⟨rfl, rfl, rfl⟩ := hcs
    have each : ∀ i, i < n → ∃ r, w.cells? base (a.add (i * sz)) sz = some (f r) ∧ Q r := by
      intro i hi
      have hb := hel i hi
      rw [hc, List.getElem?_eq_getElem (by omega), Option.bind_eq_some_iff] at hb
      obtain ⟨cs, h1, h2⟩ := hb
      obtain ⟨r, rfl, hq⟩ := hread m (by omega) _ _ h2
      exact ⟨r, h1, hq⟩
    obtain ⟨l, hll, hp⟩ := Open.pick n each
    refine ⟨l, hll.symm, by omega, hm, ?_, fun r hr => ?_⟩
    · intro j u hj
      have hjl : j < l.length * sz := by
        have := (List.getElem?_eq_some_iff.1 hj).1
        rwa [flat_len hf] at this
      have hk : j / sz < l.length := (Nat.div_lt_iff_lt_mul hsz).2 hjl
      have hm' : j % sz < sz := Nat.mod_lt _ hsz
      have hsplit : j / sz * sz + j % sz = j := Nat.div_add_mod' j sz
      have hcell := (World.cells?_some (hp (j / sz) _ (List.getElem?_eq_getElem hk)).1).2.2 (j % sz) hm'
      have hv : (f l[j / sz])[j % sz]? = some u := by
        have := flat_at hf l (j / sz) (j % sz) hm'
        rw [hsplit, hj, List.getElem?_eq_getElem hk] at this
        exact this.symm
      rw [hv, Addr.add_add, hsplit] at hcell
      obtain ⟨b, off, spot⟩ := a
      have hpos : 0 < l.length := Nat.lt_of_le_of_lt (Nat.zero_le _) hk
      have h0 := (World.cells?_some (hp 0 _ (List.getElem?_eq_getElem hpos)).1).2.2 0 hsz
      have hv0 : (f (l[0]'hpos))[0]? = some ((f (l[0]'hpos))[0]'(by rw [hf]; exact hsz)) := List.getElem?_eq_getElem _
      rw [hv0] at h0
      have hs := World.cell?_spot h0
      have : spot = none := by simpa [Addr.add] using hs
      subst this
      rw [add_plain] at hcell
      exact ⟨b, off, rfl, hcell⟩
    · obtain ⟨i, hi⟩ := List.getElem?_of_mem hr
      exact (hp i r hi).2
end
theorem len4 {l : List Value} (h : l.length = 4) : ∃ a b c d, l = [a, b, c, d] := by
  match l, h with
  | [a, b, c, d], _ => exact ⟨a, b, c, d, rfl⟩
theorem len7 {l : List Value} (h : l.length = 7) : ∃ a b c d e f g, l = [a, b, c, d, e, f, g] := by
  match l, h with
  | [a, b, c, d, e, f, g], _ => exact ⟨a, b, c, d, e, f, g, rfl⟩
theorem bytes_of (s : ByteArray) : ∃ l : List UInt8, s = ⟨l.toArray⟩ := ⟨s.data.toList, by cases s; simp⟩
theorem str_list (s : ByteArray) : (⟨s.data.toList.toArray⟩ : ByteArray) = s := by
  cases s
  simp
section
variable {H : Type} {enc : TypeId × Value → H} {w : World} {base : Nat} {spare : Nat → Bool} {held : Bool}
theorem read_fact (n : Nat) (cs : List Value) (y : DataW H × List MemPlace) (h : DataW.trod enc Tryz.prog w base spare held n 96 cs = some y) : ∃ r : Fa, cs = faC r ∧ True := by
  obtain ⟨xs, m, _, _, hl, hx, hf⟩ := DataW.trod_struct Tryz.underlying96 h
  have h7 : cs.length = 7 := by rw [hl]; kernel_rfl
  clear hl
  obtain ⟨c0, c1, c2, c3, c4, c5, c6, rfl⟩ := len7 h7
  have f0 : DataW.trod enc Tryz.prog w base spare held m 3 (([c0, c1, c2, c3, c4, c5, c6].drop 0).take (Tryz.prog.cellsOf 3)) = xs[0]? := hf 0 _ rfl
  have f1 : DataW.trod enc Tryz.prog w base spare held m 9 (([c0, c1, c2, c3, c4, c5, c6].drop 1).take (Tryz.prog.cellsOf 9)) = xs[1]? := hf 1 _ rfl
  have f2 : DataW.trod enc Tryz.prog w base spare held m 3 (([c0, c1, c2, c3, c4, c5, c6].drop 2).take (Tryz.prog.cellsOf 3)) = xs[2]? := hf 2 _ rfl
  have f3 : DataW.trod enc Tryz.prog w base spare held m 3 (([c0, c1, c2, c3, c4, c5, c6].drop 3).take (Tryz.prog.cellsOf 3)) = xs[3]? := hf 3 _ rfl
  have f4 : DataW.trod enc Tryz.prog w base spare held m 3 (([c0, c1, c2, c3, c4, c5, c6].drop 4).take (Tryz.prog.cellsOf 3)) = xs[4]? := hf 4 _ rfl
  have f5 : DataW.trod enc Tryz.prog w base spare held m 3 (([c0, c1, c2, c3, c4, c5, c6].drop 5).take (Tryz.prog.cellsOf 3)) = xs[5]? := hf 5 _ rfl
  have f6 : DataW.trod enc Tryz.prog w base spare held m 3 (([c0, c1, c2, c3, c4, c5, c6].drop 6).take (Tryz.prog.cellsOf 3)) = xs[6]? := hf 6 _ rfl
  have hx3 : xs.length = 7 := by rw [hx]; rfl
  rw [List.getElem?_eq_getElem (by omega)] at f0 f1 f2 f3 f4 f5 f6
  rw [show Tryz.prog.cellsOf 3 = 1 from by kernel_rfl] at f0 f2 f3 f4 f5 f6
  rw [show Tryz.prog.cellsOf 9 = 1 from by kernel_rfl] at f1
  obtain ⟨n0, e0, _, _⟩ := DataW.trod_int Tryz.underlying3 f0
  obtain ⟨n1, e1, _, _⟩ := DataW.trod_string Tryz.underlying9 f1
  obtain ⟨n2, e2, _, _⟩ := DataW.trod_int Tryz.underlying3 f2
  obtain ⟨n3, e3, _, _⟩ := DataW.trod_int Tryz.underlying3 f3
  obtain ⟨n4, e4, _, _⟩ := DataW.trod_int Tryz.underlying3 f4
  obtain ⟨n5, e5, _, _⟩ := DataW.trod_int Tryz.underlying3 f5
  obtain ⟨n6, e6, _, _⟩ := DataW.trod_int Tryz.underlying3 f6
  simp at e0 e1 e2 e3 e4 e5 e6
  subst e0 e1 e2 e3 e4 e5 e6
  exact ⟨⟨n0, n1.data.toList, n2, n3, n4, n5, n6⟩, by simp only [faC, str_list], trivial⟩
theorem facts_of {A : Option Addr} {n c fuel : Nat} {x : DataW H × List MemPlace} (h : DataW.trod enc Tryz.prog w base spare held fuel 22 (Value.slice A n c).cells.toList = some x) :
    ∃ l : List Fa, n = l.length ∧ l.length ≤ 9223372036854775807 ∧ Rd w A (l.flatMap faC) := by
  obtain ⟨l, h1, h2, h3, h4, _⟩ := Open.rows_of (sz := 7) (by omega) faC_len Tryz.underlying22 (by kernel_rfl) read_fact h
  exact ⟨l, h1, by unfold maxLen at h3; omega, h4⟩
theorem node_slice {fuel : Nat} {c3 : Value} {x : DataW H × List MemPlace} (h : DataW.trod enc Tryz.prog w base spare held fuel 23 [c3] = some x) : ∃ A n c, c3 = .slice A n c := by
  rcases DataW.trod_slice Tryz.underlying23 h with ⟨h0, _⟩ | ⟨a, len, cap, elems, rest, m, hfu, hcs, _⟩
  · simp at h0
    exact ⟨_, _, _, h0⟩
  · simp at hcs
    exact ⟨_, _, _, hcs⟩
theorem read_node : ∀ (N fuel : Nat), fuel ≤ N → ∀ (cs : List Value) (y : DataW H × List MemPlace), DataW.trod enc Tryz.prog w base spare held fuel 25 cs = some y → ∃ x : Nd, cs = ndC x ∧ InW w (fun _ => False) N x
  | 0, fuel, hfu, cs, y, h => by
    obtain ⟨xs, m, h0, _⟩ := DataW.trod_struct Tryz.underlying25 h
    omega
  | N + 1, fuel, hfu, cs, y, h => by
    obtain ⟨xs, m, hm, _, hl, hx, hf⟩ := DataW.trod_struct Tryz.underlying25 h
    have h4 : cs.length = 4 := by rw [hl]; kernel_rfl
    clear hl
    obtain ⟨c0, c1, c2, c3, rfl⟩ := len4 h4
    have f0 : DataW.trod enc Tryz.prog w base spare held m 9 (([c0, c1, c2, c3].drop 0).take (Tryz.prog.cellsOf 9)) = xs[0]? := hf 0 _ rfl
    have f1 : DataW.trod enc Tryz.prog w base spare held m 9 (([c0, c1, c2, c3].drop 1).take (Tryz.prog.cellsOf 9)) = xs[1]? := hf 1 _ rfl
    have f2 : DataW.trod enc Tryz.prog w base spare held m 3 (([c0, c1, c2, c3].drop 2).take (Tryz.prog.cellsOf 3)) = xs[2]? := hf 2 _ rfl
    have f3 : DataW.trod enc Tryz.prog w base spare held m 23 (([c0, c1, c2, c3].drop 3).take (Tryz.prog.cellsOf 23)) = xs[3]? := hf 3 _ rfl
    have hx3 : xs.length = 4 := by rw [hx]; rfl
    rw [List.getElem?_eq_getElem (by omega)] at f0 f1 f2 f3
    rw [show Tryz.prog.cellsOf 3 = 1 from by kernel_rfl] at f2
    rw [show Tryz.prog.cellsOf 9 = 1 from by kernel_rfl] at f0 f1
    rw [show Tryz.prog.cellsOf 23 = 1 from by kernel_rfl] at f3
    obtain ⟨n0, e0, _, l0⟩ := DataW.trod_string Tryz.underlying9 f0
    obtain ⟨n1, e1, _, l1⟩ := DataW.trod_string Tryz.underlying9 f1
    obtain ⟨n2, e2, _, _⟩ := DataW.trod_int Tryz.underlying3 f2
    simp at e0 e1 e2
    subst e0 e1 e2
    obtain ⟨A, n, c, rfl⟩ := node_slice (c3 := c3) (by simpa using f3)
    obtain ⟨l, rfl, k1, k2, k3, k4⟩ := rows_lt (sz := 4) (by omega) ndC_len Tryz.underlying23 (by kernel_rfl) (fun n hn cs y h => read_node N n (by omega) cs y h) (A := A) (n := n) (c := c) (fuel := m) (by simpa [Value.cells] using f3)
    refine ⟨.mk n0.data.toList n1.data.toList n2 A c l, by simp only [ndC, str_list], k3, fun _ _ _ h => h, ⟨k1, k2, ?_, ?_⟩, k4⟩
    · have e : n0.data.toList.length = n0.size := Array.length_toList
      rw [e]
      unfold maxLen at l0
      omega
    · have e : n1.data.toList.length = n1.size := Array.length_toList
      rw [e]
      unfold maxLen at l1
      omega
set_option maxRecDepth 100000 in
theorem node_of {v : Value} {d : DataW H} {ps : List MemPlace} {r : Reach} {b0 : Nat} (hval : Value.okWide Tryz.prog w r b0 25 v) (hd : DataW.Trod enc Tryz.prog w base spare held 25 v d ps) :
    ∃ (D : Nat) (k s : List UInt8) (n : Int) (A : Option Addr) (c : Nat) (l : List Nd), v = .agg #[.string ⟨k.toArray⟩, .string ⟨s.toArray⟩, .int .i64 n, .slice A l.length c] ∧ InW w (fun _ => False) (D + 1) (.mk k s n A c l) := by
  obtain ⟨cs, rfl, hcs⟩ := okWide_struct Tryz.underlying25 hval
  obtain ⟨fuel, hf0⟩ := hd
  obtain ⟨l⟩ := cs
  have hf1 : DataW.trod enc Tryz.prog w base spare held fuel 25 l = some (d, ps) := by simpa [Value.cells] using hf0
  obtain ⟨x, rfl, hx⟩ := read_node fuel fuel (Nat.le_refl _) _ _ hf1
  obtain ⟨k, s, n, A, c, ks⟩ := x
  exact ⟨fuel, k, s, n, A, c, ks, rfl, hx.deep (by omega)⟩
end
theorem laidOut : laidOutB Tryz.prog = true := by kernel_rfl
set_option maxRecDepth 100000 in
theorem contract (H : Type) (enc : TypeId × Value → H) (W : World) (base : Nat) (args : Array Value) (ds gs : List (DataW H)) (before : List MemPlace)
    (hval : ∀ (j : Nat) t v, Tryz.f3.params[j]? = some t → args[j]? = some v → Value.okWide Tryz.prog W .any base t v)
    (hW : DataW.Whole enc Tryz.prog Tryz.f3.params.toList Rows.factsHoldSpec.vars false W args.toList ds gs before) (hL : laidMetH Tryz.prog Rows.factsHoldRow.laid W) :
    Calls Tryz.prog 3 args W fun e W' => ∃ v, e = .returned v ∧ Rows.factsHoldSpec.post enc Tryz.prog Tryz.f3 false true false false W args v W' := by
  have hW' := hW
  obtain ⟨p, q, hA0, hV, rfl, hfz, hnd⟩ := hW
  have hA : DataW.TrodAll enc Tryz.prog W 0 (fun _ => true) true Tryz.f3.params.toList args.toList ds p := hA0
  rw [Tryz.params3] at hA hval
  obtain ⟨v0, vs0, d0, ds0, p0, q0, hargs, rfl, rfl, h0, r0⟩ := trodAll_cons hA
  obtain ⟨v1, vs1, d1, ds1, p1, q1, rfl, rfl, rfl, h1, r1⟩ := trodAll_cons r0
  obtain ⟨v2, vs2, d2, ds2, p2, q2, rfl, rfl, rfl, h2, r2⟩ := trodAll_cons r1
  obtain ⟨v3, vs3, d3, ds3, p3, q3, rfl, rfl, rfl, h3, r3⟩ := trodAll_cons r2
  obtain ⟨v4, vs4, d4, ds4, p4, q4, rfl, rfl, rfl, h4, r4⟩ := trodAll_cons r3
  obtain ⟨rfl, rfl, rfl⟩ := trodAll_nil r4
  obtain rfl : args = #[v0, v1, v2, v3, v4] := by cases args; simp_all
  obtain ⟨rfl, rfl⟩ := trodVars_none hV
  obtain ⟨A0, n0, c0, rfl⟩ := okWide_slice Tryz.underlying22 (hval 0 22 v0 rfl rfl)
  have k0 := h0
  have lt0 : ∀ x ∈ p0, x.block < W.heap.size := by obtain ⟨m, hm⟩ := k0; exact DataW.trod_lt m _ _ _ hm
  obtain ⟨fuel0, hf0⟩ := h0
  obtain ⟨l, rfl, hl, hd⟩ := facts_of hf0
  have k1 := h1
  have lt1 : ∀ x ∈ p1, x.block < W.heap.size := by obtain ⟨m, hm⟩ := k1; exact DataW.trod_lt m _ _ _ hm
  obtain ⟨D, nk, nw, nn, NA, nc, ns, rfl, hnd1⟩ := node_of (hval 1 25 v1 rfl rfl) h1
  obtain ⟨a2, rfl, rfl, rfl, w2⟩ := open_int Tryz.underlying3 (hval 2 3 v2 rfl rfl) h2
  obtain ⟨a3, rfl, rfl, rfl, w3⟩ := open_int Tryz.underlying3 (hval 3 3 v3 rfl rfl) h3
  obtain ⟨a4, rfl, rfl, rfl, w4⟩ := open_int Tryz.underlying3 (hval 4 3 v4 rfl rfl) h4
  clear hA0
  simp only [List.append_nil] at hW'
  obtain ⟨A, hE⟩ := Err.errs_of_laid hL
  refine (hold_walk l hl A0 c0 A D nk nw nn NA nc ns a2 a3 a4 W hE hd hnd1).mono fun e W' ⟨he, bel⟩ => ?_
  subst he
  exact ⟨_, rfl, _, _, _, [], _, [], hW', trodAll_mk1 (shut_bool Tryz.underlying4 _), (trodAll_cons_mk (Below.trod laidOut (by kernel_rfl) (of_decide_eq_true (by kernel_rfl)) k0 bel lt0) (trodAll_cons_mk (Below.trod laidOut (by kernel_rfl) (of_decide_eq_true (by kernel_rfl)) k1 bel lt1) (trodAll_cons_mk (shut_int Tryz.underlying3 w2) (trodAll_cons_mk (shut_int Tryz.underlying3 w3) (trodAll_cons_mk (shut_int Tryz.underlying3 w4) trodAll_mk0))))), rfl, bel.frame _, fun h => by cases h⟩
-- WITNESS args: .slice none 0 0, .agg #[.string ⟨#[]⟩, .string ⟨#[]⟩, .int .i64 0, .slice none 0 0], .int .i64 0, .int .i64 0, .int .i64 0
-- WITNESS data: .nil, .agg [.lit (.string []), .lit (.string []), .lit (.int .i64 0), .nil], .lit (.int .i64 0), .lit (.int .i64 0), .lit (.int .i64 0)
-- PARAM types: 22, 25, 3, 3, 3
end Go.Proofs.YtnchlnfenebomaaGreatDoor.FactsHold

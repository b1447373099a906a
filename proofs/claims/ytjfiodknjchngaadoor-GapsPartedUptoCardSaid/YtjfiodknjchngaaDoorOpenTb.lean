/- A table of cases among the arguments, opened. -/
import Derived.Test.YtjfiodknjchngaaDoorOpen
import Derived.Test.YtjfiodknjchngaaDoorGqT
import Derived.Test.YtjfiodknjchngaaDoorGqP
namespace Go.Proofs.YtjfiodknjchngaaDoor.Open
open Go.ChangeShapes Go.WideShapes Go.ChangeAt Go.RowKit Mem Nest Gp

section
variable {H : Type} {enc : TypeId × Value → H} {w : World} {base : Nat} {spare : Nat → Bool} {held : Bool}
theorem str_list5 (s : ByteArray) : (⟨s.data.toList.toArray⟩ : ByteArray) = s := by
  cases s
  simp
theorem flat_strs (l : List (List UInt8)) : (l.flatMap fun s => [Value.string ⟨s.toArray⟩]) = strsV l := by
  induction l with
  | nil => rfl
  | cons z zs ih => simp only [List.flatMap_cons, ih, strsV, List.map_cons]; rfl
/-- a slice of texts -/
theorem strsN {N : Nat} {A : Option Addr} {n c fuel : Nat} {x : DataW H × List MemPlace} (h : DataW.trod enc Tryd.prog w base spare held fuel 50 (Value.slice A n c).cells.toList = some x) (hx : Rows.uptoBulk x.1 ≤ N) :
    ∃ zs : List (List UInt8), n = zs.length ∧ zs.length ≤ c ∧ Rd w A (strsV zs) ∧ zs.length ≤ N ∧ (A = none → c = 0) ∧ ∀ s ∈ zs, s.length ≤ maxLen := by
  have hn := slice_nil Tryd.underlying50 h
  obtain ⟨l, h1, h2, h3, h4, h5, h6⟩ := rows_ofN (f := fun s : List UInt8 => [Value.string ⟨s.toArray⟩]) (Q := fun s => s.length ≤ maxLen) (sz := 1) (by omega) (fun _ => rfl) Tryd.underlying50 (by kernel_rfl) (fun n cs y h _ => by
    obtain ⟨s, e, _, hs⟩ := DataW.trod_string Tryd.underlying9 h
    refine ⟨s.data.toList, by rw [str_list5]; exact e, ?_⟩
    have e2 : s.data.toList.length = s.size := Array.length_toList
    rw [e2]
    exact hs) h hx
  rw [flat_strs] at h4
  exact ⟨l, h1, h2, h4, h5, hn, h6⟩
theorem read_qn {N : Nat} (n : Nat) (cs : List Value) (y : DataW H × List MemPlace) (h : DataW.trod enc Tryd.prog w base spare held n 79 cs = some y) (hN : Rows.uptoBulk y.1 ≤ N) :
    ∃ r : QnM, cs = qmCells r ∧ Rd w r.A (strsV r.ans) ∧ r.ans.length ≤ N ∧ (r.A = none → r.c = 0) ∧ r.name.length ≤ maxLen ∧ (∀ s ∈ r.ans, s.length ≤ maxLen) := by
  obtain ⟨xs, m, _, hy, hl, hx, hf⟩ := DataW.trod_struct Tryd.underlying79 h
  have h2 : cs.length = 2 := by rw [hl]; kernel_rfl
  clear hl
  obtain ⟨c0, c1, rfl⟩ := len2 h2
  have f0 : DataW.trod enc Tryd.prog w base spare held m 9 (([c0, c1].drop 0).take (Tryd.prog.cellsOf 9)) = xs[0]? := hf 0 _ rfl
  have f1 : DataW.trod enc Tryd.prog w base spare held m 50 (([c0, c1].drop 1).take (Tryd.prog.cellsOf 50)) = xs[1]? := hf 1 _ rfl
  have hx2 : xs.length = 2 := by rw [hx]; rfl
  rw [List.getElem?_eq_getElem (by omega)] at f0 f1
  rw [show Tryd.prog.cellsOf 9 = 1 from by kernel_rfl] at f0
  rw [show Tryd.prog.cellsOf 50 = 1 from by kernel_rfl] at f1
  obtain ⟨s, e0, _, hs⟩ := DataW.trod_string Tryd.underlying9 f0
  simp at e0
  subst e0
  obtain ⟨A, k, c, rfl⟩ := slice_form Tryd.underlying50 f1
  subst hy
  obtain ⟨zs, rfl, l1, hr, l3, hn, l4⟩ := strsN (A := A) (n := k) (c := c) f1 (bulk_part hN (List.mem_map.2 ⟨_, List.getElem_mem (show 1 < xs.length by omega), rfl⟩))
  refine ⟨⟨s.data.toList, zs, A, c⟩, by simp only [qmCells, str_list5], hr, l3, hn, ?_, l4⟩
  have e2 : s.data.toList.length = s.size := Array.length_toList
  show s.data.toList.length ≤ maxLen
  rw [e2]
  exact hs
theorem read_cl {N : Nat} (hN1 : N ≤ 1048576) (n : Nat) (cs : List Value) (y : DataW H × List MemPlace) (h : DataW.trod enc Tryd.prog w base spare held n 77 cs = some y) (hN : Rows.uptoBulk y.1 ≤ N) :
    ∃ r : RC, cs = rcCells r ∧ Rd w r.A (ints r.l) ∧ RcOk r := by
  obtain ⟨xs, m, _, hy, hl, hx, hf⟩ := DataW.trod_struct Tryd.underlying77 h
  have h2 : cs.length = 2 := by rw [hl]; kernel_rfl
  clear hl
  obtain ⟨c0, c1, rfl⟩ := len2 h2
  have f0 : DataW.trod enc Tryd.prog w base spare held m 4 (([c0, c1].drop 0).take (Tryd.prog.cellsOf 4)) = xs[0]? := hf 0 _ rfl
  have f1 : DataW.trod enc Tryd.prog w base spare held m 46 (([c0, c1].drop 1).take (Tryd.prog.cellsOf 46)) = xs[1]? := hf 1 _ rfl
  have hx2 : xs.length = 2 := by rw [hx]; rfl
  rw [List.getElem?_eq_getElem (by omega)] at f0 f1
  rw [show Tryd.prog.cellsOf 4 = 1 from by kernel_rfl] at f0
  rw [show Tryd.prog.cellsOf 46 = 1 from by kernel_rfl] at f1
  obtain ⟨b, e0, _⟩ := DataW.trod_bool Tryd.underlying4 f0
  simp at e0
  subst e0
  obtain ⟨A, k, c, rfl⟩ := slice_form Tryd.underlying46 f1
  subst hy
  obtain ⟨zs, rfl, l1, _, hr, l3, hn, _⟩ := intsN (A := A) (n := k) (c := c) f1 (bulk_part hN (List.mem_map.2 ⟨_, List.getElem_mem (show 1 < xs.length by omega), rfl⟩))
  exact ⟨⟨b, zs, A, c⟩, rfl, hr, ⟨hn, Nat.le_trans l3 hN1⟩⟩
theorem read_rr {N : Nat} (hN1 : N ≤ 1048576) (n : Nat) (cs : List Value) (y : DataW H × List MemPlace) (h : DataW.trod enc Tryd.prog w base spare held n 45 cs = some y) (hN : Rows.uptoBulk y.1 ≤ N) :
    ∃ r : RR, cs = rrCells r ∧ Rd w r.A (r.cells.flatMap rcCells) ∧ (∀ x ∈ r.cells, Rd w x.A (ints x.l) ∧ RcOk x) ∧ r.cells.length ≤ N ∧ r.out.length ≤ maxLen := by
  obtain ⟨xs, m, _, hy, hl, hx, hf⟩ := DataW.trod_struct Tryd.underlying45 h
  have h2 : cs.length = 2 := by rw [hl]; kernel_rfl
  clear hl
  obtain ⟨c0, c1, rfl⟩ := len2 h2
  have f0 : DataW.trod enc Tryd.prog w base spare held m 43 (([c0, c1].drop 0).take (Tryd.prog.cellsOf 43)) = xs[0]? := hf 0 _ rfl
  have f1 : DataW.trod enc Tryd.prog w base spare held m 9 (([c0, c1].drop 1).take (Tryd.prog.cellsOf 9)) = xs[1]? := hf 1 _ rfl
  have hx2 : xs.length = 2 := by rw [hx]; rfl
  rw [List.getElem?_eq_getElem (by omega)] at f0 f1
  rw [show Tryd.prog.cellsOf 43 = 1 from by kernel_rfl] at f0
  rw [show Tryd.prog.cellsOf 9 = 1 from by kernel_rfl] at f1
  obtain ⟨s, e0, _, hs⟩ := DataW.trod_string Tryd.underlying9 f1
  simp at e0
  subst e0
  obtain ⟨A, k, c, rfl⟩ := slice_form Tryd.underlying43 f0
  subst hy
  obtain ⟨zs, rfl, _, _, hr, l3, l4⟩ := rows_ofN (A := A) (n := k) (c := c) (f := rcCells) (sz := 2) (by omega) rcCells_len Tryd.underlying43 (by kernel_rfl) (read_cl hN1) f0 (bulk_part hN (List.mem_map.2 ⟨_, List.getElem_mem (show 0 < xs.length by omega), rfl⟩))
  refine ⟨⟨zs, A, c, s.data.toList⟩, by simp only [rrCells, str_list5], hr, l4, l3, ?_⟩
  have e2 : s.data.toList.length = s.size := Array.length_toList
  show s.data.toList.length ≤ maxLen
  rw [e2]
  exact hs
/-- what a table tells -/
def TabIn (w : World) (v : Value) : Prop := ∃ (qms : List QnM) (A : Option Addr) (c : Nat) (rrs : List RR) (B : Option Addr) (bc : Nat), v = .agg #[.slice A qms.length c, .slice B rrs.length bc] ∧ SmallP (qms.map QnM.qn) (rrs.map rrRw) ∧
  (∀ q ∈ qms, q.ans.length ≤ 1048576 ∧ (q.A = none → q.c = 0)) ∧ (∀ r ∈ rrs, r.cells.length ≤ 1048576 ∧ ∀ x ∈ r.cells, RcOk x) ∧ QsP w A qms ∧ RawR w B rrs ∧ (∀ r ∈ rrs, ∀ x ∈ r.cells, Rd w x.A (ints x.l))
set_option maxRecDepth 100000 in
theorem tab_of {N : Nat} (hN1 : N ≤ 1048576) {v : Value} {d : DataW H} {ps : List MemPlace} {r : Reach} {b0 : Nat} (hval : Value.okWide Tryd.prog w r b0 25 v) (hd : DataW.Trod enc Tryd.prog w base spare held 25 v d ps) (hN : Rows.uptoBulk d ≤ N) : TabIn w v := by
  obtain ⟨cs, rfl, hcs⟩ := okWide_struct Tryd.underlying25 hval
  rw [show Tryd.prog.cellsOf 25 = 2 from by kernel_rfl] at hcs
  obtain ⟨fuel, hf0⟩ := hd
  obtain ⟨l⟩ := cs
  have hl2 : l.length = 2 := by simpa using hcs
  obtain ⟨c0, c1, rfl⟩ := len2 hl2
  have hf1 : DataW.trod enc Tryd.prog w base spare held fuel 25 [c0, c1] = some (d, ps) := by simpa [Value.cells] using hf0
  obtain ⟨xs, m, _, hy, _, hx, hf⟩ := DataW.trod_struct Tryd.underlying25 hf1
  have f0 : DataW.trod enc Tryd.prog w base spare held m 22 (([c0, c1].drop 0).take (Tryd.prog.cellsOf 22)) = xs[0]? := hf 0 _ rfl
  have f1 : DataW.trod enc Tryd.prog w base spare held m 23 (([c0, c1].drop 1).take (Tryd.prog.cellsOf 23)) = xs[1]? := hf 1 _ rfl
  have hx2 : xs.length = 2 := by rw [hx]; rfl
  rw [List.getElem?_eq_getElem (by omega)] at f0 f1
  rw [show Tryd.prog.cellsOf 22 = 1 from by kernel_rfl] at f0
  rw [show Tryd.prog.cellsOf 23 = 1 from by kernel_rfl] at f1
  obtain ⟨A1, k1, d1, rfl⟩ := slice_form Tryd.underlying22 f0
  obtain ⟨A2, k2, d2, rfl⟩ := slice_form Tryd.underlying23 f1
  have hd2 : d = .agg (xs.map (·.1)) := congrArg Prod.fst hy
  subst hd2
  obtain ⟨qs, rfl, _, _, a3, a4, a5⟩ := rows_ofN (A := A1) (n := k1) (c := d1) (f := qmCells) (sz := 2) (by omega) qmCells_len Tryd.underlying22 (by kernel_rfl) read_qn f0 (bulk_part hN (List.mem_map.2 ⟨_, List.getElem_mem (show 0 < xs.length by omega), rfl⟩))
  obtain ⟨rs, rfl, _, _, b3, b4, b5⟩ := rows_ofN (A := A2) (n := k2) (c := d2) (f := rrCells) (sz := 2) (by omega) rrCells_len Tryd.underlying23 (by kernel_rfl) (read_rr hN1) f1 (bulk_part hN (List.mem_map.2 ⟨_, List.getElem_mem (show 1 < xs.length by omega), rfl⟩))
  refine ⟨qs, A1, d1, rs, A2, d2, rfl, ⟨?_, ?_, ?_, ?_, ?_, ?_, ?_⟩, fun q hq => ⟨Nat.le_trans (a5 q hq).2.1 hN1, (a5 q hq).2.2.1⟩, fun r hr => ⟨Nat.le_trans (b5 r hr).2.2.1 hN1, fun x hx => ((b5 r hr).2.1 x hx).2⟩, ⟨a3, fun q hq => (a5 q hq).1⟩, ⟨b3, fun r hr => (b5 r hr).1⟩, fun r hr x hx => ((b5 r hr).2.1 x hx).1⟩
  · intro q hq
    obtain ⟨q', h', rfl⟩ := List.mem_map.1 hq
    have := (a5 q' h').2.2.2.1
    unfold maxLen at this
    exact this
  · intro q hq s hs
    obtain ⟨q', h', rfl⟩ := List.mem_map.1 hq
    have := (a5 q' h').2.2.2.2 s hs
    unfold maxLen at this
    exact this
  · intro q hq
    obtain ⟨q', h', rfl⟩ := List.mem_map.1 hq
    exact Nat.le_trans (a5 q' h').2.1 hN1
  · rw [List.length_map]
    omega
  · rw [List.length_map]
    omega
  · intro r hr
    obtain ⟨r', h', rfl⟩ := List.mem_map.1 hr
    have := (b5 r' h').2.2.2
    unfold maxLen at this
    exact this
  · intro r hr
    obtain ⟨r', h', rfl⟩ := List.mem_map.1 hr
    unfold rrRw
    rw [List.length_map]
    exact Nat.le_trans (b5 r' h').2.2.1 hN1
end
end Go.Proofs.YtjfiodknjchngaaDoor.Open

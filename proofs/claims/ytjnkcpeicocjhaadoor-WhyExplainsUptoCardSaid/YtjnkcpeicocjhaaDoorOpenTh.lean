/- A theory among the arguments, opened. A slice of steps among the arguments, opened. -/
import Derived.Test.YtjnkcpeicocjhaaDoorOpen
import Derived.Test.YtjnkcpeicocjhaaDoorLawT
import Derived.Test.YtjnkcpeicocjhaaDoorCheck
namespace Go.Proofs.YtjnkcpeicocjhaaDoor.Open
open Go.ChangeShapes Go.WideShapes Go.ChangeAt Go.RowKit Mem Thm

section
variable {H : Type} {enc : TypeId × Value → H} {w : World} {base : Nat} {spare : Nat → Bool} {held : Bool}
theorem read_pair (n : Nat) (cs : List Value) (y : DataW H × List MemPlace) (h : DataW.trod enc Tryd.prog w base spare held n 145 cs = some y) : ∃ r : Int × Int, cs = prCells r ∧ True := by
  obtain ⟨xs, m, _, _, hl, hx, hf⟩ := DataW.trod_array Tryd.underlying145 h
  have h2 : cs.length = 2 := by rw [hl]; kernel_rfl
  clear hl
  obtain ⟨c0, c1, rfl⟩ := len2 h2
  have hc : Tryd.prog.cellsOf 3 = 1 := by kernel_rfl
  rw [hc] at hf
  have f0 := hf 0 (by decide)
  have f1 := hf 1 (by decide)
  rw [List.getElem?_eq_getElem (by omega)] at f0 f1
  obtain ⟨n0, e0, _, _⟩ := DataW.trod_int Tryd.underlying3 f0
  obtain ⟨n1, e1, _, _⟩ := DataW.trod_int Tryd.underlying3 f1
  simp at e0 e1
  subst e0 e1
  exact ⟨(n0, n1), rfl, trivial⟩
theorem read_rule {N : Nat} (n : Nat) (cs : List Value) (y : DataW H × List MemPlace) (h : DataW.trod enc Tryd.prog w base spare held n 137 cs = some y) (hN : Rows.uptoBulk y.1 ≤ N) :
    ∃ r : Rw, cs = rwCells r ∧ Rd w r.A (ints r.body) ∧ (r.body.length ≤ r.c ∧ r.c ≤ maxLen) ∧ r.body.length ≤ N ∧ (r.A = none → r.c = 0) := by
  obtain ⟨xs, m, _, hy, hl, hx, hf⟩ := DataW.trod_struct Tryd.underlying137 h
  have h3 : cs.length = 3 := by rw [hl]; kernel_rfl
  clear hl
  obtain ⟨c0, c1, c2, rfl⟩ := len3 h3
  have f0 : DataW.trod enc Tryd.prog w base spare held m 3 (([c0, c1, c2].drop 0).take (Tryd.prog.cellsOf 3)) = xs[0]? := hf 0 _ rfl
  have f1 : DataW.trod enc Tryd.prog w base spare held m 3 (([c0, c1, c2].drop 1).take (Tryd.prog.cellsOf 3)) = xs[1]? := hf 1 _ rfl
  have f2 : DataW.trod enc Tryd.prog w base spare held m 100 (([c0, c1, c2].drop 2).take (Tryd.prog.cellsOf 100)) = xs[2]? := hf 2 _ rfl
  have hx3 : xs.length = 3 := by rw [hx]; rfl
  rw [List.getElem?_eq_getElem (by omega)] at f0 f1 f2
  rw [show Tryd.prog.cellsOf 3 = 1 from by kernel_rfl] at f0 f1
  rw [show Tryd.prog.cellsOf 100 = 1 from by kernel_rfl] at f2
  obtain ⟨n0, e0, _, _⟩ := DataW.trod_int Tryd.underlying3 f0
  obtain ⟨n1, e1, _, _⟩ := DataW.trod_int Tryd.underlying3 f1
  simp at e0 e1
  subst e0 e1
  obtain ⟨A, k, c, rfl⟩ := slice_form Tryd.underlying100 f2
  subst hy
  obtain ⟨zs, rfl, l1, l2, hr, l3, hn, _⟩ := intsN (A := A) (n := k) (c := c) f2 (bulk_part hN (List.mem_map.2 ⟨_, List.getElem_mem (show 2 < xs.length by omega), rfl⟩))
  exact ⟨⟨n0, n1, zs, A, c⟩, rfl, hr, ⟨l1, l2⟩, l3, hn⟩
set_option maxRecDepth 100000 in
theorem theory_of {N : Nat} {v : Value} {d : DataW H} {ps : List MemPlace} {r : Reach} {b0 : Nat} (hval : Value.okWide Tryd.prog w r b0 61 v) (hd : DataW.Trod enc Tryd.prog w base spare held 61 v d ps) (hx : Rows.uptoBulk d ≤ N) :
    v = .pointer none ∨ ∃ b o M rs RA rc ov OA oc, v = .pointer (some ⟨b, o, none⟩) ∧ (N ≤ 1048576 → LawT.ThA w b o M rs RA rc ov OA oc) := by
  have hc3 : Tryd.prog.cellsOf 136 = 3 := by kernel_rfl
  have hpos : 0 < Tryd.prog.cellsOf 136 := by rw [hc3]; decide
  rcases open_ptr (e := 136) Tryd.underlying61 hpos hval hd with ⟨h, _⟩ | ⟨b, o, cs, y, fuel, rfl, rfl, _, hl, hcell, hy⟩
  · exact .inl h
  · right
    rw [hc3] at hl hcell
    have hb := bulk_ptr hx
    obtain ⟨xs, m, _, hy', _, hx3, hf⟩ := DataW.trod_struct Tryd.underlying136 hy
    obtain ⟨c0, c1, c2, rfl⟩ := len3 hl
    have f0 : DataW.trod enc Tryd.prog w base spare held m 3 (([c0, c1, c2].drop 0).take (Tryd.prog.cellsOf 3)) = xs[0]? := hf 0 _ rfl
    have f1 : DataW.trod enc Tryd.prog w base spare held m 134 (([c0, c1, c2].drop 1).take (Tryd.prog.cellsOf 134)) = xs[1]? := hf 1 _ rfl
    have f2 : DataW.trod enc Tryd.prog w base spare held m 69 (([c0, c1, c2].drop 2).take (Tryd.prog.cellsOf 69)) = xs[2]? := hf 2 _ rfl
    have hx3 : xs.length = 3 := by rw [hx3]; rfl
    rw [List.getElem?_eq_getElem (by omega)] at f0 f1 f2
    rw [show Tryd.prog.cellsOf 3 = 1 from by kernel_rfl] at f0
    rw [show Tryd.prog.cellsOf 134 = 1 from by kernel_rfl] at f1
    rw [show Tryd.prog.cellsOf 69 = 1 from by kernel_rfl] at f2
    obtain ⟨n0, e0, _, _⟩ := DataW.trod_int Tryd.underlying3 f0
    simp at e0
    subst e0
    obtain ⟨A1, k1, d1, rfl⟩ := slice_form Tryd.underlying134 f1
    obtain ⟨A2, k2, d2, rfl⟩ := slice_form Tryd.underlying69 f2
    subst hy'
    obtain ⟨rs, rfl, a1, a2, a3, a4, a5⟩ := rows_ofN (A := A1) (n := k1) (c := d1) (sz := 3) (by omega) rwCells_len Tryd.underlying134 (by kernel_rfl) read_rule f1 (bulk_part hb (List.mem_map.2 ⟨_, List.getElem_mem (show 1 < xs.length by omega), rfl⟩))
    obtain ⟨ov, rfl, b1, b2, b3, b4, _⟩ := rows_ofN (A := A2) (n := k2) (c := d2) (sz := 2) (by omega) prCells_len Tryd.underlying69 (by kernel_rfl) (fun n cs y h _ => read_pair n cs y h) f2 (bulk_part hb (List.mem_map.2 ⟨_, List.getElem_mem (show 2 < xs.length by omega), rfl⟩))
    refine ⟨b, o, n0, rs, A1, d1, ov, A2, d2, rfl, fun hN => ⟨by simpa using hcell 0 (by omega), by simpa using hcell 1 (by omega), by simpa using hcell 2 (by omega), ⟨a3, fun r hr => (a5 r hr).1, fun r hr => (a5 r hr).2.1, by unfold maxLen at *; omega⟩, b3, slice_nil Tryd.underlying69 (A := A2) (n := ov.length) (c := d2) f2, fun r hr => (a5 r hr).2.2.2, by omega, fun r hr => Nat.le_trans (a5 r hr).2.2.1 hN, by omega⟩⟩
end
end Go.Proofs.YtjnkcpeicocjhaaDoor.Open
namespace Go.Proofs.YtjnkcpeicocjhaaDoor.Open
open Go.ChangeShapes Go.WideShapes Go.ChangeAt Go.RowKit Mem ChkW

section
variable {H : Type} {enc : TypeId × Value → H} {w : World} {base : Nat} {spare : Nat → Bool} {held : Bool}
theorem read_step (n : Nat) (cs : List Value) (y : DataW H × List MemPlace) (h : DataW.trod enc Tryd.prog w base spare held n 63 cs = some y) : ∃ r : Sp, cs = spCells r ∧ (Lit.int .i64 r.q).wf = true := by
  obtain ⟨xs, m, _, hy, hl, hx, hf⟩ := DataW.trod_struct Tryd.underlying63 h
  have h3 : cs.length = 3 := by rw [hl]; kernel_rfl
  clear hl
  obtain ⟨c0, c1, c2, rfl⟩ := len3 h3
  have f0 : DataW.trod enc Tryd.prog w base spare held m 4 (([c0, c1, c2].drop 0).take (Tryd.prog.cellsOf 4)) = xs[0]? := hf 0 _ rfl
  have f1 : DataW.trod enc Tryd.prog w base spare held m 4 (([c0, c1, c2].drop 1).take (Tryd.prog.cellsOf 4)) = xs[1]? := hf 1 _ rfl
  have f2 : DataW.trod enc Tryd.prog w base spare held m 3 (([c0, c1, c2].drop 2).take (Tryd.prog.cellsOf 3)) = xs[2]? := hf 2 _ rfl
  have hx3 : xs.length = 3 := by rw [hx]; rfl
  rw [List.getElem?_eq_getElem (by omega)] at f0 f1 f2
  rw [show Tryd.prog.cellsOf 4 = 1 from by kernel_rfl] at f0 f1
  rw [show Tryd.prog.cellsOf 3 = 1 from by kernel_rfl] at f2
  obtain ⟨b0, e0, _⟩ := DataW.trod_bool Tryd.underlying4 f0
  obtain ⟨b1, e1, _⟩ := DataW.trod_bool Tryd.underlying4 f1
  obtain ⟨n2, e2, _, hw⟩ := DataW.trod_int Tryd.underlying3 f2
  simp at e0 e1 e2
  subst e0 e1 e2
  exact ⟨⟨b0, b1, n2⟩, rfl, hw⟩
theorem stepsN {N : Nat} {A : Option Addr} {n c fuel : Nat} {x : DataW H × List MemPlace} (h : DataW.trod enc Tryd.prog w base spare held fuel 86 (Value.slice A n c).cells.toList = some x) (hx : Rows.uptoBulk x.1 ≤ N) :
    ∃ l : List Sp, n = l.length ∧ l.length ≤ N ∧ Rd w A (l.flatMap spCells) ∧ ∀ r ∈ l, (Lit.int .i64 r.q).wf = true := by
  obtain ⟨l, h1, _, _, h4, h5, h6⟩ := rows_ofN (f := spCells) (Q := fun z => (Lit.int .i64 z.q).wf = true) (sz := 3) (by omega) spCells_len Tryd.underlying86 (by kernel_rfl) (fun n cs y h _ => read_step n cs y h) h hx
  exact ⟨l, h1, h5, h4, h6⟩
end
end Go.Proofs.YtjnkcpeicocjhaaDoor.Open

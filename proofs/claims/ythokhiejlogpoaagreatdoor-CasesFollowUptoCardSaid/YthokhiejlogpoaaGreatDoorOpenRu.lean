/- A theory and rulings among the arguments, opened. -/
import Derived.Test.YthokhiejlogpoaaGreatDoorOpenTh
import Derived.Test.YthokhiejlogpoaaGreatDoorCfP
namespace Go.Proofs.YthokhiejlogpoaaGreatDoor.Open
open Go.ChangeShapes Go.WideShapes Go.ChangeAt Go.RowKit Mem Thm Cf

section
variable {H : Type} {enc : TypeId × Value → H} {w : World} {base : Nat} {spare : Nat → Bool} {held : Bool}
theorem read_ruling {N : Nat} (n : Nat) (cs : List Value) (y : DataW H × List MemPlace) (h : DataW.trod enc Tryz.prog w base spare held n 103 cs = some y) (hN : Rows.uptoBulk y.1 ≤ N) :
    ∃ r : Ru, cs = ruCells r ∧ Rd w r.A (ints r.body) ∧ (r.body.length ≤ r.c ∧ r.c ≤ maxLen) ∧ r.body.length ≤ N ∧ (r.A = none → r.c = 0) := by
  obtain ⟨xs, m, _, hy, hl, hx, hf⟩ := DataW.trod_struct Tryz.underlying103 h
  have h3 : cs.length = 3 := by rw [hl]; kernel_rfl
  clear hl
  obtain ⟨c0, c1, c2, rfl⟩ := len3 h3
  have f0 : DataW.trod enc Tryz.prog w base spare held m 3 (([c0, c1, c2].drop 0).take (Tryz.prog.cellsOf 3)) = xs[0]? := hf 0 _ rfl
  have f1 : DataW.trod enc Tryz.prog w base spare held m 35 (([c0, c1, c2].drop 1).take (Tryz.prog.cellsOf 35)) = xs[1]? := hf 1 _ rfl
  have f2 : DataW.trod enc Tryz.prog w base spare held m 3 (([c0, c1, c2].drop 2).take (Tryz.prog.cellsOf 3)) = xs[2]? := hf 2 _ rfl
  have hx3 : xs.length = 3 := by rw [hx]; rfl
  rw [List.getElem?_eq_getElem (by omega)] at f0 f1 f2
  rw [show Tryz.prog.cellsOf 3 = 1 from by kernel_rfl] at f0 f2
  rw [show Tryz.prog.cellsOf 35 = 1 from by kernel_rfl] at f1
  obtain ⟨n0, e0, _, _⟩ := DataW.trod_int Tryz.underlying3 f0
  obtain ⟨n2, e2, _, _⟩ := DataW.trod_int Tryz.underlying3 f2
  simp at e0 e2
  subst e0 e2
  obtain ⟨A, k, c, rfl⟩ := slice_form Tryz.underlying35 f1
  subst hy
  obtain ⟨zs, rfl, l1, l2, hr, l3, hn, _⟩ := intsN (A := A) (n := k) (c := c) f1 (bulk_part hN (List.mem_map.2 ⟨_, List.getElem_mem (show 1 < xs.length by omega), rfl⟩))
  exact ⟨⟨n0, zs, n2, A, c⟩, rfl, hr, ⟨l1, l2⟩, l3, hn⟩
theorem rulings_of {N : Nat} {A : Option Addr} {n c fuel : Nat} {x : DataW H × List MemPlace} (h : DataW.trod enc Tryz.prog w base spare held fuel 96 (Value.slice A n c).cells.toList = some x) (hx : Rows.uptoBulk x.1 ≤ N) :
    ∃ l : List Ru, n = l.length ∧ l.length ≤ N ∧ Rus w A l ∧ (∀ r ∈ l, r.body.length ≤ N ∧ (r.A = none → r.c = 0)) := by
  obtain ⟨l, h1, _, _, h4, h5, h6⟩ := rows_ofN (f := ruCells) (sz := 3) (by omega) ruCells_len Tryz.underlying96 (by kernel_rfl) read_ruling h hx
  exact ⟨l, h1, h5, ⟨h4, fun r hr => (h6 r hr).1, fun r hr => (h6 r hr).2.1⟩, fun r hr => (h6 r hr).2.2⟩
set_option maxRecDepth 100000 in
theorem theory_of2 {N : Nat} {v : Value} {d : DataW H} {ps : List MemPlace} {r : Reach} {b0 : Nat} (hval : Value.okWide Tryz.prog w r b0 95 v) (hd : DataW.Trod enc Tryz.prog w base spare held 95 v d ps) (hx : Rows.uptoBulk d ≤ N) :
    v = .pointer none ∨ ∃ b o M rs RA rc ov OA oc, v = .pointer (some ⟨b, o, none⟩) ∧ (N ≤ 1048576 → LawT.ThA w b o M rs RA rc ov OA oc ∧ (RA = none → rc = 0)) := by
  have hc3 : Tryz.prog.cellsOf 100 = 3 := by kernel_rfl
  have hpos : 0 < Tryz.prog.cellsOf 100 := by rw [hc3]; decide
  rcases open_ptr (e := 100) Tryz.underlying95 hpos hval hd with ⟨h, _⟩ | ⟨b, o, cs, y, fuel, rfl, rfl, _, hl, hcell, hy⟩
  · exact .inl h
  · right
    rw [hc3] at hl hcell
    have hb := bulk_ptr hx
    obtain ⟨xs, m, _, hy', _, hx3, hf⟩ := DataW.trod_struct Tryz.underlying100 hy
    obtain ⟨c0, c1, c2, rfl⟩ := len3 hl
    have f0 : DataW.trod enc Tryz.prog w base spare held m 3 (([c0, c1, c2].drop 0).take (Tryz.prog.cellsOf 3)) = xs[0]? := hf 0 _ rfl
    have f1 : DataW.trod enc Tryz.prog w base spare held m 97 (([c0, c1, c2].drop 1).take (Tryz.prog.cellsOf 97)) = xs[1]? := hf 1 _ rfl
    have f2 : DataW.trod enc Tryz.prog w base spare held m 98 (([c0, c1, c2].drop 2).take (Tryz.prog.cellsOf 98)) = xs[2]? := hf 2 _ rfl
    have hx3 : xs.length = 3 := by rw [hx3]; rfl
    rw [List.getElem?_eq_getElem (by omega)] at f0 f1 f2
    rw [show Tryz.prog.cellsOf 3 = 1 from by kernel_rfl] at f0
    rw [show Tryz.prog.cellsOf 97 = 1 from by kernel_rfl] at f1
    rw [show Tryz.prog.cellsOf 98 = 1 from by kernel_rfl] at f2
    obtain ⟨n0, e0, _, _⟩ := DataW.trod_int Tryz.underlying3 f0
    simp at e0
    subst e0
    obtain ⟨A1, k1, d1, rfl⟩ := slice_form Tryz.underlying97 f1
    obtain ⟨A2, k2, d2, rfl⟩ := slice_form Tryz.underlying98 f2
    subst hy'
    obtain ⟨rs, rfl, a1, a2, a3, a4, a5⟩ := rows_ofN (A := A1) (n := k1) (c := d1) (sz := 3) (by omega) rwCells_len Tryz.underlying97 (by kernel_rfl) read_rule f1 (bulk_part hb (List.mem_map.2 ⟨_, List.getElem_mem (show 1 < xs.length by omega), rfl⟩))
    obtain ⟨ov, rfl, b1, b2, b3, b4, _⟩ := rows_ofN (A := A2) (n := k2) (c := d2) (sz := 2) (by omega) prCells_len Tryz.underlying98 (by kernel_rfl) (fun n cs y h _ => read_pair n cs y h) f2 (bulk_part hb (List.mem_map.2 ⟨_, List.getElem_mem (show 2 < xs.length by omega), rfl⟩))
    refine ⟨b, o, n0, rs, A1, d1, ov, A2, d2, rfl, fun hN => ⟨⟨by simpa using hcell 0 (by omega), by simpa using hcell 1 (by omega), by simpa using hcell 2 (by omega), ⟨a3, fun r hr => (a5 r hr).1, fun r hr => (a5 r hr).2.1, by unfold maxLen at *; omega⟩, b3, slice_nil Tryz.underlying98 (A := A2) (n := ov.length) (c := d2) f2, fun r hr => (a5 r hr).2.2.2, by omega, fun r hr => Nat.le_trans (a5 r hr).2.2.1 hN, by omega⟩, slice_nil Tryz.underlying97 (A := A1) (n := rs.length) (c := d1) f1⟩⟩
end
end Go.Proofs.YthokhiejlogpoaaGreatDoor.Open

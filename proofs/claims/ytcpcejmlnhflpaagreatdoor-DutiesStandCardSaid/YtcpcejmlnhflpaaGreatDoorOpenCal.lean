/- A calendar of plain data among the arguments, opened. Duties and events among the arguments, opened. -/
import Derived.Test.YtcpcejmlnhflpaaGreatDoorOpen
import Derived.Test.YtcpcejmlnhflpaaGreatDoorDayWorksMain
import Derived.Test.YtcpcejmlnhflpaaGreatDoorDuM
import Derived.Test.YtcpcejmlnhflpaaGreatDoorRows
import Derived.Test.YtcpcejmlnhflpaaGreatDoorLaid
namespace Go.Proofs.YtcpcejmlnhflpaaGreatDoor.Open
open Go.ChangeShapes Go.WideShapes Go.ChangeAt Go.RowKit Mem CdM DayWorks

section
variable {H : Type} {enc : TypeId × Value → H} {w : World} {base : Nat} {spare : Nat → Bool} {held : Bool}
theorem flat_bools (G : List Bool) : (G.flatMap fun b => [Value.bool b]) = bls G := by
  induction G with
  | nil => rfl
  | cons z zs ih => simp only [List.flatMap_cons, ih, bls, List.map_cons]; rfl
set_option maxRecDepth 100000 in
theorem cal_of {v : Value} {d : DataW H} {ps : List MemPlace} {r : Reach} {b0 : Nat} (hval : Value.okWide Tryz.prog w r b0 58 v) (hd : DataW.Trod enc Tryz.prog w base spare held 58 v d ps) :
    ∃ offs hol AO co AH ch, v = .agg #[.slice AO (List.length offs) co, .slice AH (List.length hol) ch] ∧ Dat w offs hol AO co AH ch := by
  obtain ⟨cs, rfl, hcs⟩ := okWide_struct Tryz.underlying58 hval
  rw [show Tryz.prog.cellsOf 58 = 2 from by kernel_rfl] at hcs
  obtain ⟨fuel, hf0⟩ := hd
  obtain ⟨l⟩ := cs
  have hl2 : l.length = 2 := by simpa using hcs
  obtain ⟨c0, c1, rfl⟩ := len2 hl2
  have hf1 : DataW.trod enc Tryz.prog w base spare held fuel 58 [c0, c1] = some (d, ps) := by simpa [Value.cells] using hf0
  obtain ⟨xs, m, _, hy, _, hx, hf⟩ := DataW.trod_struct Tryz.underlying58 hf1
  have f0 : DataW.trod enc Tryz.prog w base spare held m 56 (([c0, c1].drop 0).take (Tryz.prog.cellsOf 56)) = xs[0]? := hf 0 _ rfl
  have f1 : DataW.trod enc Tryz.prog w base spare held m 35 (([c0, c1].drop 1).take (Tryz.prog.cellsOf 35)) = xs[1]? := hf 1 _ rfl
  have hx3 : xs.length = 2 := by rw [hx]; rfl
  rw [List.getElem?_eq_getElem (by omega)] at f0 f1
  rw [show Tryz.prog.cellsOf 56 = 1 from by kernel_rfl] at f0
  rw [show Tryz.prog.cellsOf 35 = 1 from by kernel_rfl] at f1
  obtain ⟨A1, k1, d1, rfl⟩ := slice_form Tryz.underlying56 f0
  obtain ⟨A2, k2, d2, rfl⟩ := slice_form Tryz.underlying35 f1
  obtain ⟨G, rfl, a1, a2, a3, _⟩ := rows_of (f := fun b => [Value.bool b]) (Q := fun _ => True) (A := A1) (n := k1) (c := d1) (sz := 1) (by omega) (fun _ => rfl) Tryz.underlying56 (by kernel_rfl) (fun n cs y h => by
    obtain ⟨z, e, _⟩ := DataW.trod_bool Tryz.underlying4 h
    exact ⟨z, e, trivial⟩) f0
  obtain ⟨zs, rfl, b1, b2, b3, b4⟩ := rows_of (f := fun z => [Value.int .i64 z]) (Q := fun z => (Lit.int .i64 z).wf = true) (A := A2) (n := k2) (c := d2) (sz := 1) (by omega) (fun _ => rfl) Tryz.underlying35 (by kernel_rfl) (fun n cs y h => by
    obtain ⟨z, e, _, hw⟩ := DataW.trod_int Tryz.underlying3 h
    exact ⟨z, e, hw⟩) f1
  rw [flat_bools] at a3
  rw [flat_ints] at b3
  have hn := slice_nil Tryz.underlying35 (A := A2) (n := zs.length) (c := d2) f1
  exact ⟨G, zs, A1, d1, A2, d2, rfl, ⟨a3, b3, hn, by unfold maxLen at a2; omega, by unfold maxLen at b2; omega, b4⟩⟩
end
end Go.Proofs.YtcpcejmlnhflpaaGreatDoor.Open
namespace Go.Proofs.YtcpcejmlnhflpaaGreatDoor.Open
open Go.ChangeShapes Go.WideShapes Go.ChangeAt Go.RowKit Mem Nest Dut

theorem len4 {l : List Value} (h : l.length = 4) : ∃ a b c d, l = [a, b, c, d] := by
  match l, h with
  | [a, b, c, d], _ => exact ⟨a, b, c, d, rfl⟩
theorem len8 {l : List Value} (h : l.length = 8) : ∃ a b c d e f g i, l = [a, b, c, d, e, f, g, i] := by
  match l, h with
  | [a, b, c, d, e, f, g, i], _ => exact ⟨a, b, c, d, e, f, g, i, rfl⟩
theorem str_list (s : ByteArray) : (⟨s.data.toList.toArray⟩ : ByteArray) = s := by
  cases s
  simp
section
variable {H : Type} {enc : TypeId × Value → H} {w : World} {base : Nat} {spare : Nat → Bool} {held : Bool}
theorem read_term (n : Nat) (a b c : Value) (y : DataW H × List MemPlace) (h : DataW.trod enc Tryz.prog w base spare held n 131 [a, b, c] = some y) : ∃ i j k : Int, a = .int .i64 i ∧ b = .int .i64 j ∧ c = .int .i64 k := by
  obtain ⟨xs, m, _, _, _, hx, hf⟩ := DataW.trod_struct Tryz.underlying131 h
  have f0 : DataW.trod enc Tryz.prog w base spare held m 3 (([a, b, c].drop 0).take (Tryz.prog.cellsOf 3)) = xs[0]? := hf 0 _ rfl
  have f1 : DataW.trod enc Tryz.prog w base spare held m 3 (([a, b, c].drop 1).take (Tryz.prog.cellsOf 3)) = xs[1]? := hf 1 _ rfl
  have f2 : DataW.trod enc Tryz.prog w base spare held m 3 (([a, b, c].drop 2).take (Tryz.prog.cellsOf 3)) = xs[2]? := hf 2 _ rfl
  have hx3 : xs.length = 3 := by rw [hx]; rfl
  rw [List.getElem?_eq_getElem (by omega)] at f0 f1 f2
  rw [show Tryz.prog.cellsOf 3 = 1 from by kernel_rfl] at f0 f1 f2
  obtain ⟨n0, e0, _, _⟩ := DataW.trod_int Tryz.underlying3 f0
  obtain ⟨n1, e1, _, _⟩ := DataW.trod_int Tryz.underlying3 f1
  obtain ⟨n2, e2, _, _⟩ := DataW.trod_int Tryz.underlying3 f2
  simp at e0 e1 e2
  exact ⟨n0, n1, n2, e0, e1, e2⟩
theorem read_duty (n : Nat) (cs : List Value) (y : DataW H × List MemPlace) (h : DataW.trod enc Tryz.prog w base spare held n 133 cs = some y) : ∃ r : Dt, cs = dtCells r ∧ True := by
  obtain ⟨xs, m, _, _, hl, hx, hf⟩ := DataW.trod_struct Tryz.underlying133 h
  have h8 : cs.length = 8 := by rw [hl]; kernel_rfl
  clear hl
  obtain ⟨c0, c1, c2, c3, c4, c5, c6, c7, rfl⟩ := len8 h8
  have f0 : DataW.trod enc Tryz.prog w base spare held m 9 (([c0, c1, c2, c3, c4, c5, c6, c7].drop 0).take (Tryz.prog.cellsOf 9)) = xs[0]? := hf 0 _ rfl
  have f1 : DataW.trod enc Tryz.prog w base spare held m 9 (([c0, c1, c2, c3, c4, c5, c6, c7].drop 1).take (Tryz.prog.cellsOf 9)) = xs[1]? := hf 1 _ rfl
  have f2 : DataW.trod enc Tryz.prog w base spare held m 3 (([c0, c1, c2, c3, c4, c5, c6, c7].drop 2).take (Tryz.prog.cellsOf 3)) = xs[2]? := hf 2 _ rfl
  have f3 : DataW.trod enc Tryz.prog w base spare held m 3 (([c0, c1, c2, c3, c4, c5, c6, c7].drop 3).take (Tryz.prog.cellsOf 3)) = xs[3]? := hf 3 _ rfl
  have f4 : DataW.trod enc Tryz.prog w base spare held m 9 (([c0, c1, c2, c3, c4, c5, c6, c7].drop 4).take (Tryz.prog.cellsOf 9)) = xs[4]? := hf 4 _ rfl
  have f5 : DataW.trod enc Tryz.prog w base spare held m 131 (([c0, c1, c2, c3, c4, c5, c6, c7].drop 5).take (Tryz.prog.cellsOf 131)) = xs[5]? := hf 5 _ rfl
  have hx3 : xs.length = 6 := by rw [hx]; rfl
  rw [List.getElem?_eq_getElem (by omega)] at f0 f1 f2 f3 f4 f5
  rw [show Tryz.prog.cellsOf 3 = 1 from by kernel_rfl] at f2 f3
  rw [show Tryz.prog.cellsOf 9 = 1 from by kernel_rfl] at f0 f1 f4
  rw [show Tryz.prog.cellsOf 131 = 3 from by kernel_rfl] at f5
  obtain ⟨s0, e0, _, _⟩ := DataW.trod_string Tryz.underlying9 f0
  obtain ⟨s1, e1, _, _⟩ := DataW.trod_string Tryz.underlying9 f1
  obtain ⟨n2, e2, _, _⟩ := DataW.trod_int Tryz.underlying3 f2
  obtain ⟨n3, e3, _, _⟩ := DataW.trod_int Tryz.underlying3 f3
  obtain ⟨s4, e4, _, _⟩ := DataW.trod_string Tryz.underlying9 f4
  obtain ⟨i, j, k, e5, e6, e7⟩ := read_term _ c5 c6 c7 _ f5
  simp at e0 e1 e2 e3 e4
  subst e0 e1 e2 e3 e4 e5 e6 e7
  exact ⟨⟨s0.data.toList, s1.data.toList, n2, n3, s4.data.toList, i, j, k⟩, by simp only [dtCells, str_list], trivial⟩
theorem read_event (n : Nat) (cs : List Value) (y : DataW H × List MemPlace) (h : DataW.trod enc Tryz.prog w base spare held n 78 cs = some y) : ∃ r : Ev, cs = evCells r ∧ True := by
  obtain ⟨xs, m, _, _, hl, hx, hf⟩ := DataW.trod_struct Tryz.underlying78 h
  have h4 : cs.length = 4 := by rw [hl]; kernel_rfl
  clear hl
  obtain ⟨c0, c1, c2, c3, rfl⟩ := len4 h4
  have f0 : DataW.trod enc Tryz.prog w base spare held m 3 (([c0, c1, c2, c3].drop 0).take (Tryz.prog.cellsOf 3)) = xs[0]? := hf 0 _ rfl
  have f1 : DataW.trod enc Tryz.prog w base spare held m 9 (([c0, c1, c2, c3].drop 1).take (Tryz.prog.cellsOf 9)) = xs[1]? := hf 1 _ rfl
  have f2 : DataW.trod enc Tryz.prog w base spare held m 9 (([c0, c1, c2, c3].drop 2).take (Tryz.prog.cellsOf 9)) = xs[2]? := hf 2 _ rfl
  have f3 : DataW.trod enc Tryz.prog w base spare held m 4 (([c0, c1, c2, c3].drop 3).take (Tryz.prog.cellsOf 4)) = xs[3]? := hf 3 _ rfl
  have hx3 : xs.length = 4 := by rw [hx]; rfl
  rw [List.getElem?_eq_getElem (by omega)] at f0 f1 f2 f3
  rw [show Tryz.prog.cellsOf 3 = 1 from by kernel_rfl] at f0
  rw [show Tryz.prog.cellsOf 9 = 1 from by kernel_rfl] at f1 f2
  rw [show Tryz.prog.cellsOf 4 = 1 from by kernel_rfl] at f3
  obtain ⟨n0, e0, _, _⟩ := DataW.trod_int Tryz.underlying3 f0
  obtain ⟨s1, e1, _, _⟩ := DataW.trod_string Tryz.underlying9 f1
  obtain ⟨s2, e2, _, _⟩ := DataW.trod_string Tryz.underlying9 f2
  obtain ⟨b3, e3, _⟩ := DataW.trod_bool Tryz.underlying4 f3
  simp at e0 e1 e2 e3
  subst e0 e1 e2 e3
  exact ⟨⟨n0, s1.data.toList, s2.data.toList, b3⟩, by simp only [evCells, str_list], trivial⟩
theorem duties_of {A : Option Addr} {n c fuel : Nat} {x : DataW H × List MemPlace} (h : DataW.trod enc Tryz.prog w base spare held fuel 54 (Value.slice A n c).cells.toList = some x) :
    ∃ l : List Dt, n = l.length ∧ l.length ≤ 9223372036854775807 ∧ Rd w A (l.flatMap dtCells) := by
  obtain ⟨l, h1, h2, h3, h4, _⟩ := rows_of (sz := 8) (by omega) dtCells_len Tryz.underlying54 (by kernel_rfl) read_duty h
  exact ⟨l, h1, by unfold maxLen at h3; omega, h4⟩
theorem events_of {A : Option Addr} {n c fuel : Nat} {x : DataW H × List MemPlace} (h : DataW.trod enc Tryz.prog w base spare held fuel 55 (Value.slice A n c).cells.toList = some x) :
    ∃ l : List Ev, n = l.length ∧ l.length ≤ 9223372036854775807 ∧ Rd w A (l.flatMap evCells) := by
  obtain ⟨l, h1, h2, h3, h4, _⟩ := rows_of (sz := 4) (by omega) evCells_len Tryz.underlying55 (by kernel_rfl) read_event h
  exact ⟨l, h1, by unfold maxLen at h3; omega, h4⟩
end
end Go.Proofs.YtcpcejmlnhflpaaGreatDoor.Open

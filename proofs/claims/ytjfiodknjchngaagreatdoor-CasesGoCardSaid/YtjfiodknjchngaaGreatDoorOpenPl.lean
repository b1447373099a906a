/- A plan of cases among the arguments, opened. A calendar of plain data among the arguments, opened. Duties and events among the arguments, opened. -/
import Derived.Test.YtjfiodknjchngaaGreatDoorOpen
import Derived.Test.YtjfiodknjchngaaGreatDoorCeL
import Derived.Test.YtjfiodknjchngaaGreatDoorCdBoth
import Derived.Test.YtjfiodknjchngaaGreatDoorDuM
import Derived.Test.YtjfiodknjchngaaGreatDoorRows
import Derived.Test.YtjfiodknjchngaaGreatDoorLaid
namespace Go.Proofs.YtjfiodknjchngaaGreatDoor.OpenPl
open Go.ChangeShapes Go.WideShapes Go.ChangeAt Go.RowKit Mem _root_.Go.Proofs.YtjfiodknjchngaaGreatDoor.Open Cf Ce

section
variable {H : Type} {enc : TypeId × Value → H} {w : World} {base : Nat} {spare : Nat → Bool} {held : Bool}
theorem strl (s : ByteArray) : (⟨s.data.toList.toArray⟩ : ByteArray) = s := by
  cases s
  simp
theorem strl_len (s : ByteArray) (h : s.size ≤ maxLen) : s.data.toList.length ≤ 9223372036854775807 := by
  have e2 : s.data.toList.length = s.size := Array.length_toList
  rw [e2]
  unfold maxLen at h
  omega
theorem flat_strs6 (l : List (List UInt8)) : (l.flatMap fun s => [Value.string ⟨s.toArray⟩]) = Srs.strs l := by
  induction l with
  | nil => rfl
  | cons z zs ih => simp only [List.flatMap_cons, ih, Srs.strs, List.map_cons]; rfl
theorem strs_of {A : Option Addr} {n c fuel : Nat} {x : DataW H × List MemPlace} (h : DataW.trod enc Tryz.prog w base spare held fuel 39 (Value.slice A n c).cells.toList = some x) :
    ∃ zs : List (List UInt8), n = zs.length ∧ zs.length ≤ 9223372036854775807 ∧ Rd w A (Srs.strs zs) ∧ (A = none → c = 0) ∧ ∀ s ∈ zs, s.length ≤ 9223372036854775807 := by
  have hn := slice_nil Tryz.underlying39 h
  obtain ⟨l, h1, h2, h3, h4, h6⟩ := rows_of (f := fun s : List UInt8 => [Value.string ⟨s.toArray⟩]) (Q := fun s => s.length ≤ 9223372036854775807) (sz := 1) (by omega) (fun _ => rfl) Tryz.underlying39 (by kernel_rfl) (fun n cs y h => by
    obtain ⟨s, e, _, hs⟩ := DataW.trod_string Tryz.underlying9 h
    exact ⟨s.data.toList, by rw [strl]; exact e, strl_len s hs⟩) h
  rw [flat_strs6] at h4
  exact ⟨l, h1, by unfold maxLen at h3; omega, h4, hn, h6⟩
theorem rterm (n : Nat) (a b c : Value) (y : DataW H × List MemPlace) (h : DataW.trod enc Tryz.prog w base spare held n 94 [a, b, c] = some y) : ∃ i j k : Int, a = .int .i64 i ∧ b = .int .i64 j ∧ c = .int .i64 k := by
  obtain ⟨xs, m, _, _, _, hx, hf⟩ := DataW.trod_struct Tryz.underlying94 h
  have f0 : DataW.trod enc Tryz.prog w base spare held m 3 (([a, b, c].drop 0).take (Tryz.prog.cellsOf 3)) = xs[0]? := hf 0 _ rfl
  have f1 : DataW.trod enc Tryz.prog w base spare held m 3 (([a, b, c].drop 1).take (Tryz.prog.cellsOf 3)) = xs[1]? := hf 1 _ rfl
  have f2 : DataW.trod enc Tryz.prog w base spare held m 3 (([a, b, c].drop 2).take (Tryz.prog.cellsOf 3)) = xs[2]? := hf 2 _ rfl
  have hx3 : xs.length = 3 := by rw [hx]; rfl
  rw [List.getElem?_eq_getElem (by omega)] at f0 f1 f2
  rw [show Tryz.prog.cellsOf 3 = 1 from by kernel_rfl] at f0 f1 f2
  obtain ⟨n0, e0, _, _⟩ := DataW.trod_int Tryz.underlying3 f0
  obtain ⟨n1, e1, _, _⟩ := DataW.trod_int Tryz.underlying3 f1
  obtain ⟨n2, e2, _, _⟩ := DataW.trod_int Tryz.underlying3 f2
  simp at e0 e1 e2
  exact ⟨n0, n1, n2, e0, e1, e2⟩
def MvSh (m : Mv) : Prop := m.name.length ≤ 9223372036854775807 ∧ m.frm.length ≤ 9223372036854775807 ∧ m.to_.length ≤ 9223372036854775807 ∧ m.who.length ≤ 9223372036854775807
theorem len8 {l : List Value} (h : l.length = 8) : ∃ a b c d e f g i, l = [a, b, c, d, e, f, g, i] := by
  match l, h with
  | [a, b, c, d, e, f, g, i], _ => exact ⟨a, b, c, d, e, f, g, i, rfl⟩
theorem read_move (n : Nat) (cs : List Value) (y : DataW H × List MemPlace) (h : DataW.trod enc Tryz.prog w base spare held n 96 cs = some y) : ∃ r : Mv, cs = mvCells r ∧ MvSh r := by
  obtain ⟨xs, m, _, _, hl, hx, hf⟩ := DataW.trod_struct Tryz.underlying96 h
  have h8 : cs.length = 8 := by rw [hl]; kernel_rfl
  clear hl
  obtain ⟨c0, c1, c2, c3, c4, c5, c6, c7, rfl⟩ := len8 h8
  have f0 : DataW.trod enc Tryz.prog w base spare held m 9 (([c0, c1, c2, c3, c4, c5, c6, c7].drop 0).take (Tryz.prog.cellsOf 9)) = xs[0]? := hf 0 _ rfl
  have f1 : DataW.trod enc Tryz.prog w base spare held m 9 (([c0, c1, c2, c3, c4, c5, c6, c7].drop 1).take (Tryz.prog.cellsOf 9)) = xs[1]? := hf 1 _ rfl
  have f2 : DataW.trod enc Tryz.prog w base spare held m 9 (([c0, c1, c2, c3, c4, c5, c6, c7].drop 2).take (Tryz.prog.cellsOf 9)) = xs[2]? := hf 2 _ rfl
  have f3 : DataW.trod enc Tryz.prog w base spare held m 9 (([c0, c1, c2, c3, c4, c5, c6, c7].drop 3).take (Tryz.prog.cellsOf 9)) = xs[3]? := hf 3 _ rfl
  have f4 : DataW.trod enc Tryz.prog w base spare held m 94 (([c0, c1, c2, c3, c4, c5, c6, c7].drop 4).take (Tryz.prog.cellsOf 94)) = xs[4]? := hf 4 _ rfl
  have f5 : DataW.trod enc Tryz.prog w base spare held m 3 (([c0, c1, c2, c3, c4, c5, c6, c7].drop 7).take (Tryz.prog.cellsOf 3)) = xs[5]? := hf 5 _ rfl
  have hx3 : xs.length = 6 := by rw [hx]; rfl
  rw [List.getElem?_eq_getElem (by omega)] at f0 f1 f2 f3 f4 f5
  rw [show Tryz.prog.cellsOf 3 = 1 from by kernel_rfl] at f5
  rw [show Tryz.prog.cellsOf 9 = 1 from by kernel_rfl] at f0 f1 f2 f3
  rw [show Tryz.prog.cellsOf 94 = 3 from by kernel_rfl] at f4
  obtain ⟨s0, e0, _, l0⟩ := DataW.trod_string Tryz.underlying9 f0
  obtain ⟨s1, e1, _, l1⟩ := DataW.trod_string Tryz.underlying9 f1
  obtain ⟨s2, e2, _, l2⟩ := DataW.trod_string Tryz.underlying9 f2
  obtain ⟨s3, e3, _, l3⟩ := DataW.trod_string Tryz.underlying9 f3
  obtain ⟨i, j, k, e4, e5, e6⟩ := rterm _ c4 c5 c6 _ f4
  obtain ⟨n7, e7, _, _⟩ := DataW.trod_int Tryz.underlying3 f5
  simp at e0 e1 e2 e3 e7
  subst e0 e1 e2 e3 e4 e5 e6 e7
  exact ⟨⟨s0.data.toList, s1.data.toList, s2.data.toList, s3.data.toList, i, j, k, n7⟩, by simp only [mvCells, strl], strl_len s0 l0, strl_len s1 l1, strl_len s2 l2, strl_len s3 l3⟩
theorem moves_of {A : Option Addr} {n c fuel : Nat} {x : DataW H × List MemPlace} (h : DataW.trod enc Tryz.prog w base spare held fuel 64 (Value.slice A n c).cells.toList = some x) :
    ∃ l : List Mv, n = l.length ∧ l.length ≤ 9223372036854775807 ∧ Rd w A (l.flatMap mvCells) ∧ ∀ m ∈ l, MvSh m := by
  obtain ⟨l, h1, h2, h3, h4, h5⟩ := rows_of (sz := 8) (by omega) mvCells_len Tryz.underlying64 (by kernel_rfl) read_move h
  exact ⟨l, h1, by unfold maxLen at h3; omega, h4, h5⟩
set_option maxRecDepth 100000 in
theorem plan_at {v : Value} {d : DataW H} {ps : List MemPlace} {r : Reach} {b0 : Nat} (hval : Value.okWide Tryz.prog w r b0 22 v) (hd : DataW.Trod enc Tryz.prog w base spare held 22 v d ps) :
    v = .pointer none ∨ ∃ b o st fin ms FA fc MA mc, v = .pointer (some ⟨b, o, none⟩) ∧ PIn w b o st fin ms FA fc MA mc ∧ st.length ≤ 9223372036854775807 ∧ (∀ s ∈ fin, s.length ≤ 9223372036854775807) ∧ ∀ m ∈ ms, MvSh m := by
  have hc3 : Tryz.prog.cellsOf 66 = 3 := by kernel_rfl
  have hpos : 0 < Tryz.prog.cellsOf 66 := by rw [hc3]; decide
  rcases open_ptr (e := 66) Tryz.underlying22 hpos hval hd with ⟨h, _⟩ | ⟨b, o, cs, y, fuel, rfl, rfl, _, hl, hcell, hy⟩
  · exact .inl h
  · right
    rw [hc3] at hl hcell
    obtain ⟨xs, m, _, hy', _, hx3, hf⟩ := DataW.trod_struct Tryz.underlying66 hy
    obtain ⟨c0, c1, c2, rfl⟩ := len3 hl
    have f0 : DataW.trod enc Tryz.prog w base spare held m 9 (([c0, c1, c2].drop 0).take (Tryz.prog.cellsOf 9)) = xs[0]? := hf 0 _ rfl
    have f1 : DataW.trod enc Tryz.prog w base spare held m 39 (([c0, c1, c2].drop 1).take (Tryz.prog.cellsOf 39)) = xs[1]? := hf 1 _ rfl
    have f2 : DataW.trod enc Tryz.prog w base spare held m 64 (([c0, c1, c2].drop 2).take (Tryz.prog.cellsOf 64)) = xs[2]? := hf 2 _ rfl
    have hx3 : xs.length = 3 := by rw [hx3]; rfl
    rw [List.getElem?_eq_getElem (by omega)] at f0 f1 f2
    rw [show Tryz.prog.cellsOf 9 = 1 from by kernel_rfl] at f0
    rw [show Tryz.prog.cellsOf 39 = 1 from by kernel_rfl] at f1
    rw [show Tryz.prog.cellsOf 64 = 1 from by kernel_rfl] at f2
    obtain ⟨s0, e0, _, l0⟩ := DataW.trod_string Tryz.underlying9 f0
    simp at e0
    subst e0
    obtain ⟨A1, k1, d1, rfl⟩ := slice_form Tryz.underlying39 f1
    obtain ⟨A2, k2, d2, rfl⟩ := slice_form Tryz.underlying64 f2
    obtain ⟨fin, rfl, a1, a2, a3, a4⟩ := strs_of (A := A1) (n := k1) (c := d1) f1
    obtain ⟨ms, rfl, b1, b2, b3⟩ := moves_of (A := A2) (n := k2) (c := d2) f2
    have q0 : w.cell? ⟨b, o + 0, none⟩ = _ := hcell 0 (by omega)
    have q1 : w.cell? ⟨b, o + 1, none⟩ = _ := hcell 1 (by omega)
    have q2 : w.cell? ⟨b, o + 2, none⟩ = _ := hcell 2 (by omega)
    refine ⟨b, o, s0.data.toList, fin, ms, A1, d1, A2, d2, rfl, ⟨?_, q1, q2, a2, b2, a3, a1, b1⟩, strl_len s0 l0, a4, b3⟩
    rw [strl]
    exact q0
end
end Go.Proofs.YtjfiodknjchngaaGreatDoor.OpenPl
namespace Go.Proofs.YtjfiodknjchngaaGreatDoor.Open
open Go.ChangeShapes Go.WideShapes Go.ChangeAt Go.RowKit Mem CdM DayWorks

section
variable {H : Type} {enc : TypeId × Value → H} {w : World} {base : Nat} {spare : Nat → Bool} {held : Bool}
theorem flat_bools (G : List Bool) : (G.flatMap fun b => [Value.bool b]) = bls G := by
  induction G with
  | nil => rfl
  | cons z zs ih => simp only [List.flatMap_cons, ih, bls, List.map_cons]; rfl
set_option maxRecDepth 100000 in
theorem cal_of {v : Value} {d : DataW H} {ps : List MemPlace} {r : Reach} {b0 : Nat} (hval : Value.okWide Tryz.prog w r b0 26 v) (hd : DataW.Trod enc Tryz.prog w base spare held 26 v d ps) :
    ∃ offs hol AO co AH ch, v = .agg #[.slice AO (List.length offs) co, .slice AH (List.length hol) ch] ∧ Dat w offs hol AO co AH ch := by
  obtain ⟨cs, rfl, hcs⟩ := okWide_struct Tryz.underlying26 hval
  rw [show Tryz.prog.cellsOf 26 = 2 from by kernel_rfl] at hcs
  obtain ⟨fuel, hf0⟩ := hd
  obtain ⟨l⟩ := cs
  have hl2 : l.length = 2 := by simpa using hcs
  obtain ⟨c0, c1, rfl⟩ := len2 hl2
  have hf1 : DataW.trod enc Tryz.prog w base spare held fuel 26 [c0, c1] = some (d, ps) := by simpa [Value.cells] using hf0
  obtain ⟨xs, m, _, hy, _, hx, hf⟩ := DataW.trod_struct Tryz.underlying26 hf1
  have f0 : DataW.trod enc Tryz.prog w base spare held m 23 (([c0, c1].drop 0).take (Tryz.prog.cellsOf 23)) = xs[0]? := hf 0 _ rfl
  have f1 : DataW.trod enc Tryz.prog w base spare held m 24 (([c0, c1].drop 1).take (Tryz.prog.cellsOf 24)) = xs[1]? := hf 1 _ rfl
  have hx3 : xs.length = 2 := by rw [hx]; rfl
  rw [List.getElem?_eq_getElem (by omega)] at f0 f1
  rw [show Tryz.prog.cellsOf 23 = 1 from by kernel_rfl] at f0
  rw [show Tryz.prog.cellsOf 24 = 1 from by kernel_rfl] at f1
  obtain ⟨A1, k1, d1, rfl⟩ := slice_form Tryz.underlying23 f0
  obtain ⟨A2, k2, d2, rfl⟩ := slice_form Tryz.underlying24 f1
  obtain ⟨G, rfl, a1, a2, a3, _⟩ := rows_of (f := fun b => [Value.bool b]) (Q := fun _ => True) (A := A1) (n := k1) (c := d1) (sz := 1) (by omega) (fun _ => rfl) Tryz.underlying23 (by kernel_rfl) (fun n cs y h => by
    obtain ⟨z, e, _⟩ := DataW.trod_bool Tryz.underlying4 h
    exact ⟨z, e, trivial⟩) f0
  obtain ⟨zs, rfl, b1, b2, b3, b4⟩ := rows_of (f := fun z => [Value.int .i64 z]) (Q := fun z => (Lit.int .i64 z).wf = true) (A := A2) (n := k2) (c := d2) (sz := 1) (by omega) (fun _ => rfl) Tryz.underlying24 (by kernel_rfl) (fun n cs y h => by
    obtain ⟨z, e, _, hw⟩ := DataW.trod_int Tryz.underlying3 h
    exact ⟨z, e, hw⟩) f1
  rw [flat_bools] at a3
  rw [flat_ints] at b3
  have hn := slice_nil Tryz.underlying24 (A := A2) (n := zs.length) (c := d2) f1
  exact ⟨G, zs, A1, d1, A2, d2, rfl, ⟨a3, b3, hn, by unfold maxLen at a2; omega, by unfold maxLen at b2; omega, b4⟩⟩
end
end Go.Proofs.YtjfiodknjchngaaGreatDoor.Open
namespace Go.Proofs.YtjfiodknjchngaaGreatDoor.Open
open Go.ChangeShapes Go.WideShapes Go.ChangeAt Go.RowKit Mem Nest Dut

theorem len4 {l : List Value} (h : l.length = 4) : ∃ a b c d, l = [a, b, c, d] := by
  match l, h with
  | [a, b, c, d], _ => exact ⟨a, b, c, d, rfl⟩
theorem len8 {l : List Value} (h : l.length = 8) : ∃ a b c d e f g i, l = [a, b, c, d, e, f, g, i] := by
  match l, h with
  | [a, b, c, d, e, f, g, i], _ => exact ⟨a, b, c, d, e, f, g, i, rfl⟩
theorem str_list (s : ByteArray) : (⟨s.data.toList.toArray⟩ : ByteArray) = s := by
  cases s
  simp
section
variable {H : Type} {enc : TypeId × Value → H} {w : World} {base : Nat} {spare : Nat → Bool} {held : Bool}
theorem read_term (n : Nat) (a b c : Value) (y : DataW H × List MemPlace) (h : DataW.trod enc Tryz.prog w base spare held n 94 [a, b, c] = some y) : ∃ i j k : Int, a = .int .i64 i ∧ b = .int .i64 j ∧ c = .int .i64 k := by
  obtain ⟨xs, m, _, _, _, hx, hf⟩ := DataW.trod_struct Tryz.underlying94 h
  have f0 : DataW.trod enc Tryz.prog w base spare held m 3 (([a, b, c].drop 0).take (Tryz.prog.cellsOf 3)) = xs[0]? := hf 0 _ rfl
  have f1 : DataW.trod enc Tryz.prog w base spare held m 3 (([a, b, c].drop 1).take (Tryz.prog.cellsOf 3)) = xs[1]? := hf 1 _ rfl
  have f2 : DataW.trod enc Tryz.prog w base spare held m 3 (([a, b, c].drop 2).take (Tryz.prog.cellsOf 3)) = xs[2]? := hf 2 _ rfl
  have hx3 : xs.length = 3 := by rw [hx]; rfl
  rw [List.getElem?_eq_getElem (by omega)] at f0 f1 f2
  rw [show Tryz.prog.cellsOf 3 = 1 from by kernel_rfl] at f0 f1 f2
  obtain ⟨n0, e0, _, _⟩ := DataW.trod_int Tryz.underlying3 f0
  obtain ⟨n1, e1, _, _⟩ := DataW.trod_int Tryz.underlying3 f1
  obtain ⟨n2, e2, _, _⟩ := DataW.trod_int Tryz.underlying3 f2
  simp at e0 e1 e2
  exact ⟨n0, n1, n2, e0, e1, e2⟩
end
end Go.Proofs.YtjfiodknjchngaaGreatDoor.Open

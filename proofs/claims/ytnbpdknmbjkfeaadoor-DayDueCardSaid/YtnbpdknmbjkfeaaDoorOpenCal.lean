/- A calendar of plain data among the arguments, opened. -/
import Derived.Test.YtnbpdknmbjkfeaaDoorOpen
import Derived.Test.YtnbpdknmbjkfeaaDoorDayWorksMain
namespace Go.Proofs.YtnbpdknmbjkfeaaDoor.Open
open Go.ChangeShapes Go.WideShapes Go.ChangeAt Go.RowKit Mem CdM DayWorks

section
variable {H : Type} {enc : TypeId × Value → H} {w : World} {base : Nat} {spare : Nat → Bool} {held : Bool}
theorem flat_bools (G : List Bool) : (G.flatMap fun b => [Value.bool b]) = bls G := by
  induction G with
  | nil => rfl
  | cons z zs ih => simp only [List.flatMap_cons, ih, bls, List.map_cons]; rfl
set_option maxRecDepth 100000 in
theorem cal_of {v : Value} {d : DataW H} {ps : List MemPlace} {r : Reach} {b0 : Nat} (hval : Value.okWide Tryd.prog w r b0 45 v) (hd : DataW.Trod enc Tryd.prog w base spare held 45 v d ps) :
    ∃ offs hol AO co AH ch, v = .agg #[.slice AO (List.length offs) co, .slice AH (List.length hol) ch] ∧ Dat w offs hol AO co AH ch := by
  obtain ⟨cs, rfl, hcs⟩ := okWide_struct Tryd.underlying45 hval
  rw [show Tryd.prog.cellsOf 45 = 2 from by kernel_rfl] at hcs
  obtain ⟨fuel, hf0⟩ := hd
  obtain ⟨l⟩ := cs
  have hl2 : l.length = 2 := by simpa using hcs
  obtain ⟨c0, c1, rfl⟩ := len2 hl2
  have hf1 : DataW.trod enc Tryd.prog w base spare held fuel 45 [c0, c1] = some (d, ps) := by simpa [Value.cells] using hf0
  obtain ⟨xs, m, _, hy, _, hx, hf⟩ := DataW.trod_struct Tryd.underlying45 hf1
  have f0 : DataW.trod enc Tryd.prog w base spare held m 42 (([c0, c1].drop 0).take (Tryd.prog.cellsOf 42)) = xs[0]? := hf 0 _ rfl
  have f1 : DataW.trod enc Tryd.prog w base spare held m 43 (([c0, c1].drop 1).take (Tryd.prog.cellsOf 43)) = xs[1]? := hf 1 _ rfl
  have hx3 : xs.length = 2 := by rw [hx]; rfl
  rw [List.getElem?_eq_getElem (by omega)] at f0 f1
  rw [show Tryd.prog.cellsOf 42 = 1 from by kernel_rfl] at f0
  rw [show Tryd.prog.cellsOf 43 = 1 from by kernel_rfl] at f1
  obtain ⟨A1, k1, d1, rfl⟩ := slice_form Tryd.underlying42 f0
  obtain ⟨A2, k2, d2, rfl⟩ := slice_form Tryd.underlying43 f1
  obtain ⟨G, rfl, a1, a2, a3, _⟩ := rows_of (f := fun b => [Value.bool b]) (Q := fun _ => True) (A := A1) (n := k1) (c := d1) (sz := 1) (by omega) (fun _ => rfl) Tryd.underlying42 (by kernel_rfl) (fun n cs y h => by
    obtain ⟨z, e, _⟩ := DataW.trod_bool Tryd.underlying4 h
    exact ⟨z, e, trivial⟩) f0
  obtain ⟨zs, rfl, b1, b2, b3, b4⟩ := rows_of (f := fun z => [Value.int .i64 z]) (Q := fun z => (Lit.int .i64 z).wf = true) (A := A2) (n := k2) (c := d2) (sz := 1) (by omega) (fun _ => rfl) Tryd.underlying43 (by kernel_rfl) (fun n cs y h => by
    obtain ⟨z, e, _, hw⟩ := DataW.trod_int Tryd.underlying3 h
    exact ⟨z, e, hw⟩) f1
  rw [flat_bools] at a3
  rw [flat_ints] at b3
  have hn := slice_nil Tryd.underlying43 (A := A2) (n := zs.length) (c := d2) f1
  exact ⟨G, zs, A1, d1, A2, d2, rfl, ⟨a3, b3, hn, by unfold maxLen at a2; omega, by unfold maxLen at b2; omega, b4⟩⟩
end
end Go.Proofs.YtnbpdknmbjkfeaaDoor.Open

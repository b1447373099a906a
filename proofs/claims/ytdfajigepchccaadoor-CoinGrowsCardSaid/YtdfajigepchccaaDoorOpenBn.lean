/- Bands among the arguments, opened. -/
import Derived.Test.YtdfajigepchccaaDoorOpen
import Derived.Test.YtdfajigepchccaaDoorBnW
namespace Go.Proofs.YtdfajigepchccaaDoor.Open
open Go.ChangeShapes Go.WideShapes Go.ChangeAt Go.RowKit Mem Bn Nest

section
variable {H : Type} {enc : TypeId × Value → H} {w : World} {base : Nat} {spare : Nat → Bool} {held : Bool}
theorem read_band (n : Nat) (cs : List Value) (y : DataW H × List MemPlace) (h : DataW.trod enc Tryd.prog w base spare held n 68 cs = some y) : ∃ r : Bd, cs = bdCells r ∧ True := by
  obtain ⟨xs, m, _, _, hl, hx, hf⟩ := DataW.trod_struct Tryd.underlying68 h
  have h3 : cs.length = 2 := by rw [hl]; kernel_rfl
  clear hl
  obtain ⟨c0, c1, rfl⟩ := len2 h3
  have f0 : DataW.trod enc Tryd.prog w base spare held m 3 (([c0, c1].drop 0).take (Tryd.prog.cellsOf 3)) = xs[0]? := hf 0 _ rfl
  have f1 : DataW.trod enc Tryd.prog w base spare held m 3 (([c0, c1].drop 1).take (Tryd.prog.cellsOf 3)) = xs[1]? := hf 1 _ rfl
  have hx3 : xs.length = 2 := by rw [hx]; rfl
  rw [List.getElem?_eq_getElem (by omega)] at f0 f1
  rw [show Tryd.prog.cellsOf 3 = 1 from by kernel_rfl] at f0 f1
  obtain ⟨n0, e0, _, _⟩ := DataW.trod_int Tryd.underlying3 f0
  obtain ⟨n1, e1, _, _⟩ := DataW.trod_int Tryd.underlying3 f1
  simp at e0 e1
  subst e0 e1
  exact ⟨(n0, n1), rfl, trivial⟩
theorem bands_of {A : Option Addr} {n c fuel : Nat} {x : DataW H × List MemPlace} (h : DataW.trod enc Tryd.prog w base spare held fuel 62 (Value.slice A n c).cells.toList = some x) :
    ∃ l : List Bd, n = l.length ∧ l.length ≤ c ∧ c ≤ maxLen ∧ Rd w A (l.flatMap bdCells) := by
  obtain ⟨l, h1, h2, h3, h4, _⟩ := rows_of (sz := 2) (by omega) bdCells_len Tryd.underlying62 (by kernel_rfl) read_band h
  exact ⟨l, h1, h2, h3, h4⟩
end
end Go.Proofs.YtdfajigepchccaaDoor.Open

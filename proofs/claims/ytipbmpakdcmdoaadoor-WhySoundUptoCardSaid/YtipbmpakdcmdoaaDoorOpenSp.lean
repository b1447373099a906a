/- A slice of steps among the arguments, opened. -/
import Derived.Test.YtipbmpakdcmdoaaDoorOpenN
import Derived.Test.YtipbmpakdcmdoaaDoorCheck
namespace Go.Proofs.YtipbmpakdcmdoaaDoor.Open
open Go.ChangeShapes Go.WideShapes Go.ChangeAt Go.RowKit Mem ChkW

section
variable {H : Type} {enc : TypeId × Value → H} {w : World} {base : Nat} {spare : Nat → Bool} {held : Bool}
theorem read_step (n : Nat) (cs : List Value) (y : DataW H × List MemPlace) (h : DataW.trod enc Tryd.prog w base spare held n 82 cs = some y) : ∃ r : Sp, cs = spCells r ∧ (Lit.int .i64 r.q).wf = true := by
  obtain ⟨xs, m, _, hy, hl, hx, hf⟩ := DataW.trod_struct Tryd.underlying82 h
  have h3 : cs.length = 3 := by rw [hl]; kernel_rfl
  clear hl
  obtain ⟨c0, c1, c2, rfl⟩ := len3 h3
  have f0 : DataW.trod enc Tryd.prog w base spare held m 4 (([c0, c1, c2].drop 0).take (Tryd.prog.cellsOf 4)) = xs[0]? := hf 0 _ rfl
  have f1 : DataW.trod enc Tryd.prog w base spare held m 4 (([c0, c1, c2].drop 1).take (Tryd.prog.cellsOf 4)) = xs[1]? := hf 1 _ rfl
  have f2 : DataW.trod enc Tryd.prog w base spare held m 3 (([c0, c1, c2].drop 2).take (Tryd.prog.cellsOf 3)) = xs[2]? := hf 2 _ rfl
  have hx3 : xs.length = 3 := by rw [hx]; rfl
  rw [List.getElem?_eq_getElem (by omega)] at f0 f1 f2
  rw [show Tryd.prog.cellsOf 4 = 1 from by kernel_rfl] at f0 f1
  rw [show Tryd.prog.cellsOf 3 = 1 from by kernel_rfl] at f2
  obtain ⟨b0, e0, _⟩ := DataW.trod_bool Tryd.underlying4 f0
  obtain ⟨b1, e1, _⟩ := DataW.trod_bool Tryd.underlying4 f1
  obtain ⟨n2, e2, _, hw⟩ := DataW.trod_int Tryd.underlying3 f2
  simp at e0 e1 e2
  subst e0 e1 e2
  exact ⟨⟨b0, b1, n2⟩, rfl, hw⟩
theorem stepsN {N : Nat} {A : Option Addr} {n c fuel : Nat} {x : DataW H × List MemPlace} (h : DataW.trod enc Tryd.prog w base spare held fuel 76 (Value.slice A n c).cells.toList = some x) (hx : Rows.uptoBulk x.1 ≤ N) :
    ∃ l : List Sp, n = l.length ∧ l.length ≤ N ∧ Rd w A (l.flatMap spCells) ∧ ∀ r ∈ l, (Lit.int .i64 r.q).wf = true := by
  obtain ⟨l, h1, _, _, h4, h5, h6⟩ := rows_ofN (f := spCells) (Q := fun z => (Lit.int .i64 z.q).wf = true) (sz := 3) (by omega) spCells_len Tryd.underlying76 (by kernel_rfl) (fun n cs y h _ => read_step n cs y h) h hx
  exact ⟨l, h1, h5, h4, h6⟩
end
end Go.Proofs.YtipbmpakdcmdoaaDoor.Open

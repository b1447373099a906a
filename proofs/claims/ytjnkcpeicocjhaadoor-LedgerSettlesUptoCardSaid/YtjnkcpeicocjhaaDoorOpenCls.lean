/- The claims among the arguments, opened. -/
import Derived.Test.YtjnkcpeicocjhaaDoorOpen
namespace Go.Proofs.YtjnkcpeicocjhaaDoor.Open
open Go.ChangeShapes Go.WideShapes Go.ChangeAt Go.RowKit Mem Pays Nest

section
variable {H : Type} {enc : TypeId × Value → H} {w : World} {base : Nat} {spare : Nat → Bool} {held : Bool}
theorem read_pay (n : Nat) (cs : List Value) (y : DataW H × List MemPlace) (h : DataW.trod enc Tryd.prog w base spare held n 123 cs = some y) : ∃ r : Pay, cs = payCells r ∧ True := by
  obtain ⟨xs, m, _, _, hl, hx, hf⟩ := DataW.trod_struct Tryd.underlying123 h
  have h3 : cs.length = 3 := by rw [hl]; kernel_rfl
  clear hl
  obtain ⟨c0, c1, c2, rfl⟩ := len3 h3
  · skip
    have f0 : DataW.trod enc Tryd.prog w base spare held m 3 (([c0, c1, c2].drop 0).take (Tryd.prog.cellsOf 3)) = xs[0]? := hf 0 _ rfl
    have f1 : DataW.trod enc Tryd.prog w base spare held m 3 (([c0, c1, c2].drop 1).take (Tryd.prog.cellsOf 3)) = xs[1]? := hf 1 _ rfl
    have f2 : DataW.trod enc Tryd.prog w base spare held m 3 (([c0, c1, c2].drop 2).take (Tryd.prog.cellsOf 3)) = xs[2]? := hf 2 _ rfl
    have hx3 : xs.length = 3 := by rw [hx]; rfl
    rw [List.getElem?_eq_getElem (by omega)] at f0 f1 f2
    rw [show Tryd.prog.cellsOf 3 = 1 from by kernel_rfl] at f0 f1 f2
    obtain ⟨n0, e0, _, _⟩ := DataW.trod_int Tryd.underlying3 f0
    obtain ⟨n1, e1, _, _⟩ := DataW.trod_int Tryd.underlying3 f1
    obtain ⟨n2, e2, _, _⟩ := DataW.trod_int Tryd.underlying3 f2
    simp at e0 e1 e2
    subst e0 e1 e2
    exact ⟨(n0, n1, n2), rfl, trivial⟩
theorem pays_of {A : Option Addr} {n c fuel : Nat} {x : DataW H × List MemPlace} (h : DataW.trod enc Tryd.prog w base spare held fuel 114 (Value.slice A n c).cells.toList = some x) :
    ∃ l : List Pay, n = l.length ∧ l.length ≤ c ∧ c ≤ maxLen ∧ Rd w A (l.flatMap payCells) := by
  obtain ⟨l, h1, h2, h3, h4, _⟩ := rows_of (sz := 3) (by omega) payCells_len Tryd.underlying114 (by kernel_rfl) read_pay h
  exact ⟨l, h1, h2, h3, h4⟩
theorem read_cl (n : Nat) (cs : List Value) (y : DataW H × List MemPlace) (h : DataW.trod enc Tryd.prog w base spare held n 116 cs = some y) :
    ∃ r : Cl, cs = clCells r ∧ Rd w r.A (r.dues.flatMap payCells) ∧ r.dues.length ≤ r.c ∧ r.c ≤ maxLen := by
  obtain ⟨xs, m, _, _, hl, hx, hf⟩ := DataW.trod_struct Tryd.underlying116 h
  have h2 : cs.length = 2 := by rw [hl]; kernel_rfl
  clear hl
  obtain ⟨c0, c1, rfl⟩ := len2 h2
  · skip
    have f0 : DataW.trod enc Tryd.prog w base spare held m 3 (([c0, c1].drop 0).take (Tryd.prog.cellsOf 3)) = xs[0]? := hf 0 _ rfl
    have f1 : DataW.trod enc Tryd.prog w base spare held m 114 (([c0, c1].drop 1).take (Tryd.prog.cellsOf 114)) = xs[1]? := hf 1 _ rfl
    have hx2 : xs.length = 2 := by rw [hx]; rfl
    rw [List.getElem?_eq_getElem (by omega)] at f0 f1
    rw [show Tryd.prog.cellsOf 3 = 1 from by kernel_rfl] at f0
    rw [show Tryd.prog.cellsOf 114 = 1 from by kernel_rfl] at f1
    obtain ⟨n0, e0, _, _⟩ := DataW.trod_int Tryd.underlying3 f0
    simp at e0
    subst e0
    obtain ⟨A, n, c, rfl⟩ : ∃ A n c, c1 = .slice A n c := by
      rcases DataW.trod_slice Tryd.underlying114 f1 with ⟨h0, _⟩ | ⟨a, len, cap, _, _, _, _, hcs, _⟩
      · simp at h0
        exact ⟨_, _, _, h0⟩
      · simp at hcs
        exact ⟨_, _, _, hcs⟩
    obtain ⟨l, rfl, h3, h4, h5⟩ := pays_of (A := A) (n := n) (c := c) f1
    exact ⟨⟨n0, l, A, c⟩, rfl, h5, h3, h4⟩
theorem cls_of {A : Option Addr} {n c fuel : Nat} {x : DataW H × List MemPlace} (h : DataW.trod enc Tryd.prog w base spare held fuel 42 (Value.slice A n c).cells.toList = some x) :
    ∃ l : List Cl, n = l.length ∧ l.length ≤ c ∧ c ≤ maxLen ∧ Cls w A l := by
  obtain ⟨l, h1, h2, h3, h4, h5⟩ := rows_of (sz := 2) (by omega) clCells_len Tryd.underlying42 (by kernel_rfl) read_cl h
  exact ⟨l, h1, h2, h3, h4, fun r hr => (h5 r hr).1, fun r hr => (h5 r hr).2⟩
end
end Go.Proofs.YtjnkcpeicocjhaaDoor.Open

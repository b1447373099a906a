/- Slices of structs among the arguments, opened, their lengths bounded by the reading's bulk. -/
import Derived.Test.YtjnkcpeicocjhaaDoorOpenCls
import Derived.Test.YtjnkcpeicocjhaaDoorRows
namespace Go.Proofs.YtjnkcpeicocjhaaDoor.Open
open Go.ChangeShapes Go.WideShapes Go.ChangeAt Go.RowKit Mem Pays Nest

section
variable {H : Type} {enc : TypeId × Value → H} {w : World} {base : Nat} {spare : Nat → Bool} {held : Bool}
theorem paysN {N : Nat} {A : Option Addr} {n c fuel : Nat} {x : DataW H × List MemPlace} (h : DataW.trod enc Tryd.prog w base spare held fuel 114 (Value.slice A n c).cells.toList = some x) (hx : Rows.uptoBulk x.1 ≤ N) :
    ∃ l : List Pay, n = l.length ∧ l.length ≤ c ∧ c ≤ maxLen ∧ Rd w A (l.flatMap payCells) ∧ l.length ≤ N := by
  obtain ⟨l, h1, h2, h3, h4, h5, _⟩ := rows_ofN (sz := 3) (by omega) payCells_len Tryd.underlying114 (by kernel_rfl) (fun n cs y h _ => read_pay n cs y h) h hx
  exact ⟨l, h1, h2, h3, h4, h5⟩
theorem read_clN {N : Nat} (n : Nat) (cs : List Value) (y : DataW H × List MemPlace) (h : DataW.trod enc Tryd.prog w base spare held n 116 cs = some y) (hN : Rows.uptoBulk y.1 ≤ N) :
    ∃ r : Cl, cs = clCells r ∧ Rd w r.A (r.dues.flatMap payCells) ∧ (r.dues.length ≤ r.c ∧ r.c ≤ maxLen) ∧ r.dues.length ≤ N := by
  obtain ⟨xs, m, _, hy, hl, hx, hf⟩ := DataW.trod_struct Tryd.underlying116 h
  have h2 : cs.length = 2 := by rw [hl]; kernel_rfl
  clear hl
  obtain ⟨c0, c1, rfl⟩ := len2 h2
  · skip
    have f0 : DataW.trod enc Tryd.prog w base spare held m 3 (([c0, c1].drop 0).take (Tryd.prog.cellsOf 3)) = xs[0]? := hf 0 _ rfl
    have f1 : DataW.trod enc Tryd.prog w base spare held m 114 (([c0, c1].drop 1).take (Tryd.prog.cellsOf 114)) = xs[1]? := hf 1 _ rfl
    have hx2 : xs.length = 2 := by rw [hx]; rfl
    rw [List.getElem?_eq_getElem (by omega)] at f0 f1
    rw [show Tryd.prog.cellsOf 3 = 1 from by kernel_rfl] at f0
    rw [show Tryd.prog.cellsOf 114 = 1 from by kernel_rfl] at f1
    obtain ⟨n0, e0, _, _⟩ := DataW.trod_int Tryd.underlying3 f0
    simp at e0
    subst e0
    obtain ⟨A, n, c, rfl⟩ : ∃ A n c, c1 = .slice A n c := by
      rcases DataW.trod_slice Tryd.underlying114 f1 with ⟨h0, _⟩ | ⟨a, len, cap, _, _, _, _, hcs, _⟩
      · simp at h0
        exact ⟨_, _, _, h0⟩
      · simp at hcs
        exact ⟨_, _, _, hcs⟩
    have hb : Rows.uptoBulk (xs[1]'(by omega)).1 ≤ N := by
      subst hy
      simp only [Rows.uptoBulk] at hN
      have := bulkAll_mem (xs.map (·.1)) _ (List.mem_map.2 ⟨_, List.getElem_mem (show 1 < xs.length by omega), rfl⟩)
      omega
    obtain ⟨l, rfl, h3, h4, h5, h6⟩ := paysN (A := A) (n := n) (c := c) f1 hb
    exact ⟨⟨n0, l, A, c⟩, rfl, h5, ⟨h3, h4⟩, h6⟩
theorem clsN {N : Nat} {A : Option Addr} {n c fuel : Nat} {x : DataW H × List MemPlace} (h : DataW.trod enc Tryd.prog w base spare held fuel 42 (Value.slice A n c).cells.toList = some x) (hx : Rows.uptoBulk x.1 ≤ N) :
    ∃ l : List Cl, n = l.length ∧ l.length ≤ c ∧ c ≤ maxLen ∧ Cls w A l ∧ l.length ≤ N ∧ ∀ r ∈ l, r.dues.length ≤ N := by
  obtain ⟨l, h1, h2, h3, h4, h6, h5⟩ := rows_ofN (sz := 2) (by omega) clCells_len Tryd.underlying42 (by kernel_rfl) read_clN h hx
  exact ⟨l, h1, h2, h3, ⟨h4, fun r hr => (h5 r hr).1, fun r hr => (h5 r hr).2.1⟩, h6, fun r hr => (h5 r hr).2.2⟩
end
end Go.Proofs.YtjnkcpeicocjhaaDoor.Open

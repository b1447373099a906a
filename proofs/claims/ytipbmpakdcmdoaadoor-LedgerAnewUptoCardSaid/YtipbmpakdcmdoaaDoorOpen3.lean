/- Slices of structs among the arguments, opened, their lengths bounded by the reading's bulk. -/
import Derived.Test.YtipbmpakdcmdoaaDoorOpenCls
import Derived.Test.YtipbmpakdcmdoaaDoorRows
namespace Go.Proofs.YtipbmpakdcmdoaaDoor.Open
open Go.ChangeShapes Go.WideShapes Go.ChangeAt Go.RowKit Mem Pays Nest

section
variable {H : Type}
theorem bulk_pos (d : DataW H) : 1 ≤ Rows.uptoBulk d := by
  cases d with
  | lit l => cases l <;> simp [Rows.uptoBulk]
  | _ => simp [Rows.uptoBulk]
theorem bulkAll_len : ∀ (l : List (DataW H)), l.length ≤ Rows.uptoBulkAll l
  | [] => by simp
  | d :: r => by
    have h1 := bulk_pos d
    have h2 := bulkAll_len r
    simp only [Rows.uptoBulkAll, List.length_cons]
    omega
theorem bulkAll_mem : ∀ (l : List (DataW H)) (d : DataW H), d ∈ l → Rows.uptoBulk d ≤ Rows.uptoBulkAll l
  | [], d, h => by cases h
  | x :: r, d, h => by
    simp only [Rows.uptoBulkAll]
    rcases List.mem_cons.1 h with rfl | h
    · omega
    · have := bulkAll_mem r d h
      omega
end
section
variable {H : Type} {enc : TypeId × Value → H} {P : Program} {w : World} {base : Nat} {spare : Nat → Bool} {held : Bool}
/-- a slice came in, whose elements are read by a reader of the element's type -/
theorem rows_ofN {N : Nat} {α : Type} {f : α → List Value} {Q : α → Prop} {sz : Nat} {t e : TypeId} (hsz : 0 < sz) (hf : ∀ x, (f x).length = sz) (ht : P.underlying t = some (.slice e)) (hc : P.cellsOf e = sz)
    (hread : ∀ n cs y, DataW.trod enc P w base spare held n e cs = some y → Rows.uptoBulk y.1 ≤ N → ∃ r, cs = f r ∧ Q r)
    {A : Option Addr} {n c fuel : Nat} {x : DataW H × List MemPlace} (h : DataW.trod enc P w base spare held fuel t (Value.slice A n c).cells.toList = some x) (hx : Rows.uptoBulk x.1 ≤ N) :
    ∃ l : List α, n = l.length ∧ l.length ≤ c ∧ c ≤ maxLen ∧ Rd w A (l.flatMap f) ∧ l.length ≤ N ∧ ∀ r ∈ l, Q r := by
  rcases DataW.trod_slice ht h with ⟨h0, _⟩ | ⟨a, len, cap, elems, rest, m, _, hcs, hxe, _, hl, hm, hlen, hel, _, _⟩
  · simp [Value.cells] at h0
    obtain ⟨rfl, rfl, rfl⟩ := h0
    exact ⟨[], rfl, by simp, by simp [maxLen], Rd.nil, by simp, by simp⟩
  · simp [Value.cells] at hcs
    obtain ⟨rfl, rfl, rfl⟩ := hcs
    subst hxe
    simp only [Rows.uptoBulk] at hx
    have hle : elems.length ≤ N := by
      have := bulkAll_len (elems.map (·.1))
      rw [List.length_map] at this
      omega
    have each : ∀ i, i < n → ∃ r, w.cells? base (a.add (i * sz)) sz = some (f r) ∧ Q r := by
      intro i hi
      have hb := hel i hi
      rw [hc, List.getElem?_eq_getElem (by omega), Option.bind_eq_some_iff] at hb
      obtain ⟨cs, h1, h2⟩ := hb
      obtain ⟨r, rfl, hq⟩ := hread _ _ _ h2 (by
        have := bulkAll_mem (elems.map (·.1)) _ (List.mem_map.2 ⟨_, List.getElem_mem (show i < elems.length by omega), rfl⟩)
        omega)
      exact ⟨r, h1, hq⟩
    obtain ⟨l, hll, hp⟩ := pick n each
    refine ⟨l, hll.symm, by omega, hm, ?_, by omega, fun r hr => ?_⟩
    · intro j u hj
      have hjl : j < l.length * sz := by
        have := (List.getElem?_eq_some_iff.1 hj).1
        rwa [flat_len hf] at this
      have hk : j / sz < l.length := (Nat.div_lt_iff_lt_mul hsz).2 hjl
      have hm' : j % sz < sz := Nat.mod_lt _ hsz
      have hsplit : j / sz * sz + j % sz = j := Nat.div_add_mod' j sz
      have hcell := (World.cells?_some (hp (j / sz) _ (List.getElem?_eq_getElem hk)).1).2.2 (j % sz) hm'
      have hv : (f l[j / sz])[j % sz]? = some u := by
        have := flat_at hf l (j / sz) (j % sz) hm'
        rw [hsplit, hj, List.getElem?_eq_getElem hk] at this
        exact this.symm
      rw [hv, Addr.add_add, hsplit] at hcell
      obtain ⟨b, off, spot⟩ := a
      have hpos : 0 < l.length := Nat.lt_of_le_of_lt (Nat.zero_le _) hk
      have h0 := (World.cells?_some (hp 0 _ (List.getElem?_eq_getElem hpos)).1).2.2 0 hsz
      have hv0 : (f (l[0]'hpos))[0]? = some ((f (l[0]'hpos))[0]'(by rw [hf]; exact hsz)) := List.getElem?_eq_getElem _
      rw [hv0] at h0
      have hs := World.cell?_spot h0
      have : spot = none := by simpa [Addr.add] using hs
      subst this
      rw [add_plain] at hcell
      exact ⟨b, off, rfl, hcell⟩
    · obtain ⟨i, hi⟩ := List.getElem?_of_mem hr
      exact (hp i r hi).2
end
section
variable {H : Type} {enc : TypeId × Value → H} {w : World} {base : Nat} {spare : Nat → Bool} {held : Bool}
theorem paysN {N : Nat} {A : Option Addr} {n c fuel : Nat} {x : DataW H × List MemPlace} (h : DataW.trod enc Tryd.prog w base spare held fuel 45 (Value.slice A n c).cells.toList = some x) (hx : Rows.uptoBulk x.1 ≤ N) :
    ∃ l : List Pay, n = l.length ∧ l.length ≤ c ∧ c ≤ maxLen ∧ Rd w A (l.flatMap payCells) ∧ l.length ≤ N := by
  obtain ⟨l, h1, h2, h3, h4, h5, _⟩ := rows_ofN (sz := 3) (by omega) payCells_len Tryd.underlying45 (by kernel_rfl) (fun n cs y h _ => read_pay n cs y h) h hx
  exact ⟨l, h1, h2, h3, h4, h5⟩
theorem read_clN {N : Nat} (n : Nat) (cs : List Value) (y : DataW H × List MemPlace) (h : DataW.trod enc Tryd.prog w base spare held n 47 cs = some y) (hN : Rows.uptoBulk y.1 ≤ N) :
    ∃ r : Cl, cs = clCells r ∧ Rd w r.A (r.dues.flatMap payCells) ∧ (r.dues.length ≤ r.c ∧ r.c ≤ maxLen) ∧ r.dues.length ≤ N := by
  obtain ⟨xs, m, _, hy, hl, hx, hf⟩ := DataW.trod_struct Tryd.underlying47 h
  have h2 : cs.length = 2 := by rw [hl]; kernel_rfl
  clear hl
  obtain ⟨c0, c1, rfl⟩ := len2 h2
  · skip
    have f0 : DataW.trod enc Tryd.prog w base spare held m 3 (([c0, c1].drop 0).take (Tryd.prog.cellsOf 3)) = xs[0]? := hf 0 _ rfl
    have f1 : DataW.trod enc Tryd.prog w base spare held m 45 (([c0, c1].drop 1).take (Tryd.prog.cellsOf 45)) = xs[1]? := hf 1 _ rfl
    have hx2 : xs.length = 2 := by rw [hx]; rfl
    rw [List.getElem?_eq_getElem (by omega)] at f0 f1
    rw [show Tryd.prog.cellsOf 3 = 1 from by kernel_rfl] at f0
    rw [show Tryd.prog.cellsOf 45 = 1 from by kernel_rfl] at f1
    obtain ⟨n0, e0, _, _⟩ := DataW.trod_int Tryd.underlying3 f0
    simp at e0
    subst e0
    obtain ⟨A, n, c, rfl⟩ : ∃ A n c, c1 = .slice A n c := by
      rcases DataW.trod_slice Tryd.underlying45 f1 with ⟨h0, _⟩ | ⟨a, len, cap, _, _, _, _, hcs, _⟩
      · simp at h0
        exact ⟨_, _, _, h0⟩
      · simp at hcs
        exact ⟨_, _, _, hcs⟩
    have hb : Rows.uptoBulk (xs[1]'(by omega)).1 ≤ N := by
      subst hy
      simp only [Rows.uptoBulk] at hN
      have := bulkAll_mem (xs.map (·.1)) _ (List.mem_map.2 ⟨_, List.getElem_mem (show 1 < xs.length by omega), rfl⟩)
      omega
    obtain ⟨l, rfl, h3, h4, h5, h6⟩ := paysN (A := A) (n := n) (c := c) f1 hb
    exact ⟨⟨n0, l, A, c⟩, rfl, h5, ⟨h3, h4⟩, h6⟩
theorem clsN {N : Nat} {A : Option Addr} {n c fuel : Nat} {x : DataW H × List MemPlace} (h : DataW.trod enc Tryd.prog w base spare held fuel 30 (Value.slice A n c).cells.toList = some x) (hx : Rows.uptoBulk x.1 ≤ N) :
    ∃ l : List Cl, n = l.length ∧ l.length ≤ c ∧ c ≤ maxLen ∧ Cls w A l ∧ l.length ≤ N ∧ ∀ r ∈ l, r.dues.length ≤ N := by
  obtain ⟨l, h1, h2, h3, h4, h6, h5⟩ := rows_ofN (sz := 2) (by omega) clCells_len Tryd.underlying30 (by kernel_rfl) read_clN h hx
  exact ⟨l, h1, h2, h3, ⟨h4, fun r hr => (h5 r hr).1, fun r hr => (h5 r hr).2.1⟩, h6, fun r hr => (h5 r hr).2.2⟩
end
end Go.Proofs.YtipbmpakdcmdoaaDoor.Open

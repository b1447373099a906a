/- Gaps: what is kept of rows while others are built; an append onto an empty slice that is no nil. -/
import Derived.Test.YtjfiodknjchngaaDoorGpN
import Derived.Test.YtjfiodknjchngaaDoorApp
import Derived.Deep.DeepAppendRoom
import Derived.Laws.AppendOwn
namespace Go.Proofs.YtjfiodknjchngaaDoor.Gp
open Go.RowKit Mem Nest Fk App

/-- every block stays whose kind is none of these -/
structure Kp (S : TypeId → Prop) (w w' : World) : Prop where
  size : w.heap.size ≤ w'.heap.size
  block : ∀ (k : Nat) (c : Array Value) (T : TypeId) (fz : Nat × Nat), w.heap[k]? = some (.cells c T fz) → ¬ S T → w'.heap[k]? = some (.cells c T fz)
variable {S : TypeId → Prop} {w w' w1 : World}
theorem Kp.refl (S : TypeId → Prop) (w : World) : Kp S w w := ⟨Nat.le_refl _, fun _ _ _ _ h _ => h⟩
theorem Kp.trans (h : Kp S w w1) (k : Kp S w1 w') : Kp S w w' := ⟨Nat.le_trans h.size k.size, fun b c T fz hb hT => k.block b c T fz (h.block b c T fz hb hT) hT⟩
theorem Kp.of (S : TypeId → Prop) (hb : Below w.heap.size w w') : Kp S w w' := ⟨hb.size, fun k c T fz hk _ => by rw [hb.block k (Array.getElem?_eq_some_iff.1 hk).1]; exact hk⟩
theorem Kp.set {B : Nat} {T : TypeId} {cs : List Value} (h : Blk w B T cs) (hT : S T) (j : Nat) (v : Value) : Kp S w (w.setCell ⟨B, j, none⟩ v) := by
  refine ⟨by simp, fun k c T' fz hk hS => ?_⟩
  have hne : k ≠ B := by
    rintro rfl
    unfold Blk at h
    rw [h] at hk
    simp only [Option.some.injEq, Obj.cells.injEq] at hk
    exact hS (hk.2.1 ▸ hT)
  rw [← hk]
  simp [World.setCell, Array.getElem?_modify, Ne.symm hne]
theorem Kp.grown {base size n : Nat} {e : TypeId} {v : Value} {xs : List Value} (ho : w.ownsRow base e size v n xs) (hg : w.grownBy w' v.ownBlock) (he : S e) : Kp S w w' := by
  have hk := Lib.ownsRow_kind ho
  refine ⟨hg.size, fun k c T fz hb hS => ?_⟩
  have hne : some k ≠ v.ownBlock := by
    intro e1
    obtain ⟨c', fz', h'⟩ := hk k e1.symm
    rw [hb] at h'
    simp only [Option.some.injEq, Obj.cells.injEq] at h'
    exact hS (h'.2.1 ▸ he)
  rw [hg.block k (Array.getElem?_eq_some_iff.1 hb).1 hne]
  exact hb
theorem Kp.rdk (h : Kp S w w') {e : TypeId} {A : Option Addr} {cs : List Value} (hr : RdK w e A cs) (he : ¬ S e) : RdK w' e A cs := fun j u hj => by
  obtain ⟨b, o, e1, hc, c, fz, hb⟩ := hr j u hj
  have hb' := h.block b c e fz hb he
  refine ⟨b, o, e1, ?_, c, fz, hb'⟩
  rw [World.cell?_of_block (w := w) (by rw [hb, hb'])]
  exact hc
theorem Kp.blk (h : Kp S w w') {B : Nat} {T : TypeId} {cs : List Value} (hb : Blk w B T cs) (hT : ¬ S T) : Blk w' B T cs := h.block _ _ _ _ hb hT
theorem blk_ext5 {B : Nat} {T : TypeId} {cs : List Value} (h : Blk w B T cs) (hb : Below w.heap.size w w') : Blk w' B T cs := h.ext (hb.mono (show B + 1 ≤ _ from h.lt))
theorem blk_set5 {B : Nat} {T : TypeId} {cs : List Value} (h : Blk w B T cs) {a : Addr} (ha : B ≠ a.block) (v : Value) : Blk (w.setCell a v) B T cs := by
  unfold Blk at h ⊢
  rw [← h]
  simp [World.setCell, Array.getElem?_modify, Ne.symm ha]
theorem ext_grown5 (hg : w.grownBy w1 (Value.slice none 0 0).ownBlock) : Below w.heap.size w w1 := (Below.refl _ w).grown hg (Nat.le_refl _) fun k hk => by cases hk
/-- a cell, a row, a question of the program's table that is built -/
structure CelK (w : World) (x : CellM) : Prop where
  ints : RdK w 3 x.A (ints (x.l.getD []))
  isnil : x.l = none → x.A = none ∧ x.c = 0
  isrow : x.l ≠ none → x.A ≠ none
  len : (x.l.getD []).length ≤ 1048576
structure RoK (w : World) (m : RwM) : Prop where
  row : RdK w 46 m.A (m.cells.map cellV)
  cells : ∀ x ∈ m.cells, CelK w x
structure QnK (w : World) (q : QnM) : Prop where
  ans : RdK w 9 q.A (strsV q.ans)
  cap : q.ans.length ≤ q.c
theorem CelK.kp {x : CellM} (h : CelK w x) (k : Kp S w w') (h1 : ¬ S 3) : CelK w' x := ⟨k.rdk h.ints h1, h.isnil, h.isrow, h.len⟩
theorem RoK.kp {m : RwM} (h : RoK w m) (k : Kp S w w') (h1 : ¬ S 3) (h2 : ¬ S 46) : RoK w' m := ⟨k.rdk h.row h2, fun x hx => (h.cells x hx).kp k h1⟩
theorem QnK.kp {q : QnM} (h : QnK w q) (k : Kp S w w') (h1 : ¬ S 9) : QnK w' q := ⟨k.rdk h.ans h1, h.cap⟩
theorem RoK.cellsP {m : RwM} (h : RoK w m) : CellsP w m.A m.cells := ⟨h.row.rd, fun x hx => (h.cells x hx).ints.rd, fun x hx => (h.cells x hx).isnil, fun x hx => (h.cells x hx).isrow, fun x hx => (h.cells x hx).len⟩
/-- an append onto an empty slice that is no nil: it is none behind it -/
theorem wpList_append_lit {P : Program} (w : World) {ops : Array Oper} {rest : List Oper} {o : Oper} {a : Act} {Q : Exit → Act → World → Prop} (hgd : o.guard = none) (s x : Operand) (t : TypeId)
    (ho : o.op = .call { callee := .builtin .append, args := #[s, x], argTypes := #[t, t] })
    (base : Nat) (e : TypeId) (i : TypeInfo) (z : Value) (size bytes : Nat) (ht : P.underlying t = some (.slice e)) (hi : P.info? e = some i) (hz : i.zero = some z)
    (hsize : i.size = size) (hby : i.bytes = bytes) (hzs : z.cells.size = size) (hsz : 0 < size)
    (g : Nat) (hs : a.eval s = .slice (some ⟨g, 0, none⟩) 0 0) (hown : w.ownsRow base e size (.slice (some ⟨g, 0, none⟩) 0 0) 0 [])
    (A : Option Addr) (m c : Nat) (news : List Value) (hx : a.eval x = .slice A m c) (hnil : A = none → c = 0) (hl : news.length = m * size) (hr : Rd w A news) (h1 : ∀ u ∈ news, u.oneCell' = true)
    (h63 : m ≤ maxLen) (hbytes : m * bytes ≤ 140737488355328) (hbase : base ≤ w.heap.size)
    (h : ∀ A' c' w', A' ≠ none → w'.ownsRow base e size (.slice A' m c') m news → w.grownBy w' (some g) → wpList P ops Q rest (a.put o.dst (.slice A' m c')) w') : wpList P ops Q (o :: rest) a w := by
  have hgn : w.grownBy w (some g) := ⟨rfl, rfl, rfl, Nat.le_refl _, fun _ _ _ => rfl⟩
  cases A with
  | none =>
    have hc := hnil rfl
    subst hc
    have hn : news = [] := by
      cases news with
      | nil => rfl
      | cons u us =>
        obtain ⟨b, o, e, _⟩ := hr 0 u rfl
        cases e
    subst hn
    have hm : m = 0 := by
      rcases Nat.mul_eq_zero.1 hl.symm with h | h
      · exact h
      · omega
    subst hm
    exact wpList_append_own_none hgd s x t ho base e i size ht hi _ 0 [] hs hown hx (h _ _ w (by simp) hown hgn)
  | some ad =>
    by_cases hm : m = 0
    · subst hm
      exact wpList_append_own_spare w hgd s x t ho base e i size ht hi hsize g 0 0 [] hs hown ad 0 c news hx hl (rd_news hr) h1 (by omega) fun w2 h2 h3 => by
        rw [Nat.zero_add, List.nil_append] at *
        exact h _ _ w2 (by simp) h2 h3
    · refine wpList_append_own w hgd s x t ho base e i z size bytes ht hi hz hsize hby hzs hsz (.slice (some ⟨g, 0, none⟩) 0 0) 0 [] hs hown ad m c news hx hl (rd_news hr) h1 (by omega) (by rw [Nat.zero_add]; exact hbytes) hbase fun v2 w2 h2 h3 _ => ?_
      rw [Nat.zero_add, List.nil_append] at h2
      obtain ⟨A2, c2, rfl, _, _⟩ := own_slice h2
      refine h A2 c2 w2 ?_ h2 h3
      rintro rfl
      have hlen := h2.1
      have hpos : 0 < news.length := by rw [hl]; exact Nat.mul_pos (by omega) hsz
      obtain ⟨b, o2, e2, _⟩ := Rd.of_own h2 0 news[0] (by simp [hpos])
      cases e2
end Go.Proofs.YtjfiodknjchngaaDoor.Gp

/- Rows of rows in memory: claims, each a day and what is due; rows told by their element's type. -/
import Derived.Test.YtflklbhgjfonbaaGreatDoorMem
import Derived.Test.YtflklbhgjfonbaaGreatDoorPays
import Derived.Lib.OwnKind
namespace Go.Proofs.YtflklbhgjfonbaaGreatDoor.Nest
open Go.RowKit Mem Pays

section
variable {w w' w1 : World} {base : Nat} {e e' : TypeId} {size n c : Nat} {v : Value} {xs cs : List Value} {A : Option Addr}
theorem own_ext (h : w.ownsRow base e size v n xs) (hb : Below w.heap.size w w') : w'.ownsRow base e size v n xs :=
  h.kept (row := none) ⟨hb.os, hb.tape, hb.output, hb.size, fun k hk _ => hb.block k hk⟩ (by cases v.ownBlock <;> simp)
theorem own_slice (h : w.ownsRow base e size v n xs) : ∃ A c, v = .slice A n c ∧ n ≤ c ∧ c ≤ maxLen := by
  rcases h.2 with ⟨h1, h2⟩ | ⟨g, cap, cur, h1, _, _, h2, h3, _⟩
  · exact ⟨none, 0, by rw [h2]; exact h1, by omega, by simp [maxLen]⟩
  · exact ⟨_, cap, h1, h2, h3⟩
/-- these cells lie in a block of this element type -/
def RdK (w : World) (e : TypeId) (A : Option Addr) (cs : List Value) : Prop :=
  ∀ j u, cs[j]? = some u → ∃ b o, A = some ⟨b, o, none⟩ ∧ w.cell? ⟨b, o + j, none⟩ = some u ∧ ∃ c fz, w.heap[b]? = some (.cells c e fz)
theorem RdK.rd (h : RdK w e A cs) : Rd w A cs := fun j u hj => by
  obtain ⟨b, o, e1, hc, _⟩ := h j u hj
  exact ⟨b, o, e1, hc⟩
theorem RdK.ext (h : RdK w e A cs) (hb : Below w.heap.size w w') : RdK w' e A cs := fun j u hj => by
  obtain ⟨b, o, e1, hc, c, fz, hk⟩ := h j u hj
  exact ⟨b, o, e1, cell_ext hb hc, c, fz, by rw [hb.block b (cell_lt hc)]; exact hk⟩
theorem RdK.grown {row : Option Nat} (h : RdK w e A cs) (hg : w.grownBy w1 row) (hk : ∀ g, row = some g → ∃ c fz, w.heap[g]? = some (.cells c e' fz)) (hne : e' ≠ e) : RdK w1 e A cs := fun j u hj => by
  obtain ⟨b, o, e1, hc, c, fz, hb⟩ := h j u hj
  have hrow : some b ≠ row := by
    intro he
    obtain ⟨c', fz', h'⟩ := hk b he.symm
    rw [hb] at h'
    simp only [Option.some.injEq, Obj.cells.injEq] at h'
    exact hne h'.2.1.symm
  exact ⟨b, o, e1, hg.cell hc hrow, c, fz, by rw [hg.block b (cell_lt hc) hrow]; exact hb⟩
theorem RdK.of_own (h : w.ownsRow base e size (.slice A n c) n xs) : RdK w e A xs := fun j u hj => by
  obtain ⟨b, o, rfl, hc⟩ := (Rd.of_own h) j u hj
  exact ⟨b, o, rfl, hc, Lib.ownsRow_kind h b rfl⟩
/-- a block of the call's own, known whole -/
def Blk (w : World) (B : Nat) (T : TypeId) (cs : List Value) : Prop := w.heap[B]? = some (.cells cs.toArray T (0, 0))
theorem Blk.cell {B : Nat} {T : TypeId} (h : Blk w B T cs) (j : Nat) {u : Value} (hj : cs[j]? = some u) : w.cell? ⟨B, j, none⟩ = some u := by
  unfold Blk at h
  rw [cell_of_row w B j cs.toArray T (0, 0) h]
  simpa using hj
theorem Blk.free {B : Nat} {T : TypeId} (h : Blk w B T cs) (j : Nat) : w.frozen? ⟨B, j, none⟩ = false := by
  unfold Blk at h
  simp [World.frozen?, h]
theorem Blk.set {B : Nat} {T : TypeId} (h : Blk w B T cs) (j : Nat) (u : Value) : Blk (w.setCell ⟨B, j, none⟩ u) B T (cs.set j u) := by
  unfold Blk at h ⊢
  simp [World.setCell, Array.getElem?_modify, h]
theorem Blk.ext {B : Nat} {T : TypeId} (h : Blk w B T cs) (hb : Below (B + 1) w w1) : Blk w1 B T cs := by
  unfold Blk at h ⊢
  rw [hb.block B (by omega)]
  exact h
theorem Blk.lt {B : Nat} {T : TypeId} (h : Blk w B T cs) : B < w.heap.size := (Array.getElem?_eq_some_iff.1 h).1
theorem Blk.new (w : World) (T : TypeId) (cs : List Value) : Blk (w.alloc (.cells cs.toArray T)) w.heap.size T cs := by
  unfold Blk
  exact heap_alloc_new w _
theorem RdK.nil : RdK w e A [] := fun j u hj => by simp at hj
end

/-- a claim: its day, what is due, and where that lies -/
structure Cl where
  day : Int
  dues : List Pay
  A : Option Addr
  c : Nat
def clCells (r : Cl) : List Value := [.int .i64 r.day, .slice r.A r.dues.length r.c]
theorem clCells_len (r : Cl) : (clCells r).length = 2 := rfl
def Cl.key (r : Cl) : Int × List Pay := (r.day, r.dues)
structure Cls (w : World) (A : Option Addr) (rs : List Cl) : Prop where
  rows : Rd w A (rs.flatMap clCells)
  dues : ∀ r ∈ rs, Rd w r.A (r.dues.flatMap payCells)
  cap : ∀ r ∈ rs, r.dues.length ≤ r.c ∧ r.c ≤ maxLen
theorem Cls.ext {w w' : World} {A : Option Addr} {rs : List Cl} (h : Cls w A rs) (hb : Below w.heap.size w w') : Cls w' A rs :=
  ⟨h.rows.ext hb, fun r hr => (h.dues r hr).ext hb, h.cap⟩
theorem Cls.row {w : World} {A : Option Addr} {rs : List Cl} (h : Cls w A rs) {k : Nat} (hk : k < rs.length) :
    ∃ b o, A = some ⟨b, o, none⟩ ∧ w.cell? ⟨b, o + k * 2, none⟩ = some (.int .i64 rs[k].day) ∧ w.cell? ⟨b, o + k * 2 + 1, none⟩ = some (.slice rs[k].A rs[k].dues.length rs[k].c) := by
  obtain ⟨b, o, e, hc⟩ := h.rows.row clCells_len hk (by omega)
  exact ⟨b, o, e, by simpa using hc 0 _ rfl, by simpa [Nat.add_assoc] using hc 1 _ rfl⟩
theorem pay_at {w : World} {A : Option Addr} {ps : List Pay} (h : Rd w A (ps.flatMap payCells)) {k : Nat} (hk : k < ps.length) :
    ∃ b o, A = some ⟨b, o, none⟩ ∧ w.cell? ⟨b, o + k * 3, none⟩ = some (.int .i64 ps[k].1) ∧ w.cell? ⟨b, o + k * 3 + 1, none⟩ = some (.int .i64 ps[k].2.1) ∧ w.cell? ⟨b, o + k * 3 + 2, none⟩ = some (.int .i64 ps[k].2.2) := by
  obtain ⟨b, o, e, hc⟩ := h.row payCells_len hk (by omega)
  exact ⟨b, o, e, by simpa using hc 0 _ rfl, by simpa [Nat.add_assoc] using hc 1 _ rfl, by simpa [Nat.add_assoc] using hc 2 _ rfl⟩
end Go.Proofs.YtflklbhgjfonbaaGreatDoor.Nest

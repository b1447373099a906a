/- Theories in memory; ContainsFunc over integers and over rules with any closure. -/
import Derived.Test.YtjfiodknjchngaaGreatDoorMem
import Derived.Test.YtjfiodknjchngaaGreatDoorThy
import Derived.Test.YtjfiodknjchngaaGreatDoorNest
import Derived.Test.YtjfiodknjchngaaGreatDoorDay
namespace Go.Proofs.YtjfiodknjchngaaGreatDoor.Thm
open Go.RowKit Mem Thy Nest Day

/-- a rule, and where its body lies -/
structure Rw where
  kind : Int
  head : Int
  body : List Int
  A : Option Addr
  c : Nat
def Rw.rl (r : Rw) : Rl := ⟨r.kind, r.head, r.body⟩
def rwCells (r : Rw) : List Value := [.int .i64 r.kind, .int .i64 r.head, .slice r.A r.body.length r.c]
theorem rwCells_len (r : Rw) : (rwCells r).length = 3 := rfl
structure Rws (w : World) (A : Option Addr) (rs : List Rw) : Prop where
  rows : Rd w A (rs.flatMap rwCells)
  bods : ∀ r ∈ rs, Rd w r.A (ints r.body)
  lens : ∀ r ∈ rs, r.body.length ≤ r.c ∧ r.c ≤ maxLen
  len : rs.length ≤ maxLen
theorem Rws.ext {w w' : World} {A : Option Addr} {rs : List Rw} (h : Rws w A rs) (hb : Below w.heap.size w w') : Rws w' A rs :=
  ⟨h.rows.ext hb, fun r hr => (h.bods r hr).ext hb, h.lens, h.len⟩
theorem Rws.row {w : World} {A : Option Addr} {rs : List Rw} (h : Rws w A rs) {k : Nat} (hk : k < rs.length) :
    ∃ b o, A = some ⟨b, o, none⟩ ∧ w.cell? ⟨b, o + k * 3, none⟩ = some (.int .i64 rs[k].kind) ∧ w.cell? ⟨b, o + k * 3 + 1, none⟩ = some (.int .i64 rs[k].head) ∧ w.cell? ⟨b, o + k * 3 + 2, none⟩ = some (.slice rs[k].A rs[k].body.length rs[k].c) := by
  obtain ⟨b, o, e, hc⟩ := h.rows.row rwCells_len hk (by omega)
  exact ⟨b, o, e, by simpa using hc 0 _ rfl, by simpa [Nat.add_assoc] using hc 1 _ rfl, by simpa [Nat.add_assoc] using hc 2 _ rfl⟩
def prCells (p : Int × Int) : List Value := [.int .i64 p.1, .int .i64 p.2]
theorem prCells_len (p : Int × Int) : (prCells p).length = 2 := rfl
theorem pair_at {w : World} {A : Option Addr} {ps : List (Int × Int)} (h : Rd w A (ps.flatMap prCells)) {k : Nat} (hk : k < ps.length) :
    ∃ b o, A = some ⟨b, o, none⟩ ∧ w.cell? ⟨b, o + k * 2, none⟩ = some (.int .i64 ps[k].1) ∧ w.cell? ⟨b, o + k * 2 + 1, none⟩ = some (.int .i64 ps[k].2) := by
  obtain ⟨b, o, e, hc⟩ := h.row prCells_len hk (by omega)
  exact ⟨b, o, e, by simpa using hc 0 _ rfl, by simpa [Nat.add_assoc] using hc 1 _ rfl⟩
/-- the row lies below a block -/
def LowA (n : Nat) (A : Option Addr) (cs : List Value) : Prop := cs ≠ [] → ∃ b o, A = some ⟨b, o, none⟩ ∧ b < n
theorem LowA.of_rd {w : World} {A : Option Addr} {cs : List Value} (h : Rd w A cs) : LowA w.heap.size A cs := fun hne => by
  obtain ⟨b, o, e, hc⟩ := h.at_ (k := 0) (List.length_pos_iff.2 hne)
  exact ⟨b, o, e, cell_lt hc⟩
theorem LowA.mono {n m : Nat} {A : Option Addr} {cs : List Value} (h : LowA n A cs) (hm : n ≤ m) : LowA m A cs := fun hne => by
  obtain ⟨b, o, e, hl⟩ := h hne
  exact ⟨b, o, e, by omega⟩
theorem cell_set_other {w : World} {p a : Addr} {u : Value} (h : w.cell? p = some u) (hne : p.block ≠ a.block) (v : Value) : (w.setCell a v).cell? p = some u := by
  rw [← h]
  simp [World.cell?, World.setCell, Array.getElem?_modify, Ne.symm hne]
theorem rd_set {w : World} {A : Option Addr} {cs : List Value} {n : Nat} (h : Rd w A cs) (l : LowA n A cs) {a : Addr} (ha : n ≤ a.block) (v : Value) : Rd (w.setCell a v) A cs := fun j u hj => by
  obtain ⟨b, o, e, hc⟩ := h j u hj
  obtain ⟨b', o', e', hl⟩ := l (by rintro rfl; simp at hj)
  rw [e] at e'
  simp only [Option.some.injEq, Addr.mk.injEq, and_true] at e'
  obtain ⟨rfl, rfl⟩ := e'
  exact ⟨b, o, e, cell_set_other hc (show b ≠ a.block by omega) v⟩
theorem blk_set {w : World} {B : Nat} {T : TypeId} {cs : List Value} (h : Blk w B T cs) {a : Addr} (ha : B ≠ a.block) (v : Value) : Blk (w.setCell a v) B T cs := by
  unfold Blk at h ⊢
  simp [World.setCell, Array.getElem?_modify, h, Ne.symm ha]
/-- a truth value comes back; nothing that was has turned -/
def BoolOf (w : World) (p : Prop) (e : Ending) (w' : World) : Prop := ∃ b : Bool, e = .returned (.bool b) ∧ (b = true ↔ p) ∧ Below w.heap.size w w'
def FoundP {α : Type} (p : α → Prop) (l : List α) (r : Int) : Prop := (0 ≤ r ↔ ∃ x ∈ l, p x)
def IdxOf {α : Type} (p : α → Prop) (l : List α) (w : World) (e : Ending) (w' : World) : Prop := ∃ r : Int, e = .returned (.int .i64 r) ∧ FoundP p l r ∧ Below w.heap.size w w'
def Keeps (I : World → Prop) : Prop := ∀ w w', I w → Below w.heap.size w w' → I w'
def rwVal (r : Rw) : Value := .agg #[.int .i64 r.kind, .int .i64 r.head, .slice r.A r.body.length r.c]
end Go.Proofs.YtjfiodknjchngaaGreatDoor.Thm

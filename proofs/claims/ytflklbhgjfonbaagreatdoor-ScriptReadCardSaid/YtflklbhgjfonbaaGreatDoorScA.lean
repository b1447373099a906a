/- Laws as texts: trees in plain Lean, a row's effect, trees in memory (by depth; closed blocks are told by a colour). -/
import Derived.Test.YtflklbhgjfonbaaGreatDoorLkA
import Derived.Test.YtflklbhgjfonbaaGreatDoorWtP
import Derived.Test.YtflklbhgjfonbaaGreatDoorLabP
import Derived.Laws.OwnMore
namespace Go.Proofs.YtflklbhgjfonbaaGreatDoor.Sc
open Go.RowKit Mem Nest Fk Err

abbrev Tx := List UInt8
structure It where
  label : Tx
  head : Tx
  lines : List Tx
  kids : List It
def strs (l : List Tx) : List Value := l.map fun s => .string ⟨s.toArray⟩
/-- what stands behind a word: the program's text, the document's, the error's number -/
def bhP (s : Tx) : Tx := if s = [] then [] else if s.head? = some 32 then s.drop 1 else s
def bhT (s : Tx) : Tx := if s = [] then [] else if s.head? = some 32 ∧ s.length ≠ 1 then s.drop 1 else s
def bhC (s : Tx) : Int := if s = [] then 0 else if s.head? = some 32 ∧ s.length ≠ 1 then Gp.lineC (s.drop 1) else 1
theorem bh_same {s : Tx} (h : bhC s = 0) : bhP s = bhT s := by
  unfold bhC at h
  unfold bhP bhT
  by_cases e : s = []
  · simp [e]
  · rw [if_neg e] at h
    rw [if_neg e, if_neg e]
    by_cases e2 : s.head? = some 32 ∧ s.length ≠ 1
    · rw [if_pos e2, if_pos e2.1]
    · rw [if_neg e2] at h
      cases h
theorem bh_long (s : Tx) : 300 < (bhP s).length ↔ 300 < (bhT s).length := by
  unfold bhP bhT
  by_cases e : s = []
  · simp [e]
  · rw [if_neg e, if_neg e]
    by_cases e1 : s.head? = some 32
    · rw [if_pos e1]
      by_cases e2 : s.length = 1
      · rw [if_neg (fun h => h.2 e2), List.length_drop, e2]
        omega
      · rw [if_pos ⟨e1, e2⟩]
    · rw [if_neg e1, if_neg (fun h => e1 h.1)]
/-- a change at the innermost last kid so deep -/
def upd (f : It → It) : Nat → It → It
  | 0, t => f t
  | n + 1, t => match t.kids.getLast? with
    | some k => { t with kids := t.kids.dropLast ++ [upd f n k] }
    | none => t
/-- the last kid so deep -/
def spn : Nat → It → It
  | 0, t => t
  | n + 1, t => match t.kids.getLast? with
    | some k => spn n k
    | none => t
def addLine (x : Tx) (t : It) : It := { t with lines := t.lines ++ [x] }
def addKid (k : It) (t : It) : It := { t with kids := t.kids ++ [k] }
/-- a law that is read: its tree, how deep the innermost item is, how many items -/
structure St where
  t : It
  n : Nat
  m : Nat
/-- the label and what stands behind it -/
def nameF (r : Tx) : Tx := r.takeWhile (· != 32)
def restF (r : Tx) : Tx := r.dropWhile (· != 32)
def leadF (s : Tx) : Nat := (s.takeWhile (· == 32)).length
def bodyF (s : Tx) : Tx := s.dropWhile (· == 32)
def kidB (t : It) (x : Tx) : Bool := t.kids.any fun k => k.label == x
def lineRow (st : St) (b : Tx) : Int × St :=
  if (spn st.n st.t).kids ≠ [] then (1, st)
  else if 40 ≤ (spn st.n st.t).lines.length ∨ 300 < (bhT b).length then (2, st)
  else if bhC b ≠ 0 then (bhC b, st)
  else (0, { st with t := upd (addLine (bhT b)) st.n st.t })
noncomputable def itemRow (st : St) (d : Nat) (r : Tx) : Int × St :=
  if (Lab.lab (nameF r)).isNone ∨ kidB (spn d st.t) (nameF r) = true then (7, st)
  else if 300 ≤ st.m ∨ 6 ≤ d ∨ 300 < (bhT (restF r)).length then (2, st)
  else if bhC (restF r) ≠ 0 then (bhC (restF r), st)
  else (0, ⟨upd (addKid ⟨nameF r, bhT (restF r), [], []⟩) d st.t, d + 1, st.m + 1⟩)
noncomputable def rowF (st : St) (s : Tx) : Int × St :=
  if Gp.prnB s = false then (1, st)
  else if leadF s % 2 = 1 ∨ st.n < leadF s / 2 then (1, st)
  else match bodyF s with
    | 124 :: b => if leadF s / 2 ≠ st.n then (1, st) else lineRow st b
    | r => itemRow st (leadF s / 2) r
/-- a row's cells, and where they lie: in blocks of which R tells -/
def RdR (w : World) (R : Nat → Prop) (A : Option Addr) (cs : List Value) : Prop := ∀ j u, cs[j]? = some u → ∃ b o, A = some ⟨b, o, none⟩ ∧ R b ∧ w.cell? ⟨b, o + j, none⟩ = some u
/-- an item's four cells; what it holds lies in blocks of R -/
def TrM (w : World) (R : Nat → Prop) : Nat → It → List Value → Prop
  | 0, _, _ => False
  | d + 1, t, cs => ∃ (LA : Option Addr) (lc : Nat) (KA : Option Addr) (kc : Nat) (rows : List (List Value)), cs = [.string ⟨t.label.toArray⟩, .string ⟨t.head.toArray⟩, .slice LA t.lines.length lc, .slice KA t.kids.length kc] ∧
      RdR w R LA (strs t.lines) ∧ RdR w R KA rows.flatten ∧ (rows.length = t.kids.length ∧ t.lines.length ≤ 9223372036854775807 ∧ t.kids.length ≤ 9223372036854775807) ∧ ∀ (i : Nat) (k : It) (r : List Value), t.kids[i]? = some k → rows[i]? = some r → TrM w R d k r
theorem RdR.mono {w w' : World} {R R' : Nat → Prop} {A : Option Addr} {cs : List Value} (h : RdR w R A cs) (hb : ∀ b, R b → b < w.heap.size → w'.heap[b]? = w.heap[b]? ∧ R' b) : RdR w' R' A cs := fun j u hj => by
  obtain ⟨b, o, e, hr, hc⟩ := h j u hj
  have hlt : b < w.heap.size := Mem.cell_lt hc
  obtain ⟨h1, h2⟩ := hb b hr hlt
  exact ⟨b, o, e, h2, by rw [World.cell?_of_block (w := w) (by rw [h1])]; exact hc⟩
theorem TrM.mono {w w' : World} {R R' : Nat → Prop} (hb : ∀ b, R b → b < w.heap.size → w'.heap[b]? = w.heap[b]? ∧ R' b) : ∀ {d : Nat} {t : It} {cs : List Value}, TrM w R d t cs → TrM w' R' d t cs
  | 0, _, _, h => h.elim
  | _ + 1, _, _, ⟨LA, lc, KA, kc, rows, h1, h2, h3, h4, h5⟩ => ⟨LA, lc, KA, kc, rows, h1, h2.mono hb, h3.mono hb, h4, fun i k r hk hr => TrM.mono hb (h5 i k r hk hr)⟩
theorem TrM.up {w : World} {R : Nat → Prop} : ∀ {d : Nat} {t : It} {cs : List Value}, TrM w R d t cs → TrM w R (d + 1) t cs
  | 0, _, _, h => h.elim
  | _ + 1, _, _, ⟨LA, lc, KA, kc, rows, h1, h2, h3, h4, h5⟩ => ⟨LA, lc, KA, kc, rows, h1, h2, h3, h4, fun i k r hk hr => TrM.up (h5 i k r hk hr)⟩
theorem TrM.len {w : World} {R : Nat → Prop} : ∀ {d : Nat} {t : It} {cs : List Value}, TrM w R d t cs → cs.length = 4
  | 0, _, _, h => h.elim
  | d + 1, t, cs, ⟨LA, lc, KA, kc, rows, h1, _⟩ => by rw [h1]; rfl
theorem RdR.rd {w : World} {R : Nat → Prop} {A : Option Addr} {cs : List Value} (h : RdR w R A cs) : Rd w A cs := fun j u hj => by
  obtain ⟨b, o, e, _, hc⟩ := h j u hj
  exact ⟨b, o, e, hc⟩
theorem RdR.nil {w : World} {R : Nat → Prop} {A : Option Addr} : RdR w R A [] := fun j u hj => by simp at hj
end Go.Proofs.YtflklbhgjfonbaaGreatDoor.Sc

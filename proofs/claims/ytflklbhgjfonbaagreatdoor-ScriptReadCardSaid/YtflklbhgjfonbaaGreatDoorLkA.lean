/- LedgerKeeps: words that its texts share; which blocks stay behind a ledger's step. -/
import Derived.Test.YtflklbhgjfonbaaGreatDoorGpW
import Derived.Test.YtflklbhgjfonbaaGreatDoorMsi
import Derived.Test.YtflklbhgjfonbaaGreatDoorFkW
import Derived.Lib.OwnKind
import Derived.Deep.AppendLies
import Derived.Deep.RegionLaw
import Derived.Deep.RegionHeld3
namespace Go.Proofs.YtflklbhgjfonbaaGreatDoor.Lk
open Go.RowKit Mem Nest Fk Msi Err

/-- a function's answer, and how the world stands behind it -/
def Two (T F : World → Prop) (e : Ending) (w' : World) : Prop := (e = .returned (.bool true) ∧ T w') ∨ (e = .returned (.bool false) ∧ F w')
def At (n : Nat) (T : Nat → World → Prop) (F : World → Prop) (e : Ending) (w' : World) : Prop := (∃ k : Nat, k < n ∧ e = .returned (.int .i64 k) ∧ T k w') ∨ (e = .returned (.int .i64 (-1)) ∧ F w')
/-- the error of a number -/
def errI (E : Nat → Addr) (c : Int) : Value := if c = 0 then .nilIface else sentV (E (c.toNat - 1))
def RetG (b : Bool) (w : World) (e : Ending) (w' : World) : Prop := e = .returned (.bool b) ∧ Below w.heap.size w w'
theorem one_of {l : List Value} {k : Nat} (h : (l.map Value.oneCell') = List.replicate k true) : ∀ u ∈ l, u.oneCell' = true := fun u hu => by
  have h2 : u.oneCell' ∈ l.map Value.oneCell' := List.mem_map_of_mem hu
  rw [h] at h2
  exact (List.mem_replicate.1 h2).2
theorem blk_ext2 {B : Nat} {T : TypeId} {cs : List Value} {w w' : World} (h : Blk w B T cs) (hb : Below w.heap.size w w') : Blk w' B T cs := h.ext (hb.mono (show B + 1 ≤ _ from h.lt))
theorem blk_faL {w w' : World} {b : Nat} {T : TypeId} {cs : List Value} {row : Option Nat} (h : Blk w b T cs) (hg : w.grownBy w' row) (hne : row ≠ some b) : Blk w' b T cs := (hg.block b h.lt (fun e => hne e.symm)).trans h
theorem blk_otL {w : World} {b K : Nat} {T : TypeId} {cs : List Value} (h : Blk w b T cs) (hK : b ≠ K) (j : Nat) (v : Value) : Blk (w.setCell ⟨K, j, none⟩ v) b T cs := by
  unfold Blk at h ⊢
  rw [← h]
  simp [World.setCell, Array.getElem?_modify, Ne.symm hK]
/-- an own row stays where its block does -/
theorem own_keepL {w w' : World} {base : Nat} {e : TypeId} {size n : Nat} {v : Value} {xs : List Value} (h : w.ownsRow base e size v n xs) (hk : ∀ g c fz, v.ownBlock = some g → w.heap[g]? = some (.cells c e fz) → w'.heap[g]? = some (.cells c e fz)) : w'.ownsRow base e size v n xs := by
  refine ⟨h.1, ?_⟩
  rcases h.2 with h2 | ⟨g, cap, cur, hv, hg, hb, h1⟩
  · exact .inl h2
  · exact .inr ⟨g, cap, cur, hv, hg, hk g cur _ (by rw [hv]; rfl) hb, h1⟩
/-- which blocks stay: those below C, and those of other kinds than T1 and T2 -/
structure Lf (C : Nat) (T1 T2 : TypeId) (w w' : World) : Prop where
  os : w'.os = w.os
  tape : w'.tape = w.tape
  output : w'.output = w.output
  size : w.heap.size ≤ w'.heap.size
  low : ∀ k, k < C → k < w.heap.size → w'.heap[k]? = w.heap[k]?
  kind : ∀ (k : Nat) (c : Array Value) (T : TypeId) (fz : Nat × Nat), w.heap[k]? = some (.cells c T fz) → T ≠ T1 → T ≠ T2 → w'.heap[k]? = some (.cells c T fz)
theorem Lf.trans {C : Nat} {T1 T2 : TypeId} {w w1 w2 : World} (h : Lf C T1 T2 w w1) (k : Lf C T1 T2 w1 w2) : Lf C T1 T2 w w2 :=
  ⟨k.os.trans h.os, k.tape.trans h.tape, k.output.trans h.output, Nat.le_trans h.size k.size, fun b hb hs => (k.low b hb (Nat.lt_of_lt_of_le hs h.size)).trans (h.low b hb hs), fun b c T fz hb h1 h2 => k.kind b c T fz (h.kind b c T fz hb h1 h2) h1 h2⟩
theorem Lf.of {C : Nat} {T1 T2 : TypeId} {w w' : World} (h : Below w.heap.size w w') : Lf C T1 T2 w w' :=
  ⟨h.os, h.tape, h.output, h.size, fun k _ hs => h.block k hs, fun k c T fz hk _ _ => by rw [h.block k (Array.getElem?_eq_some_iff.1 hk).1]; exact hk⟩
theorem Lf.set {C : Nat} {T1 T2 : TypeId} {w : World} {cs : List Value} (h : Blk w C T1 cs) (j : Nat) (v : Value) : Lf C T1 T2 w (w.setCell ⟨C, j, none⟩ v) :=
  ⟨rfl, rfl, rfl, by simp, fun k hk _ => by simp [World.setCell, Array.getElem?_modify, show C ≠ k by omega], fun k c T fz hk h1 _ => by
    have hne : C ≠ k := by
      rintro rfl
      unfold Blk at h
      rw [h] at hk
      simp only [Option.some.injEq, Obj.cells.injEq] at hk
      exact h1 hk.2.1.symm
    rw [← hk]
    simp [World.setCell, Array.getElem?_modify, hne]⟩
theorem Lf.grown {C : Nat} {T1 T2 : TypeId} {w w' : World} {size n : Nat} {v : Value} {xs : List Value} (ho : w.ownsRow (C + 1) T2 size v n xs) (hg : w.grownBy w' v.ownBlock) : Lf C T1 T2 w w' :=
  ⟨hg.os, hg.tape, hg.output, hg.size, fun k hk hs => hg.block k hs (fun e1 => by have := (ho.lt k e1.symm).1; omega), fun k c T fz hk _ h2 => by
    have hne : some k ≠ v.ownBlock := by
      intro e1
      obtain ⟨c', fz', h'⟩ := Lib.ownsRow_kind ho k e1.symm
      rw [h'] at hk
      simp only [Option.some.injEq, Obj.cells.injEq] at hk
      exact h2 hk.2.1.symm
    rw [hg.block k (Array.getElem?_eq_some_iff.1 hk).1 hne]
    exact hk⟩
theorem Lf.blk {C : Nat} {T1 T2 T : TypeId} {w w' : World} {b : Nat} {cs : List Value} (h : Lf C T1 T2 w w') (hb : Blk w b T cs) (h1 : T ≠ T1) (h2 : T ≠ T2) : Blk w' b T cs := h.kind b _ T _ hb h1 h2
theorem Lf.own {C : Nat} {T1 T2 T : TypeId} {w w' : World} {base size n : Nat} {v : Value} {xs : List Value} (h : Lf C T1 T2 w w') (ho : w.ownsRow base T size v n xs) (h1 : T ≠ T1) (h2 : T ≠ T2) : w'.ownsRow base T size v n xs := own_keepL ho fun g c fz _ hk => h.kind g c T fz hk h1 h2
theorem Lf.rdk {C : Nat} {T1 T2 T : TypeId} {w w' : World} {A : Option Addr} {cs : List Value} (h : Lf C T1 T2 w w') (hr : RdK w T A cs) (h1 : T ≠ T1) (h2 : T ≠ T2) : RdK w' T A cs := fun j u hj => by
  obtain ⟨b, o, e1, hc, c, fz, hb⟩ := hr j u hj
  have hb' := h.kind b c T fz hb h1 h2
  refine ⟨b, o, e1, ?_, c, fz, hb'⟩
  rw [World.cell?_of_block (w := w) (by rw [hb, hb'])]
  exact hc
theorem Lf.below {C : Nat} {T1 T2 : TypeId} {w0 w w' : World} (h : Lf C T1 T2 w w') (hb : Below w0.heap.size w0 w) (hC : w0.heap.size ≤ C) : Below w0.heap.size w0 w' :=
  ⟨h.os.trans hb.os, h.tape.trans hb.tape, h.output.trans hb.output, Nat.le_trans hb.size h.size, fun k hk => (h.low k (by omega) (Nat.lt_of_lt_of_le hk hb.size)).trans (hb.block k hk)⟩
end Go.Proofs.YtflklbhgjfonbaaGreatDoor.Lk

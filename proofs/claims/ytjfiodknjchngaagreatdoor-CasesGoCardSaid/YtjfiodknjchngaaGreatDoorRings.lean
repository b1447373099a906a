/- reason.rings: the search of a number that comes back to itself: its inner function. reason.rings: the rows that are searched are made; all numbers are looked at. reason.rings: the walk. -/
import Derived.Test.YtjfiodknjchngaaGreatDoorThy
import Derived.Test.YtjfiodknjchngaaGreatDoorThm
import Derived.Test.YtjfiodknjchngaaGreatDoorNewSol
import Derived.Deep.RegionHeld3
import Derived.Deep.AppendLies
import Derived.Deep.DeepCutAuto
import Derived.StillTailTactics
import Derived.Laws.EntriesVeiled
namespace Go.Proofs.YtjfiodknjchngaaGreatDoor.Rings
open Go.RowKit Mem Thy Nest Day Thm Ring

/-- what a number leads to, and where that lies -/
structure Nx where
  xs : List Nat
  A : Option Addr
  c : Nat
def nxVal (r : Nx) : Value := .slice r.A r.xs.length r.c
structure RgP where
  base : Nat
  b1 : Nat
  b2 : Nat
  b3 : Nat
  sb : Nat
  nb : Nat
  n : Nat
  nx : List Nx
  over : List (Int × Int)
structure RgP.Ok (p : RgP) : Prop where
  n : p.n ≤ 120
  ln : p.nx.length = p.n
  lx : ∀ r ∈ p.nx, r.xs.length ≤ 1200
  mem : ∀ (k : Nat) (h : k < p.nx.length) (b : Nat), b ∈ p.nx[k].xs ↔ E p.over k b
  rng : ∀ r ∈ p.nx, ∀ x ∈ r.xs, x < p.n
  sb : p.base ≤ p.sb
  d1 : p.b1 ≠ p.sb
  d2 : p.b2 ≠ p.sb
  d3 : p.b3 ≠ p.sb
  d4 : p.nb ≠ p.sb
def caps (p : RgP) : Array Value := #[.pointer (some ⟨p.b1, 0, none⟩), .pointer (some ⟨p.b2, 0, none⟩), .pointer (some ⟨p.b3, 0, none⟩)]
def Vals (st : List Int) : Prop := ∀ j, get st j = 0 ∨ get st j = 1 ∨ get st j = 2
theorem vals_set {st : List Int} {k : Nat} {v : Int} (h : Vals st) (hk : k < st.length) (hv : v = 0 ∨ v = 1 ∨ v = 2) : Vals (st.set k v) := fun j => by
  rw [get_set hk]
  split
  · exact hv
  · exact h j
theorem rd_nat {w : World} {A : Option Addr} {xs : List Nat} (h : Rd w A (ints (xs.map Int.ofNat))) {j : Nat} (hj : j < xs.length) : ∃ b o, A = some ⟨b, o, none⟩ ∧ w.cell? ⟨b, o + j, none⟩ = some (.int .i64 (xs[j] : Nat)) := by
  obtain ⟨b, o, e, hc⟩ := h.int (k := j) (by simpa using hj)
  exact ⟨b, o, e, by simpa using hc⟩
end Go.Proofs.YtjfiodknjchngaaGreatDoor.Rings
namespace Go.Proofs.YtjfiodknjchngaaGreatDoor.Rings
open Go.RowKit Mem Thy Nest Day Thm Ring

theorem list_info : (Tryz.prog.info? 24).map (fun i => (i.zero, i.size, i.bytes)) = some (some (.slice none 0 0), 1, 24) := by kernel_rfl
def natInts (xs : List Nat) : List Value := ints (xs.map Int.ofNat)
section
variable {w wr w1 : World} {n j : Nat} {vs : List Value} {xs : List (List Nat)} {ov : List (Int × Int)}
end
theorem pick {α : Type} {P : Nat → α → Prop} : ∀ (n : Nat), (∀ i, i < n → ∃ r, P i r) → ∃ l : List α, l.length = n ∧ ∀ (i : Nat) (h : i < l.length), P i l[i]
  | 0, _ => ⟨[], rfl, fun i h => by simp at h⟩
  | n + 1, h => by
    obtain ⟨l, hl, hp⟩ := pick n (fun i hi => h i (by omega))
    obtain ⟨r, hr⟩ := h n (by omega)
    refine ⟨l ++ [r], by simp [hl], fun i hi => ?_⟩
    by_cases hi' : i < l.length
    · rw [List.getElem_append_left hi']; exact hp i hi'
    · have : i = n := by simp at hi; omega
      subst this
      rw [List.getElem_append_right (by omega)]
      simpa [hl] using hr
end Go.Proofs.YtjfiodknjchngaaGreatDoor.Rings
namespace Go.Proofs.YtjfiodknjchngaaGreatDoor.Rings
open Go.RowKit Mem Thy Nest Day Thm Ring

/-- what a cell holds, whatever that is -/
def held (a : Addr) (x : World) : Value := (x.cell? a).getD undef
theorem held_of {a : Addr} {x : World} {u : Value} (h : x.cell? a = some u) : x.cell? a = some (held a x) := by
  unfold held
  rw [h]
  rfl
theorem held_eq {a : Addr} {x : World} {u : Value} (h : x.cell? a = some u) : held a x = u := by
  unfold held
  rw [h]
  rfl
theorem cell_set_same {w : World} {a : Addr} {u : Value} (h : w.cell? a = some u) (v : Value) : (w.setCell a v).cell? a = some v := World.cell?_setCell_same' w a v (by rw [h]; rfl)
theorem int_info : (Tryz.prog.info? 3).map (fun i => (i.zero, i.size, i.bytes)) = some (some (.int .i64 0), 1, 8) := by kernel_rfl
end Go.Proofs.YtjfiodknjchngaaGreatDoor.Rings

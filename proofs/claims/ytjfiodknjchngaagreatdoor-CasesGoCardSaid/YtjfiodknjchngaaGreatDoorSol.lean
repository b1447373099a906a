/- A theory's solver in memory: what its small functions read. -/
import Derived.Test.YtjfiodknjchngaaGreatDoorThm
import Derived.Test.YtjfiodknjchngaaGreatDoorMapSet
import Derived.Deep.Quiet
import Derived.Deep.QuietTactic
import Derived.BigQuiet
import Derived.IntWalk
namespace Go.Proofs.YtjfiodknjchngaaGreatDoor.Sol
open Go.RowKit Mem Thy Nest Day Thm MapSet

theorem quiet_same {P : Program} {f : FuncId} {args : Array Value} {w : World} {n : Nat} {v : Value} (h : Calls P f args (w.drewN n) fun e w' => e = .returned v ∧ w.drewN n = w') :
    Calls P f args (w.drewN n) fun e w'' => e = .returned v ∧ ∃ m, w'' = w.drewN m := Calls.quiet_of_same (h.mono fun _ _ hh => ⟨hh.1, hh.2.symm⟩)
/-- where a solver and its theory lie -/
structure SvP where
  B : Nat
  N : Nat
  rs : List Rw
  RA : Option Addr
  rc : Nat
  ov : List (Int × Int)
  OA : Option Addr
  oc : Nat
  sb : Nat
  hb : Nat
  mb : Nat
  mn : Nat
  lo : Nat
def SvP.th (p : SvP) : Th := ⟨p.N, p.rs.map Rw.rl, p.ov⟩
def svCells (p : SvP) : List Value := [.int .i64 p.N, .slice p.RA p.rs.length p.rc, .slice p.OA p.ov.length p.oc, .slice (some ⟨p.sb, 0, none⟩) (2 * p.N) (2 * p.N), .slice (some ⟨p.hb, 0, none⟩) (2 * p.N) (2 * p.N), .map (some p.mb)]
def pairVal (x : Int × Int) : Value := .agg #[.int .i64 x.1, .int .i64 x.2]
structure SvP.Ok (p : SvP) : Prop where
  n : p.N ≤ 120
  rl : p.rs.length ≤ 120
  head : ∀ r ∈ p.rs, p.th.Lit r.head
  body : ∀ r ∈ p.rs, ∀ x ∈ r.body, p.th.Lit x
  bl : ∀ r ∈ p.rs, r.body.length ≤ 120
  d1 : p.B < p.lo
  dm : p.mb < p.lo
  d2 : p.lo ≤ p.sb
  d3 : p.lo ≤ p.hb
  d4 : p.sb ≠ p.hb
  ra : LowA p.lo p.RA (p.rs.flatMap rwCells)
  rb : ∀ r ∈ p.rs, LowA p.lo r.A (ints r.body)
section
variable {w w' : World} {p : SvP} {S H : List Int}
theorem blk_ext {B : Nat} {T : TypeId} {cs : List Value} (h : Blk w B T cs) (hb : Below w.heap.size w w') : Blk w' B T cs := h.ext (hb.mono (show B + 1 ≤ _ from h.lt))
theorem ints_at {zs : List Int} {B : Nat} (h : Blk w B 3 (ints zs)) {j : Nat} (hj : j < zs.length) : w.cell? ⟨B, j, none⟩ = some (.int .i64 zs[j]) := h.cell j (by simp [ints, hj])
theorem lit_bd {q : Int} (hq : p.th.Lit q) : q ≠ 0 ∧ -(p.N : Int) ≤ q ∧ q ≤ p.N := hq
end
def CapQ (w : World) (c : Value) (q : Int) : Prop := ∃ g, c = .pointer (some ⟨g, 0, none⟩) ∧ Blk w g 3 [.int .i64 q]
theorem CapQ.ext {w w' : World} {c : Value} {q : Int} (h : CapQ w c q) (hb : Below w.heap.size w w') : CapQ w' c q := by
  obtain ⟨g, e, h⟩ := h
  exact ⟨g, e, blk_ext h hb⟩
end Go.Proofs.YtjfiodknjchngaaGreatDoor.Sol

/- Gaps: tables in memory; whether a list has a number or a text; a row's fits, the rows left, all rows. Gaps: the rows left behind an answer, all rows, as bits. -/
import Derived.Test.YtflklbhgjfonbaaGreatDoorGpP
import Derived.Test.YtflklbhgjfonbaaGreatDoorNest
import Derived.StillTailTactics
import Derived.Deep.RegionHeld3
import Derived.Deep.DeepCutAuto
import Derived.Deep.Quiet
import Derived.Deep.QuietTactic
import Derived.IntWalk
namespace Go.Proofs.YtflklbhgjfonbaaGreatDoor.Gp
open Go.RowKit Mem Nest Fk

/-- a cell of a row, a row, a question, as they lie in memory -/
structure CellM where
  l : Option (List Int)
  A : Option Addr
  c : Nat
def cellV (x : CellM) : Value := .slice x.A (x.l.getD []).length x.c
structure RwM where
  cells : List CellM
  A : Option Addr
  c : Nat
  out : List UInt8
def rwmCells (r : RwM) : List Value := [.slice r.A r.cells.length r.c, .string ⟨r.out.toArray⟩]
theorem rwmCells_len (r : RwM) : (rwmCells r).length = 2 := rfl
def RwM.rw (r : RwM) : Rw := ⟨r.cells.map (·.l), r.out⟩
def strsV (l : List (List UInt8)) : List Value := l.map fun s => .string ⟨s.toArray⟩
structure QnM where
  name : List UInt8
  ans : List (List UInt8)
  A : Option Addr
  c : Nat
def qmCells (r : QnM) : List Value := [.string ⟨r.name.toArray⟩, .slice r.A r.ans.length r.c]
theorem qmCells_len (r : QnM) : (qmCells r).length = 2 := rfl
def QnM.qn (r : QnM) : Qn := ⟨r.name, r.ans⟩
/-- a row's cells -/
structure CellsP (w : World) (A : Option Addr) (xs : List CellM) : Prop where
  row : Rd w A (xs.map cellV)
  ints : ∀ x ∈ xs, Rd w x.A (ints (x.l.getD []))
  isnil : ∀ x ∈ xs, x.l = none → x.A = none ∧ x.c = 0
  isrow : ∀ x ∈ xs, x.l ≠ none → x.A ≠ none
  len : ∀ x ∈ xs, (x.l.getD []).length ≤ 1048576
structure RowsP (w : World) (A : Option Addr) (ms : List RwM) : Prop where
  rows : Rd w A (ms.flatMap rwmCells)
  cells : ∀ m ∈ ms, CellsP w m.A m.cells
structure QsP (w : World) (A : Option Addr) (ms : List QnM) : Prop where
  rows : Rd w A (ms.flatMap qmCells)
  ans : ∀ m ∈ ms, Rd w m.A (strsV m.ans)
theorem CellsP.ext {w w' : World} {A : Option Addr} {xs : List CellM} (h : CellsP w A xs) (hb : Below w.heap.size w w') : CellsP w' A xs :=
  ⟨h.row.ext hb, fun x hx => (h.ints x hx).ext hb, h.isnil, h.isrow, h.len⟩
theorem RowsP.ext {w w' : World} {A : Option Addr} {ms : List RwM} (h : RowsP w A ms) (hb : Below w.heap.size w w') : RowsP w' A ms :=
  ⟨h.rows.ext hb, fun m hm => (h.cells m hm).ext hb⟩
theorem QsP.ext {w w' : World} {A : Option Addr} {ms : List QnM} (h : QsP w A ms) (hb : Below w.heap.size w w') : QsP w' A ms :=
  ⟨h.rows.ext hb, fun m hm => (h.ans m hm).ext hb⟩
theorem RowsP.row {w : World} {A : Option Addr} {ms : List RwM} (h : RowsP w A ms) {k : Nat} (hk : k < ms.length) :
    ∃ b o, A = some ⟨b, o, none⟩ ∧ w.cell? ⟨b, o + k * 2, none⟩ = some (.slice ms[k].A ms[k].cells.length ms[k].c) ∧ w.cell? ⟨b, o + k * 2 + 1, none⟩ = some (.string ⟨ms[k].out.toArray⟩) := by
  obtain ⟨b, o, e, hc⟩ := h.rows.row rwmCells_len hk (by omega)
  exact ⟨b, o, e, by simpa using hc 0 _ rfl, by simpa [Nat.add_assoc] using hc 1 _ rfl⟩
theorem QsP.row {w : World} {A : Option Addr} {ms : List QnM} (h : QsP w A ms) {k : Nat} (hk : k < ms.length) :
    ∃ b o, A = some ⟨b, o, none⟩ ∧ w.cell? ⟨b, o + k * 2, none⟩ = some (.string ⟨ms[k].name.toArray⟩) ∧ w.cell? ⟨b, o + k * 2 + 1, none⟩ = some (.slice ms[k].A ms[k].ans.length ms[k].c) := by
  obtain ⟨b, o, e, hc⟩ := h.rows.row qmCells_len hk (by omega)
  exact ⟨b, o, e, by simpa using hc 0 _ rfl, by simpa [Nat.add_assoc] using hc 1 _ rfl⟩
theorem CellsP.cell {w : World} {A : Option Addr} {xs : List CellM} (h : CellsP w A xs) {k : Nat} (hk : k < xs.length) :
    ∃ b o, A = some ⟨b, o, none⟩ ∧ w.cell? ⟨b, o + k, none⟩ = some (cellV xs[k]) := h.row k _ (by simp [hk])
theorem str_at {w : World} {A : Option Addr} {l : List (List UInt8)} (h : Rd w A (strsV l)) {k : Nat} (hk : k < l.length) :
    ∃ b o, A = some ⟨b, o, none⟩ ∧ w.cell? ⟨b, o + k, none⟩ = some (.string ⟨l[k].toArray⟩) := h k _ (by simp [strsV, hk])

theorem nil_ints (w : World) : (binOp .eql 60 (.slice none 0 0) (.slice none 0 0)).run Tryz.prog w = .ok (.bool true) w := by kernel_rfl
theorem some_ints (y : Addr) (n c : Nat) (w : World) : (binOp .eql 60 (.slice (some y) n c) (.slice none 0 0)).run Tryz.prog w = .ok (.bool false) w := by kernel_rfl
/-- a call that may make memory tells this -/
def RetA (b : Bool) (w : World) (e : Ending) (w' : World) : Prop := e = .returned (.bool b) ∧ Below w.heap.size w w'
theorem retA {a b : Bool} {w w' : World} (h : a = b) (hb : Below w.heap.size w w') : RetA b w (.returned (.bool a)) w' := ⟨by rw [h], hb⟩
end Go.Proofs.YtflklbhgjfonbaaGreatDoor.Gp
namespace Go.Proofs.YtflklbhgjfonbaaGreatDoor.Gp
open Go.RowKit Mem Nest Fk

theorem wrap_u64 (n : Nat) (h : n < 2 ^ 64) : IntKind.u64.wrap (n : Int) = n := by
  have : n < 18446744073709551616 := h
  clear h
  simp [IntKind.wrap, IntKind.bits, IntKind.signed]
  omega
theorem shlN (k : Nat) (hk : k < 64) : IntKind.u64.wrap (2 ^ k) = ((2 ^ k : Nat) : Int) := by
  rw [← wrap_u64 (2 ^ k) (Nat.pow_lt_pow_right (by omega) hk)]
  congr 1
theorem ofInt_nat (n : Nat) : BitVec.ofInt 64 (n : Int) = BitVec.ofNat 64 n := by
  apply BitVec.eq_of_toNat_eq
  simp
theorem andN (m k : Nat) (hk : k < 64) : bits .and .u64 (m : Int) ((2 ^ k : Nat) : Int) = ((if m.testBit k = true then 2 ^ k else 0 : Nat) : Int) := by
  have hp : 2 ^ k < 2 ^ 64 := Nat.pow_lt_pow_right (by omega) hk
  have h1 : (BitVec.ofInt 64 (m : Int) &&& BitVec.ofInt 64 ((2 ^ k : Nat) : Int)).toNat = if m.testBit k = true then 2 ^ k else 0 := by
    rw [ofInt_nat, ofInt_nat]
    apply Nat.eq_of_testBit_eq
    intro i
    rw [← BitVec.getLsbD, BitVec.getLsbD_and, BitVec.getLsbD_ofNat, BitVec.getLsbD_ofNat]
    by_cases hik : i = k
    · subst hik
      cases h : m.testBit i <;> simp [hk, Nat.testBit_two_pow_self]
    · have : (2 ^ k).testBit i = false := Nat.testBit_two_pow_of_ne (Ne.symm hik)
      split <;> simp [this]
  show IntKind.u64.wrap ((BitVec.ofInt 64 (m : Int) &&& BitVec.ofInt 64 ((2 ^ k : Nat) : Int)).toNat : Int) = _
  rw [h1]
  apply wrap_u64
  split
  · exact hp
  · exact Nat.two_pow_pos 64
theorem andNotN (m k : Nat) (hm : m < 2 ^ 64) (hk : k < 64) : bits .andNot .u64 (m : Int) ((2 ^ k : Nat) : Int) = ((if m.testBit k = true then m ^^^ 2 ^ k else m : Nat) : Int) := by
  have hp : 2 ^ k < 2 ^ 64 := Nat.pow_lt_pow_right (by omega) hk
  have h1 : (BitVec.ofInt 64 (m : Int) &&& ~~~BitVec.ofInt 64 ((2 ^ k : Nat) : Int)).toNat = if m.testBit k = true then m ^^^ 2 ^ k else m := by
    rw [ofInt_nat, ofInt_nat]
    apply Nat.eq_of_testBit_eq
    intro i
    rw [← BitVec.getLsbD, BitVec.getLsbD_and, BitVec.getLsbD_not, BitVec.getLsbD_ofNat, BitVec.getLsbD_ofNat]
    by_cases hi : i < 64
    · by_cases hik : i = k
      · subst hik
        cases h : m.testBit i <;> simp [h, hi, Nat.testBit_xor, Nat.testBit_two_pow_self]
      · have : (2 ^ k).testBit i = false := Nat.testBit_two_pow_of_ne (Ne.symm hik)
        split <;> simp [hi, Nat.testBit_xor, this]
    · have h2 : m.testBit i = false := Nat.testBit_lt_two_pow (Nat.lt_of_lt_of_le hm (Nat.pow_le_pow_right (by omega) (by omega)))
      have h3 : (2 ^ k).testBit i = false := Nat.testBit_two_pow_of_ne (by omega)
      split <;> simp [hi, Nat.testBit_xor, h2, h3]
  show IntKind.u64.wrap ((BitVec.ofInt 64 (m : Int) &&& ~~~BitVec.ofInt 64 ((2 ^ k : Nat) : Int)).toNat : Int) = _
  rw [h1]
  apply wrap_u64
  split
  · exact Nat.xor_lt_two_pow hm hp
  · exact hm
theorem cellOf_map (ms : List RwM) (k q : Nat) (hk : k < ms.length) (hq : q < ms[k].cells.length) : cellOf (ms.map RwM.rw) k q = ms[k].cells[q].l := by
  simp [cellOf, RwM.rw, hk, hq]
/-- what left tells -/
def LeftPost (m : Nat) (w : World) (e : Ending) (w' : World) : Prop := e = .returned (.int .u64 (m : Int)) ∧ Below w.heap.size w w'
end Go.Proofs.YtflklbhgjfonbaaGreatDoor.Gp

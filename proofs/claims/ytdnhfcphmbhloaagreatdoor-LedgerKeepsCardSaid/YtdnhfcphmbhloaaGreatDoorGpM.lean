/- Gaps: tables in memory; whether a list has a number or a text; a row's fits, the rows left, all rows. Gaps: the rows left behind an answer, all rows, as bits. -/
import Derived.Test.YtdnhfcphmbhloaaGreatDoorGpP
import Derived.Test.YtdnhfcphmbhloaaGreatDoorNest
import Derived.StillTailTactics
import Derived.Deep.RegionHeld3
import Derived.Deep.DeepCutAuto
import Derived.Deep.Quiet
import Derived.Deep.QuietTactic
import Derived.IntWalk
namespace Go.Proofs.YtdnhfcphmbhloaaGreatDoor.Gp
open Go.RowKit Mem Nest Fk

/-- a cell of a row, a row, a question, as they lie in memory -/
structure CellM where
  l : Option (List Int)
  A : Option Addr
  c : Nat
def cellV (x : CellM) : Value := .slice x.A (x.l.getD []).length x.c
structure RwM where
  cells : List CellM
  A : Option Addr
  c : Nat
  out : List UInt8
def rwmCells (r : RwM) : List Value := [.slice r.A r.cells.length r.c, .string ⟨r.out.toArray⟩]
theorem rwmCells_len (r : RwM) : (rwmCells r).length = 2 := rfl
def RwM.rw (r : RwM) : Rw := ⟨r.cells.map (·.l), r.out⟩
def strsV (l : List (List UInt8)) : List Value := l.map fun s => .string ⟨s.toArray⟩
structure QnM where
  name : List UInt8
  ans : List (List UInt8)
  A : Option Addr
  c : Nat
def qmCells (r : QnM) : List Value := [.string ⟨r.name.toArray⟩, .slice r.A r.ans.length r.c]
theorem qmCells_len (r : QnM) : (qmCells r).length = 2 := rfl
def QnM.qn (r : QnM) : Qn := ⟨r.name, r.ans⟩
/-- a row's cells -/
structure CellsP (w : World) (A : Option Addr) (xs : List CellM) : Prop where
  row : Rd w A (xs.map cellV)
  ints : ∀ x ∈ xs, Rd w x.A (ints (x.l.getD []))
  isnil : ∀ x ∈ xs, x.l = none → x.A = none ∧ x.c = 0
  isrow : ∀ x ∈ xs, x.l ≠ none → x.A ≠ none
  len : ∀ x ∈ xs, (x.l.getD []).length ≤ 1048576
structure RowsP (w : World) (A : Option Addr) (ms : List RwM) : Prop where
  rows : Rd w A (ms.flatMap rwmCells)
  cells : ∀ m ∈ ms, CellsP w m.A m.cells
structure QsP (w : World) (A : Option Addr) (ms : List QnM) : Prop where
  rows : Rd w A (ms.flatMap qmCells)
  ans : ∀ m ∈ ms, Rd w m.A (strsV m.ans)
theorem CellsP.ext {w w' : World} {A : Option Addr} {xs : List CellM} (h : CellsP w A xs) (hb : Below w.heap.size w w') : CellsP w' A xs :=
  ⟨h.row.ext hb, fun x hx => (h.ints x hx).ext hb, h.isnil, h.isrow, h.len⟩
theorem RowsP.ext {w w' : World} {A : Option Addr} {ms : List RwM} (h : RowsP w A ms) (hb : Below w.heap.size w w') : RowsP w' A ms :=
  ⟨h.rows.ext hb, fun m hm => (h.cells m hm).ext hb⟩
theorem QsP.ext {w w' : World} {A : Option Addr} {ms : List QnM} (h : QsP w A ms) (hb : Below w.heap.size w w') : QsP w' A ms :=
  ⟨h.rows.ext hb, fun m hm => (h.ans m hm).ext hb⟩
theorem RowsP.row {w : World} {A : Option Addr} {ms : List RwM} (h : RowsP w A ms) {k : Nat} (hk : k < ms.length) :
    ∃ b o, A = some ⟨b, o, none⟩ ∧ w.cell? ⟨b, o + k * 2, none⟩ = some (.slice ms[k].A ms[k].cells.length ms[k].c) ∧ w.cell? ⟨b, o + k * 2 + 1, none⟩ = some (.string ⟨ms[k].out.toArray⟩) := by
  obtain ⟨b, o, e, hc⟩ := h.rows.row rwmCells_len hk (by omega)
  exact ⟨b, o, e, by simpa using hc 0 _ rfl, by simpa [Nat.add_assoc] using hc 1 _ rfl⟩
theorem QsP.row {w : World} {A : Option Addr} {ms : List QnM} (h : QsP w A ms) {k : Nat} (hk : k < ms.length) :
    ∃ b o, A = some ⟨b, o, none⟩ ∧ w.cell? ⟨b, o + k * 2, none⟩ = some (.string ⟨ms[k].name.toArray⟩) ∧ w.cell? ⟨b, o + k * 2 + 1, none⟩ = some (.slice ms[k].A ms[k].ans.length ms[k].c) := by
  obtain ⟨b, o, e, hc⟩ := h.rows.row qmCells_len hk (by omega)
  exact ⟨b, o, e, by simpa using hc 0 _ rfl, by simpa [Nat.add_assoc] using hc 1 _ rfl⟩
theorem CellsP.cell {w : World} {A : Option Addr} {xs : List CellM} (h : CellsP w A xs) {k : Nat} (hk : k < xs.length) :
    ∃ b o, A = some ⟨b, o, none⟩ ∧ w.cell? ⟨b, o + k, none⟩ = some (cellV xs[k]) := h.row k _ (by simp [hk])
theorem str_at {w : World} {A : Option Addr} {l : List (List UInt8)} (h : Rd w A (strsV l)) {k : Nat} (hk : k < l.length) :
    ∃ b o, A = some ⟨b, o, none⟩ ∧ w.cell? ⟨b, o + k, none⟩ = some (.string ⟨l[k].toArray⟩) := h k _ (by simp [strsV, hk])

set_option maxHeartbeats 400000 in
theorem indexg_any (hol : List Int) (hh : hol.length ≤ 1048576) (A : Option Addr) (hc : Nat) (d : Int) (w : World) (h : Rd w A (ints hol)) :
    Calls Tryz.prog 214 #[.slice A hol.length hc, .int .i64 d] w fun e w' => (∃ r : Int, e = .returned (.int .i64 r) ∧ (0 ≤ r ↔ d ∈ hol)) ∧ w = w' := by
  have HR := Lib.hid h
  clear h
  go_enter Tryz.func214, Tryz.ntmps214
  go_wp2_with fail
  go_loop [8] (fun t8 => ∃ j : Nat, t8 = .int .i64 j ∧ j ≤ hol.length ∧ Hid (∀ k (h : k < hol.length), k < j → hol[k] ≠ d)) (fun t8 => hol.length - (intOf t8).toNat)
  case atStart => exact ⟨0, rfl, Nat.zero_le _, fun k _ hk => absurd hk (by omega)⟩
  case round =>
    obtain ⟨j, rfl, hj, HN⟩ := hrel
    by_cases hlt : j < hol.length
    · obtain ⟨b, o, rfl, r0⟩ := HR.out j _ (show (ints hol)[j]? = some (.int .i64 hol[j]) by simp [ints, hlt])
      have hcl : (j : Int) < hol.length := by omega
      have HX := Lib.hid (fun (e : hol[j] = d) => (e ▸ List.getElem_mem hlt : d ∈ hol))
      have HN2 := Lib.hid (fun (hne : hol[j] ≠ d) => (show ∀ k (h : k < hol.length), k < j + 1 → hol[k] ≠ d from fun k h hk => by
        by_cases e : k = j
        · subst e; exact hne
        · exact HN.out k h (by omega)))
      generalize hol[j] = x at *
      by_cases hxd : x = d
      · have HC := Lib.hid (HX.out hxd)
        have hxd' : (d == x) = true := by simp [hxd]
        clear hxd HN2 HN
        go_wp2_with fail
        go_ret
        exact ⟨⟨_, rfl, iff_of_true (by omega) HC.out⟩, rfl⟩
      · have HNe := Lib.hid (HN2.out hxd)
        have hxd' : (d == x) = false := by simp; exact fun e => hxd e.symm
        clear hxd HN2 HN
        go_wp2_with fail
        go_round
        case rel => exact ⟨j + 1, by go_num, by omega, HNe.out⟩
        case measure => simp [intOf]; omega
    · obtain rfl : hol.length = j := by omega
      go_wp2_with fail
      go_ret
      refine ⟨⟨_, rfl, iff_of_false (by omega) fun e => ?_⟩, rfl⟩
      obtain ⟨k, hk, e⟩ := List.mem_iff_getElem.1 e
      exact HN.out k hk hk e
set_option maxHeartbeats 400000 in
theorem containsg_any (hol : List Int) (hh : hol.length ≤ 1048576) (A : Option Addr) (hc : Nat) (d : Int) (w : World) (h : Rd w A (ints hol)) :
    Calls Tryz.prog 208 #[.slice A hol.length hc, .int .i64 d] w (RetB (hol.contains d) w) := by
  have H := Lib.hid (indexg_any hol hh A hc d w h)
  clear h
  go_enter Tryz.func208, Tryz.ntmps208
  go_wp2_with fail
  refine H.out.mono ?_
  rintro e w' ⟨⟨r, rfl, hr⟩, rfl⟩
  have HR := Lib.hid hr
  clear hr
  go_wp2_with fail
  go_ret
  refine retb _ ?_
  rw [Bool.eq_iff_iff, List.contains_iff_mem, ← HR.out]
  simp
set_option maxHeartbeats 400000 in
theorem indexs_any (l : List (List UInt8)) (hh : l.length ≤ 1048576) (A : Option Addr) (hc : Nat) (d : List UInt8) (w : World) (h : Rd w A (strsV l)) :
    Calls Tryz.prog 115 #[.slice A l.length hc, .string ⟨d.toArray⟩] w fun e w' => (∃ r : Int, e = .returned (.int .i64 r) ∧ (0 ≤ r ↔ d ∈ l)) ∧ w = w' := by
  have HR := Lib.hid h
  clear h
  go_enter Tryz.func115, Tryz.ntmps115
  go_wp2_with fail
  go_loop [8] (fun t8 => ∃ j : Nat, t8 = .int .i64 j ∧ j ≤ l.length ∧ Hid (∀ k (h : k < l.length), k < j → l[k] ≠ d)) (fun t8 => l.length - (intOf t8).toNat)
  case atStart => exact ⟨0, rfl, Nat.zero_le _, fun k _ hk => absurd hk (by omega)⟩
  case round =>
    obtain ⟨j, rfl, hj, HN⟩ := hrel
    by_cases hlt : j < l.length
    · obtain ⟨b, o, rfl, r0⟩ := str_at HR.out hlt
      have hcl : (j : Int) < l.length := by omega
      have HX := Lib.hid (fun (e : l[j] = d) => (e ▸ List.getElem_mem hlt : d ∈ l))
      have HN2 := Lib.hid (fun (hne : l[j] ≠ d) => (show ∀ k (h : k < l.length), k < j + 1 → l[k] ≠ d from fun k h hk => by
        by_cases e : k = j
        · subst e; exact hne
        · exact HN.out k h (by omega)))
      generalize l[j] = x at *
      by_cases hxd : x = d
      · have HC := Lib.hid (HX.out hxd)
        have hxd' : (d == x) = true := by simp [hxd]
        clear hxd HN2 HN
        go_wp2_with fail
        go_ret
        exact ⟨⟨_, rfl, iff_of_true (by omega) HC.out⟩, rfl⟩
      · have HNe := Lib.hid (HN2.out hxd)
        have hxd' : (d == x) = false := by simp; exact fun e => hxd e.symm
        clear hxd HN2 HN
        go_wp2_with fail
        go_round
        case rel => exact ⟨j + 1, by go_num, by omega, HNe.out⟩
        case measure => simp [intOf]; omega
    · obtain rfl : l.length = j := by omega
      go_wp2_with fail
      go_ret
      refine ⟨⟨_, rfl, iff_of_false (by omega) fun e => ?_⟩, rfl⟩
      obtain ⟨k, hk, e⟩ := List.mem_iff_getElem.1 e
      exact HN.out k hk hk e
set_option maxHeartbeats 400000 in
theorem containss_any (l : List (List UInt8)) (hh : l.length ≤ 1048576) (A : Option Addr) (hc : Nat) (d : List UInt8) (w : World) (h : Rd w A (strsV l)) :
    Calls Tryz.prog 154 #[.slice A l.length hc, .string ⟨d.toArray⟩] w (RetB (l.contains d) w) := by
  have H := Lib.hid (indexs_any l hh A hc d w h)
  clear h
  go_enter Tryz.func154, Tryz.ntmps154
  go_wp2_with fail
  refine H.out.mono ?_
  rintro e w' ⟨⟨r, rfl, hr⟩, rfl⟩
  have HR := Lib.hid hr
  clear hr
  go_wp2_with fail
  go_ret
  refine retb _ ?_
  rw [Bool.eq_iff_iff, List.contains_iff_mem, ← HR.out]
  simp
theorem nil_ints (w : World) : (binOp .eql 115 (.slice none 0 0) (.slice none 0 0)).run Tryz.prog w = .ok (.bool true) w := by kernel_rfl
theorem some_ints (y : Addr) (n c : Nat) (w : World) : (binOp .eql 115 (.slice (some y) n c) (.slice none 0 0)).run Tryz.prog w = .ok (.bool false) w := by kernel_rfl
/-- a call that may make memory tells this -/
def RetA (b : Bool) (w : World) (e : Ending) (w' : World) : Prop := e = .returned (.bool b) ∧ Below w.heap.size w w'
theorem retA {a b : Bool} {w w' : World} (h : a = b) (hb : Below w.heap.size w w') : RetA b w (.returned (.bool a)) w' := ⟨by rw [h], hb⟩
set_option maxHeartbeats 400000 in
set_option maxRecDepth 20000 in
theorem fits_any (xs : List CellM) (A : Option Addr) (c : Nat) (s : ByteArray) (q : Nat) (a : Int) (hq : q < xs.length) (w : World) (h : CellsP w A xs) :
    Calls Tryz.prog 184 #[.agg #[.slice A xs.length c, .string s], .int .i64 q, .int .i64 a] w (RetA (fitC xs[q].l a) w) := by
  have hb1 := ext_alloc w (.cells (List.toArray [.slice A xs.length c, .string s]) 136)
  have bk := Blk.new w 136 [.slice A xs.length c, .string s]
  obtain ⟨W, hW⟩ : ∃ W, W = w.alloc (.cells (List.toArray [.slice A xs.length c, .string s]) 136) := ⟨_, rfl⟩
  rw [← hW] at bk hb1
  have HB := Lib.hid hb1
  obtain ⟨b, o, rfl, c0⟩ := (h.ext hb1).cell hq
  have r0 := bk.cell 0 rfl
  have hqn : xs[q] ∈ xs := List.getElem_mem hq
  have HI := Lib.hid ((h.ext hb1).ints _ hqn)
  have HN := Lib.hid (h.isnil _ hqn)
  have HS := Lib.hid (h.isrow _ hqn)
  have hlen := h.len _ hqn
  have hcl : (q : Int) < xs.length := by omega
  generalize xs[q] = x at *
  obtain ⟨l, B, cc⟩ := x
  have HW := Lib.hid hW
  clear bk h hqn hb1 hW
  unfold cellV at c0
  simp only at c0 hlen
  go_enter Tryz.func184, Tryz.ntmps184
  go_upto_region 1 with fail
  rw [show w.alloc (.cells #[.slice (some ⟨b, o, none⟩) xs.length c, .string s] 136) = W from HW.out.symm]
  clear HW
  cases l with
  | none =>
    obtain ⟨rfl, rfl⟩ := HN.out rfl
    simp only [Option.getD_none, List.length_nil] at c0
    have hnil := nil_ints W
    go_wp2_with fail
    go_ret
    exact ⟨rfl, HB.out⟩
  | some zs =>
    simp only [Option.getD_some] at c0 hlen
    have hB := HS.out (by simp)
    obtain ⟨y, rfl⟩ : ∃ y, B = some y := by cases B with | none => exact absurd rfl hB | some y => exact ⟨y, rfl⟩
    clear hB
    have hnil := some_ints y zs.length cc W
    have HC := Lib.hid (containsg_any zs hlen (some y) cc a W HI.out)
    go_wp2_with fail
    refine HC.out.mono ?_
    rintro e w' ⟨rfl, rfl⟩
    go_wp2_with fail
    go_ret
    refine retA ?_ HB.out
    simp [fitC]
end Go.Proofs.YtdnhfcphmbhloaaGreatDoor.Gp
namespace Go.Proofs.YtdnhfcphmbhloaaGreatDoor.Gp
open Go.RowKit Mem Nest Fk

theorem wrap_u64 (n : Nat) (h : n < 2 ^ 64) : IntKind.u64.wrap (n : Int) = n := by
  have : n < 18446744073709551616 := h
  clear h
  simp [IntKind.wrap, IntKind.bits, IntKind.signed]
  omega
theorem shlN (k : Nat) (hk : k < 64) : IntKind.u64.wrap (2 ^ k) = ((2 ^ k : Nat) : Int) := by
  rw [← wrap_u64 (2 ^ k) (Nat.pow_lt_pow_right (by omega) hk)]
  congr 1
theorem ofInt_nat (n : Nat) : BitVec.ofInt 64 (n : Int) = BitVec.ofNat 64 n := by
  apply BitVec.eq_of_toNat_eq
  simp
theorem andN (m k : Nat) (hk : k < 64) : bits .and .u64 (m : Int) ((2 ^ k : Nat) : Int) = ((if m.testBit k = true then 2 ^ k else 0 : Nat) : Int) := by
  have hp : 2 ^ k < 2 ^ 64 := Nat.pow_lt_pow_right (by omega) hk
  have h1 : (BitVec.ofInt 64 (m : Int) &&& BitVec.ofInt 64 ((2 ^ k : Nat) : Int)).toNat = if m.testBit k = true then 2 ^ k else 0 := by
    rw [ofInt_nat, ofInt_nat]
    apply Nat.eq_of_testBit_eq
    intro i
    rw [← BitVec.getLsbD, BitVec.getLsbD_and, BitVec.getLsbD_ofNat, BitVec.getLsbD_ofNat]
    by_cases hik : i = k
    · subst hik
      cases h : m.testBit i <;> simp [hk, Nat.testBit_two_pow_self]
    · have : (2 ^ k).testBit i = false := Nat.testBit_two_pow_of_ne (Ne.symm hik)
      split <;> simp [this]
  show IntKind.u64.wrap ((BitVec.ofInt 64 (m : Int) &&& BitVec.ofInt 64 ((2 ^ k : Nat) : Int)).toNat : Int) = _
  rw [h1]
  apply wrap_u64
  split
  · exact hp
  · exact Nat.two_pow_pos 64
theorem andNotN (m k : Nat) (hm : m < 2 ^ 64) (hk : k < 64) : bits .andNot .u64 (m : Int) ((2 ^ k : Nat) : Int) = ((if m.testBit k = true then m ^^^ 2 ^ k else m : Nat) : Int) := by
  have hp : 2 ^ k < 2 ^ 64 := Nat.pow_lt_pow_right (by omega) hk
  have h1 : (BitVec.ofInt 64 (m : Int) &&& ~~~BitVec.ofInt 64 ((2 ^ k : Nat) : Int)).toNat = if m.testBit k = true then m ^^^ 2 ^ k else m := by
    rw [ofInt_nat, ofInt_nat]
    apply Nat.eq_of_testBit_eq
    intro i
    rw [← BitVec.getLsbD, BitVec.getLsbD_and, BitVec.getLsbD_not, BitVec.getLsbD_ofNat, BitVec.getLsbD_ofNat]
    by_cases hi : i < 64
    · by_cases hik : i = k
      · subst hik
        cases h : m.testBit i <;> simp [h, hi, Nat.testBit_xor, Nat.testBit_two_pow_self]
      · have : (2 ^ k).testBit i = false := Nat.testBit_two_pow_of_ne (Ne.symm hik)
        split <;> simp [hi, Nat.testBit_xor, this]
    · have h2 : m.testBit i = false := Nat.testBit_lt_two_pow (Nat.lt_of_lt_of_le hm (Nat.pow_le_pow_right (by omega) (by omega)))
      have h3 : (2 ^ k).testBit i = false := Nat.testBit_two_pow_of_ne (by omega)
      split <;> simp [hi, Nat.testBit_xor, h2, h3]
  show IntKind.u64.wrap ((BitVec.ofInt 64 (m : Int) &&& ~~~BitVec.ofInt 64 ((2 ^ k : Nat) : Int)).toNat : Int) = _
  rw [h1]
  apply wrap_u64
  split
  · exact Nat.xor_lt_two_pow hm hp
  · exact hm
theorem cellOf_map (ms : List RwM) (k q : Nat) (hk : k < ms.length) (hq : q < ms[k].cells.length) : cellOf (ms.map RwM.rw) k q = ms[k].cells[q].l := by
  simp [cellOf, RwM.rw, hk, hq]
/-- what left tells -/
def LeftPost (m : Nat) (w : World) (e : Ending) (w' : World) : Prop := e = .returned (.int .u64 (m : Int)) ∧ Below w.heap.size w w'
set_option maxRecDepth 20000 in
set_option maxHeartbeats 1000000 in
theorem left_any (qv : Value) (ms : List RwM) (A : Option Addr) (c : Nat) (m q : Nat) (a : Int) (hm : m < 2 ^ 64) (h64 : ms.length ≤ 63) (hq : ∀ r ∈ ms, q < r.cells.length) (w : World) (h : RowsP w A ms) :
    Calls Tryz.prog 153 #[.agg #[qv, .slice A ms.length c], .int .u64 m, .int .i64 q, .int .i64 a] w (LeftPost (lft (ms.map RwM.rw) q a m ms.length) w) := by
  have hbk := Blk.new w 62 [qv, .slice A ms.length c]
  have hx := ext_alloc w (.cells (List.toArray [qv, .slice A ms.length c]) 62)
  obtain ⟨W, hW⟩ : ∃ W, W = w.alloc (.cells (List.toArray [qv, .slice A ms.length c]) 62) := ⟨_, rfl⟩
  rw [← hW] at hx hbk
  have HX := Lib.hid hx
  have HR := Lib.hid (h.ext hx)
  have HW := Lib.hid hW
  have HQ := Lib.hid hq
  have r1 := hbk.cell 1 rfl
  have HM0 := Lib.hid hm
  clear hbk hx hW h hq hm
  go_enter Tryz.func153, Tryz.ntmps153
  go_upto_region 1 with fail
  rw [show w.alloc (.cells #[qv, .slice A ms.length c] 62) = W from HW.out.symm]
  clear HW
  go_wp2_with fail
  go_loopw [1, 14] (fun t1 t14 wr => ∃ (j z : Nat), t1 = .int .u64 z ∧ Hid (z = lft (ms.map RwM.rw) q a m j) ∧ t14 = .int .i64 j ∧ j ≤ ms.length ∧ Hid (Below W.heap.size W wr)) (fun _ t14 _ => ms.length - (intOf t14).toNat)
  case atStart => exact ⟨0, m, rfl, rfl, rfl, by omega, Below.refl _ _⟩
  case round =>
    obtain ⟨j, z, rfl, HZ, rfl, hj, HB⟩ := hrel
    by_cases hlt : j < ms.length
    · have HR2 := Lib.hid (HR.out.ext HB.out)
      obtain ⟨b, o, rfl, c0, c1⟩ := HR2.out.row hlt
      have hcl : (j : Int) < ms.length := by omega
      have hz : z < 2 ^ 64 := by rw [HZ.out]; exact lft_lt _ _ _ _ HM0.out _ (by omega)
      obtain ⟨P, hP⟩ : ∃ P : Int, P = ((2 ^ j : Nat) : Int) := ⟨_, rfl⟩
      have e1 := shlN j (by omega)
      have e2 := andN z j (by omega)
      have e3 := andNotN z j hz (by omega)
      have hP0 : 0 < P := by rw [hP]; exact_mod_cast Nat.two_pow_pos j
      rw [← hP] at e1 e2 e3
      have HP := Lib.hid hP
      clear hP hz
      have hq0 := HQ.out _ (List.getElem_mem hlt)
      obtain ⟨f, hf⟩ : ∃ f, f = fitC ms[j].cells[q].l a := ⟨_, rfl⟩
      have HF := Lib.hid (show ∀ w : World, CellsP w ms[j].A ms[j].cells → Calls Tryz.prog 184 #[.agg #[.slice ms[j].A ms[j].cells.length ms[j].c, .string ⟨ms[j].out.toArray⟩], .int .i64 q, .int .i64 a] w (RetA f w) from fun w h => by
        rw [hf]
        exact fits_any ms[j].cells ms[j].A ms[j].c ⟨ms[j].out.toArray⟩ q a hq0 w h)
      have HCs := Lib.hid (HR2.out.cells _ (List.getElem_mem hlt))
      have HS := Lib.hid (show lft (ms.map RwM.rw) q a m (j + 1) = if z.testBit j = true ∧ f = false then z ^^^ 2 ^ j else z by
        rw [lft, cellOf_map ms j q hlt hq0, ← HZ.out, hf])
      clear hf hq0
      generalize ms[j] = r at *
      obtain ⟨cs, rA, rc, ro⟩ := r
      simp only at c0 c1 HF HCs
      have b0 := cell_ext (ext_alloc wr (.cells #[.slice rA cs.length rc, .string ⟨ro.toArray⟩] 136)) c0
      cases hb : z.testBit j with
      | false =>
        simp only [hb] at e2 e3 HS
        simp only [Bool.false_eq_true, if_false, false_and] at e2 e3 HS
        rw [show ((0 : Nat) : Int) = 0 from rfl] at e2
        go_wp2_with fail
        go_roundw
        case rel => exact ⟨j + 1, z, rfl, HS.out.symm, by go_num, by omega, (ext_trans HB.out (ext_alloc wr _))⟩
        case measure => simp [intOf]; omega
      | true =>
        simp only [hb, if_true, true_and] at e2 e3 HS
        rw [show ((2 ^ j : Nat) : Int) = P from HP.out.symm] at e2
        have hPb : (P != 0) = true := by simp; omega
        have HFt := Lib.hid (HF.out _ (HCs.out.ext (ext_alloc wr (.cells #[.slice rA cs.length rc, .string ⟨ro.toArray⟩] 136))))
        go_wp2_with fail
        refine HFt.out.mono ?_
        rintro e w' ⟨rfl, hb2⟩
        have HB2 := Lib.hid (ext_trans (ext_trans HB.out (ext_alloc wr _)) hb2)
        clear hb2
        cases f with
        | true =>
          go_wp2_with fail
          go_roundw
          case rel => exact ⟨j + 1, z, rfl, (show z = lft (ms.map RwM.rw) q a m (j + 1) by rw [HS.out]; simp), by go_num, by omega, HB2.out⟩
          case measure => simp [intOf]; omega
        | false =>
          go_wp2_with fail
          go_roundw
          case rel => exact ⟨j + 1, z ^^^ 2 ^ j, rfl, (show z ^^^ 2 ^ j = lft (ms.map RwM.rw) q a m (j + 1) by rw [HS.out]; simp), by go_num, by omega, HB2.out⟩
          case measure => simp [intOf]; omega
    · obtain rfl : ms.length = j := by omega
      go_wp2_with fail
      go_ret
      exact ⟨by rw [HZ.out]; rfl, ext_trans HX.out HB.out⟩
/-- all rows -/
theorem all_any (qv : Value) (A : Option Addr) (n c : Nat) (h64 : n ≤ 63) (w : World) :
    Calls Tryz.prog 105 #[.agg #[qv, .slice A n c]] w (LeftPost (2 ^ n - 1) w) := by
  have hbk := Blk.new w 62 [qv, .slice A n c]
  have hx := ext_alloc w (.cells (List.toArray [qv, .slice A n c]) 62)
  obtain ⟨W, hW⟩ : ∃ W, W = w.alloc (.cells (List.toArray [qv, .slice A n c]) 62) := ⟨_, rfl⟩
  rw [← hW] at hx hbk
  have HX := Lib.hid hx
  have HW := Lib.hid hW
  have r1 := hbk.cell 1 rfl
  have e1 := shlN n (by omega)
  have hp : 0 < 2 ^ n := Nat.two_pow_pos n
  have hp2 : 2 ^ n < 2 ^ 64 := Nat.pow_lt_pow_right (by omega) (by omega)
  obtain ⟨P, hP⟩ : ∃ P, P = 2 ^ n := ⟨_, rfl⟩
  rw [← hP] at e1 hp hp2 ⊢
  have hp3 : P < 18446744073709551616 := hp2
  clear hp2 hP hbk hx hW
  go_enter Tryz.func105, Tryz.ntmps105
  go_upto_region 1 with fail
  rw [show w.alloc (.cells #[qv, .slice A n c] 62) = W from HW.out.symm]
  clear HW
  go_wp2_with fail
  go_ret
  refine ⟨?_, HX.out⟩
  rw [show ((P - 1 : Nat) : Int) = (P : Int) - 1 by omega]
  rfl
end Go.Proofs.YtdnhfcphmbhloaaGreatDoor.Gp

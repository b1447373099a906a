/- Gaps: tables in memory; whether a list has a number or a text; a row's fits, the rows left, all rows. -/
import Derived.Test.YtednlkchbjpabaaDoorGpP
import Derived.Test.YtednlkchbjpabaaDoorNest
import Derived.StillTailTactics
import Derived.Deep.RegionHeld3
import Derived.Deep.DeepCutAuto
import Derived.Deep.Quiet
import Derived.Deep.QuietTactic
import Derived.IntWalk
namespace Go.Proofs.YtednlkchbjpabaaDoor.Gp
open Go.RowKit Mem Nest Fk

/-- a cell of a row, a row, a question, as they lie in memory -/
structure CellM where
  l : Option (List Int)
  A : Option Addr
  c : Nat
def cellV (x : CellM) : Value := .slice x.A (x.l.getD []).length x.c
structure RwM where
  cells : List CellM
  A : Option Addr
  c : Nat
  out : List UInt8
def rwmCells (r : RwM) : List Value := [.slice r.A r.cells.length r.c, .string ⟨r.out.toArray⟩]
theorem rwmCells_len (r : RwM) : (rwmCells r).length = 2 := rfl
def RwM.rw (r : RwM) : Rw := ⟨r.cells.map (·.l), r.out⟩
def strsV (l : List (List UInt8)) : List Value := l.map fun s => .string ⟨s.toArray⟩
structure QnM where
  name : List UInt8
  ans : List (List UInt8)
  A : Option Addr
  c : Nat
def qmCells (r : QnM) : List Value := [.string ⟨r.name.toArray⟩, .slice r.A r.ans.length r.c]
theorem qmCells_len (r : QnM) : (qmCells r).length = 2 := rfl
def QnM.qn (r : QnM) : Qn := ⟨r.name, r.ans⟩
/-- a row's cells -/
structure CellsP (w : World) (A : Option Addr) (xs : List CellM) : Prop where
  row : Rd w A (xs.map cellV)
  ints : ∀ x ∈ xs, Rd w x.A (ints (x.l.getD []))
  isnil : ∀ x ∈ xs, x.l = none → x.A = none ∧ x.c = 0
  isrow : ∀ x ∈ xs, x.l ≠ none → x.A ≠ none
  len : ∀ x ∈ xs, (x.l.getD []).length ≤ 1048576
structure RowsP (w : World) (A : Option Addr) (ms : List RwM) : Prop where
  rows : Rd w A (ms.flatMap rwmCells)
  cells : ∀ m ∈ ms, CellsP w m.A m.cells
structure QsP (w : World) (A : Option Addr) (ms : List QnM) : Prop where
  rows : Rd w A (ms.flatMap qmCells)
  ans : ∀ m ∈ ms, Rd w m.A (strsV m.ans)
theorem CellsP.ext {w w' : World} {A : Option Addr} {xs : List CellM} (h : CellsP w A xs) (hb : Below w.heap.size w w') : CellsP w' A xs :=
  ⟨h.row.ext hb, fun x hx => (h.ints x hx).ext hb, h.isnil, h.isrow, h.len⟩
theorem RowsP.ext {w w' : World} {A : Option Addr} {ms : List RwM} (h : RowsP w A ms) (hb : Below w.heap.size w w') : RowsP w' A ms :=
  ⟨h.rows.ext hb, fun m hm => (h.cells m hm).ext hb⟩
theorem QsP.ext {w w' : World} {A : Option Addr} {ms : List QnM} (h : QsP w A ms) (hb : Below w.heap.size w w') : QsP w' A ms :=
  ⟨h.rows.ext hb, fun m hm => (h.ans m hm).ext hb⟩
theorem RowsP.row {w : World} {A : Option Addr} {ms : List RwM} (h : RowsP w A ms) {k : Nat} (hk : k < ms.length) :
    ∃ b o, A = some ⟨b, o, none⟩ ∧ w.cell? ⟨b, o + k * 2, none⟩ = some (.slice ms[k].A ms[k].cells.length ms[k].c) ∧ w.cell? ⟨b, o + k * 2 + 1, none⟩ = some (.string ⟨ms[k].out.toArray⟩) := by
  obtain ⟨b, o, e, hc⟩ := h.rows.row rwmCells_len hk (by omega)
  exact ⟨b, o, e, by simpa using hc 0 _ rfl, by simpa [Nat.add_assoc] using hc 1 _ rfl⟩
theorem QsP.row {w : World} {A : Option Addr} {ms : List QnM} (h : QsP w A ms) {k : Nat} (hk : k < ms.length) :
    ∃ b o, A = some ⟨b, o, none⟩ ∧ w.cell? ⟨b, o + k * 2, none⟩ = some (.string ⟨ms[k].name.toArray⟩) ∧ w.cell? ⟨b, o + k * 2 + 1, none⟩ = some (.slice ms[k].A ms[k].ans.length ms[k].c) := by
  obtain ⟨b, o, e, hc⟩ := h.rows.row qmCells_len hk (by omega)
  exact ⟨b, o, e, by simpa using hc 0 _ rfl, by simpa [Nat.add_assoc] using hc 1 _ rfl⟩
theorem CellsP.cell {w : World} {A : Option Addr} {xs : List CellM} (h : CellsP w A xs) {k : Nat} (hk : k < xs.length) :
    ∃ b o, A = some ⟨b, o, none⟩ ∧ w.cell? ⟨b, o + k, none⟩ = some (cellV xs[k]) := h.row k _ (by simp [hk])
theorem str_at {w : World} {A : Option Addr} {l : List (List UInt8)} (h : Rd w A (strsV l)) {k : Nat} (hk : k < l.length) :
    ∃ b o, A = some ⟨b, o, none⟩ ∧ w.cell? ⟨b, o + k, none⟩ = some (.string ⟨l[k].toArray⟩) := h k _ (by simp [strsV, hk])

set_option maxHeartbeats 400000 in
theorem indexg_any (hol : List Int) (hh : hol.length ≤ 1048576) (A : Option Addr) (hc : Nat) (d : Int) (w : World) (h : Rd w A (ints hol)) :
    Calls Tryd.prog 87 #[.slice A hol.length hc, .int .i64 d] w fun e w' => (∃ r : Int, e = .returned (.int .i64 r) ∧ (0 ≤ r ↔ d ∈ hol)) ∧ w = w' := by
  have HR := Lib.hid h
  clear h
  go_enter Tryd.func87, Tryd.ntmps87
  go_wp2_with fail
  go_loop [8] (fun t8 => ∃ j : Nat, t8 = .int .i64 j ∧ j ≤ hol.length ∧ Hid (∀ k (h : k < hol.length), k < j → hol[k] ≠ d)) (fun t8 => hol.length - (intOf t8).toNat)
  case atStart => exact ⟨0, rfl, Nat.zero_le _, fun k _ hk => absurd hk (by omega)⟩
  case round =>
    obtain ⟨j, rfl, hj, HN⟩ := hrel
    by_cases hlt : j < hol.length
    · obtain ⟨b, o, rfl, r0⟩ := HR.out j _ (show (ints hol)[j]? = some (.int .i64 hol[j]) by simp [ints, hlt])
      have hcl : (j : Int) < hol.length := by omega
      have HX := Lib.hid (fun (e : hol[j] = d) => (e ▸ List.getElem_mem hlt : d ∈ hol))
      have HN2 := Lib.hid (fun (hne : hol[j] ≠ d) => (show ∀ k (h : k < hol.length), k < j + 1 → hol[k] ≠ d from fun k h hk => by
        by_cases e : k = j
        · subst e; exact hne
        · exact HN.out k h (by omega)))
      generalize hol[j] = x at *
      by_cases hxd : x = d
      · have HC := Lib.hid (HX.out hxd)
        have hxd' : (d == x) = true := by simp [hxd]
        clear hxd HN2 HN
        go_wp2_with fail
        go_ret
        exact ⟨⟨_, rfl, iff_of_true (by omega) HC.out⟩, rfl⟩
      · have HNe := Lib.hid (HN2.out hxd)
        have hxd' : (d == x) = false := by simp; exact fun e => hxd e.symm
        clear hxd HN2 HN
        go_wp2_with fail
        go_round
        case rel => exact ⟨j + 1, by go_num, by omega, HNe.out⟩
        case measure => simp [intOf]; omega
    · obtain rfl : hol.length = j := by omega
      go_wp2_with fail
      go_ret
      refine ⟨⟨_, rfl, iff_of_false (by omega) fun e => ?_⟩, rfl⟩
      obtain ⟨k, hk, e⟩ := List.mem_iff_getElem.1 e
      exact HN.out k hk hk e
set_option maxHeartbeats 400000 in
theorem containsg_any (hol : List Int) (hh : hol.length ≤ 1048576) (A : Option Addr) (hc : Nat) (d : Int) (w : World) (h : Rd w A (ints hol)) :
    Calls Tryd.prog 68 #[.slice A hol.length hc, .int .i64 d] w (RetB (hol.contains d) w) := by
  have H := Lib.hid (indexg_any hol hh A hc d w h)
  clear h
  go_enter Tryd.func68, Tryd.ntmps68
  go_wp2_with fail
  refine H.out.mono ?_
  rintro e w' ⟨⟨r, rfl, hr⟩, rfl⟩
  have HR := Lib.hid hr
  clear hr
  go_wp2_with fail
  go_ret
  refine retb _ ?_
  rw [Bool.eq_iff_iff, List.contains_iff_mem, ← HR.out]
  simp
set_option maxHeartbeats 400000 in
theorem indexs_any (l : List (List UInt8)) (hh : l.length ≤ 1048576) (A : Option Addr) (hc : Nat) (d : List UInt8) (w : World) (h : Rd w A (strsV l)) :
    Calls Tryd.prog 86 #[.slice A l.length hc, .string ⟨d.toArray⟩] w fun e w' => (∃ r : Int, e = .returned (.int .i64 r) ∧ (0 ≤ r ↔ d ∈ l)) ∧ w = w' := by
  have HR := Lib.hid h
  clear h
  go_enter Tryd.func86, Tryd.ntmps86
  go_wp2_with fail
  go_loop [8] (fun t8 => ∃ j : Nat, t8 = .int .i64 j ∧ j ≤ l.length ∧ Hid (∀ k (h : k < l.length), k < j → l[k] ≠ d)) (fun t8 => l.length - (intOf t8).toNat)
  case atStart => exact ⟨0, rfl, Nat.zero_le _, fun k _ hk => absurd hk (by omega)⟩
  case round =>
    obtain ⟨j, rfl, hj, HN⟩ := hrel
    by_cases hlt : j < l.length
    · obtain ⟨b, o, rfl, r0⟩ := str_at HR.out hlt
      have hcl : (j : Int) < l.length := by omega
      have HX := Lib.hid (fun (e : l[j] = d) => (e ▸ List.getElem_mem hlt : d ∈ l))
      have HN2 := Lib.hid (fun (hne : l[j] ≠ d) => (show ∀ k (h : k < l.length), k < j + 1 → l[k] ≠ d from fun k h hk => by
        by_cases e : k = j
        · subst e; exact hne
        · exact HN.out k h (by omega)))
      generalize l[j] = x at *
      by_cases hxd : x = d
      · have HC := Lib.hid (HX.out hxd)
        have hxd' : (d == x) = true := by simp [hxd]
        clear hxd HN2 HN
        go_wp2_with fail
        go_ret
        exact ⟨⟨_, rfl, iff_of_true (by omega) HC.out⟩, rfl⟩
      · have HNe := Lib.hid (HN2.out hxd)
        have hxd' : (d == x) = false := by simp; exact fun e => hxd e.symm
        clear hxd HN2 HN
        go_wp2_with fail
        go_round
        case rel => exact ⟨j + 1, by go_num, by omega, HNe.out⟩
        case measure => simp [intOf]; omega
    · obtain rfl : l.length = j := by omega
      go_wp2_with fail
      go_ret
      refine ⟨⟨_, rfl, iff_of_false (by omega) fun e => ?_⟩, rfl⟩
      obtain ⟨k, hk, e⟩ := List.mem_iff_getElem.1 e
      exact HN.out k hk hk e
set_option maxHeartbeats 400000 in
theorem containss_any (l : List (List UInt8)) (hh : l.length ≤ 1048576) (A : Option Addr) (hc : Nat) (d : List UInt8) (w : World) (h : Rd w A (strsV l)) :
    Calls Tryd.prog 58 #[.slice A l.length hc, .string ⟨d.toArray⟩] w (RetB (l.contains d) w) := by
  have H := Lib.hid (indexs_any l hh A hc d w h)
  clear h
  go_enter Tryd.func58, Tryd.ntmps58
  go_wp2_with fail
  refine H.out.mono ?_
  rintro e w' ⟨⟨r, rfl, hr⟩, rfl⟩
  have HR := Lib.hid hr
  clear hr
  go_wp2_with fail
  go_ret
  refine retb _ ?_
  rw [Bool.eq_iff_iff, List.contains_iff_mem, ← HR.out]
  simp
theorem nil_ints (w : World) : (binOp .eql 34 (.slice none 0 0) (.slice none 0 0)).run Tryd.prog w = .ok (.bool true) w := by kernel_rfl
theorem some_ints (y : Addr) (n c : Nat) (w : World) : (binOp .eql 34 (.slice (some y) n c) (.slice none 0 0)).run Tryd.prog w = .ok (.bool false) w := by kernel_rfl
/-- a call that may make memory tells this -/
def RetA (b : Bool) (w : World) (e : Ending) (w' : World) : Prop := e = .returned (.bool b) ∧ Below w.heap.size w w'
theorem retA {a b : Bool} {w w' : World} (h : a = b) (hb : Below w.heap.size w w') : RetA b w (.returned (.bool a)) w' := ⟨by rw [h], hb⟩
set_option maxHeartbeats 400000 in
set_option maxRecDepth 20000 in
theorem fits_any (xs : List CellM) (A : Option Addr) (c : Nat) (s : ByteArray) (q : Nat) (a : Int) (hq : q < xs.length) (w : World) (h : CellsP w A xs) :
    Calls Tryd.prog 42 #[.agg #[.slice A xs.length c, .string s], .int .i64 q, .int .i64 a] w (RetA (fitC xs[q].l a) w) := by
  have hb1 := ext_alloc w (.cells (List.toArray [.slice A xs.length c, .string s]) 95)
  have bk := Blk.new w 95 [.slice A xs.length c, .string s]
  obtain ⟨W, hW⟩ : ∃ W, W = w.alloc (.cells (List.toArray [.slice A xs.length c, .string s]) 95) := ⟨_, rfl⟩
  rw [← hW] at bk hb1
  have HB := Lib.hid hb1
  obtain ⟨b, o, rfl, c0⟩ := (h.ext hb1).cell hq
  have r0 := bk.cell 0 rfl
  have hqn : xs[q] ∈ xs := List.getElem_mem hq
  have HI := Lib.hid ((h.ext hb1).ints _ hqn)
  have HN := Lib.hid (h.isnil _ hqn)
  have HS := Lib.hid (h.isrow _ hqn)
  have hlen := h.len _ hqn
  have hcl : (q : Int) < xs.length := by omega
  generalize xs[q] = x at *
  obtain ⟨l, B, cc⟩ := x
  have HW := Lib.hid hW
  clear bk h hqn hb1 hW
  unfold cellV at c0
  simp only at c0 hlen
  go_enter Tryd.func42, Tryd.ntmps42
  go_upto_region 1 with fail
  rw [show w.alloc (.cells #[.slice (some ⟨b, o, none⟩) xs.length c, .string s] 95) = W from HW.out.symm]
  clear HW
  cases l with
  | none =>
    obtain ⟨rfl, rfl⟩ := HN.out rfl
    simp only [Option.getD_none, List.length_nil] at c0
    have hnil := nil_ints W
    go_wp2_with fail
    go_ret
    exact ⟨rfl, HB.out⟩
  | some zs =>
    simp only [Option.getD_some] at c0 hlen
    have hB := HS.out (by simp)
    obtain ⟨y, rfl⟩ : ∃ y, B = some y := by cases B with | none => exact absurd rfl hB | some y => exact ⟨y, rfl⟩
    clear hB
    have hnil := some_ints y zs.length cc W
    have HC := Lib.hid (containsg_any zs hlen (some y) cc a W HI.out)
    go_wp2_with fail
    refine HC.out.mono ?_
    rintro e w' ⟨rfl, rfl⟩
    go_wp2_with fail
    go_ret
    refine retA ?_ HB.out
    simp [fitC]
end Go.Proofs.YtednlkchbjpabaaDoor.Gp

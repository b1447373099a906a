/- A theory's solver in memory: what its small functions read. -/
import Derived.Test.YtjnkcpeicocjhaaDoorThm
import Derived.Test.YtjnkcpeicocjhaaDoorMapSet
import Derived.Deep.Quiet
import Derived.Deep.QuietTactic
import Derived.BigQuiet
import Derived.IntWalk
namespace Go.Proofs.YtjnkcpeicocjhaaDoor.Sol
open Go.RowKit Mem Thy Nest Day Thm MapSet

theorem quiet_same {P : Program} {f : FuncId} {args : Array Value} {w : World} {n : Nat} {v : Value} (h : Calls P f args (w.drewN n) fun e w' => e = .returned v ∧ w.drewN n = w') :
    Calls P f args (w.drewN n) fun e w'' => e = .returned v ∧ ∃ m, w'' = w.drewN m := Calls.quiet_of_same (h.mono fun _ _ hh => ⟨hh.1, hh.2.symm⟩)
/-- where a solver and its theory lie -/
structure SvP where
  B : Nat
  N : Nat
  rs : List Rw
  RA : Option Addr
  rc : Nat
  ov : List (Int × Int)
  OA : Option Addr
  oc : Nat
  sb : Nat
  hb : Nat
  mb : Nat
  mn : Nat
  lo : Nat
def SvP.th (p : SvP) : Th := ⟨p.N, p.rs.map Rw.rl, p.ov⟩
def svCells (p : SvP) : List Value := [.int .i64 p.N, .slice p.RA p.rs.length p.rc, .slice p.OA p.ov.length p.oc, .slice (some ⟨p.sb, 0, none⟩) (2 * p.N) (2 * p.N), .slice (some ⟨p.hb, 0, none⟩) (2 * p.N) (2 * p.N), .map (some p.mb)]
def pairVal (x : Int × Int) : Value := .agg #[.int .i64 x.1, .int .i64 x.2]
structure SvP.Ok (p : SvP) : Prop where
  n : p.N ≤ 120
  rl : p.rs.length ≤ 120
  head : ∀ r ∈ p.rs, p.th.Lit r.head
  body : ∀ r ∈ p.rs, ∀ x ∈ r.body, p.th.Lit x
  bl : ∀ r ∈ p.rs, r.body.length ≤ 120
  d1 : p.B < p.lo
  dm : p.mb < p.lo
  d2 : p.lo ≤ p.sb
  d3 : p.lo ≤ p.hb
  d4 : p.sb ≠ p.hb
  ra : LowA p.lo p.RA (p.rs.flatMap rwCells)
  rb : ∀ r ∈ p.rs, LowA p.lo r.A (ints r.body)
structure Sv (w : World) (p : SvP) (S H : List Int) : Prop where
  blk : Blk w p.B 170 (svCells p)
  rules : Rws w p.RA p.rs
  sure : Blk w p.sb 3 (ints S)
  holds : Blk w p.hb 3 (ints H)
  abv : SetM Tryd.prog 145 4 w p.mb p.mn (fun v => ∃ x ∈ p.ov, v = pairVal x)
  ls : S.length = 2 * p.N
  lh : H.length = 2 * p.N
section
variable {w w' : World} {p : SvP} {S H : List Int}
theorem blk_ext {B : Nat} {T : TypeId} {cs : List Value} (h : Blk w B T cs) (hb : Below w.heap.size w w') : Blk w' B T cs := h.ext (hb.mono (show B + 1 ≤ _ from h.lt))
theorem Sv.ext (h : Sv w p S H) (hb : Below w.heap.size w w') : Sv w' p S H :=
  ⟨blk_ext h.blk hb, h.rules.ext hb, blk_ext h.sure hb, blk_ext h.holds hb, h.abv.ext hb, h.ls, h.lh⟩
theorem ints_at {zs : List Int} {B : Nat} (h : Blk w B 3 (ints zs)) {j : Nat} (hj : j < zs.length) : w.cell? ⟨B, j, none⟩ = some (.int .i64 zs[j]) := h.cell j (by simp [ints, hj])
theorem Sv.sure_at (h : Sv w p S H) {q : Int} (hq : p.th.Lit q) : w.cell? ⟨p.sb, place q, none⟩ = some (.int .i64 (stOf S q)) := by
  have hp : place q < S.length := by
    have := place_lt hq.1 hq.2.1 hq.2.2
    rw [h.ls]
    unfold SvP.th at this
    simp at this
    omega
  rw [ints_at h.sure hp]
  unfold stOf
  rw [if_neg hq.1]
  simp [List.getD, hp]
theorem Sv.holds_at (h : Sv w p S H) {q : Int} (hq : p.th.Lit q) : w.cell? ⟨p.hb, place q, none⟩ = some (.int .i64 (stOf H q)) := by
  have hp : place q < H.length := by
    have := place_lt hq.1 hq.2.1 hq.2.2
    rw [h.lh]
    unfold SvP.th at this
    simp at this
    omega
  rw [ints_at h.holds hp]
  unfold stOf
  rw [if_neg hq.1]
  simp [List.getD, hp]
theorem lit_bd {q : Int} (hq : p.th.Lit q) : q ≠ 0 ∧ -(p.N : Int) ≤ q ∧ q ≤ p.N := hq
end
set_option maxHeartbeats 400000 in
theorem place_any (q : Int) (h : q ≠ 0) (h1 : -120 ≤ q) (h2 : q ≤ 120) (w : World) :
    Calls Tryd.prog 116 #[.int .i64 q] w fun e w' => e = .returned (.int .i64 (place q : Nat)) ∧ w = w' := by
  by_cases hp : 0 < q
  · have HP := Lib.hid (show 2 * (q - 1) = ((place q : Nat) : Int) by unfold place; rw [if_pos hp]; omega)
    go_enter Tryd.func116, Tryd.ntmps116
    go_wp2_with fail
    go_ret
    exact ⟨ret_int HP.out, rfl⟩
  · have HP := Lib.hid (show 2 * (-q - 1) + 1 = ((place q : Nat) : Int) by unfold place; rw [if_neg hp]; omega)
    go_enter Tryd.func116, Tryd.ntmps116
    go_wp2_with fail
    go_ret
    exact ⟨ret_int HP.out, rfl⟩
set_option maxHeartbeats 400000 in
theorem sure_any (p : SvP) (S H : List Int) (ok : p.Ok) (q : Int) (hq : p.th.Lit q) (w : World) (h : Sv w p S H) :
    Calls Tryd.prog 83 #[.pointer (some ⟨p.B, 0, none⟩), .int .i64 q] w fun e w' => e = .returned (.int .i64 (stOf S q)) ∧ ∃ n, w' = w.drewN n := by
  have hc := h.sure_at hq
  have hs : w.cell? ⟨p.B, 3, none⟩ = some (.slice (some ⟨p.sb, 0, none⟩) (2 * p.N) (2 * p.N)) := h.blk.cell 3 rfl
  have hn := ok.n
  obtain ⟨q0, q1, q2⟩ := lit_bd hq
  have hp0 : (0 : Int) ≤ ((place q : Nat) : Int) := by omega
  have hp1 : ((place q : Nat) : Int) < ((2 * p.N : Nat) : Int) := by
    have := place_lt q0 q1 q2
    omega
  have HP := Lib.hid (place_any q q0 (by omega) (by omega))
  clear h hq ok
  go_enter Tryd.func83, Tryd.ntmps83
  go_wp2_with fail
  go_quiet ((go_at_call 116; exact quiet_same (HP.out _)))
  go_wp2_with fail
  go_ret
  exact ⟨rfl, _, rfl⟩
set_option maxHeartbeats 400000 in
theorem holds_any (p : SvP) (S H : List Int) (ok : p.Ok) (q : Int) (hq : p.th.Lit q) (w : World) (h : Sv w p S H) :
    Calls Tryd.prog 82 #[.pointer (some ⟨p.B, 0, none⟩), .int .i64 q] w fun e w' => e = .returned (.int .i64 (stOf H q)) ∧ ∃ n, w' = w.drewN n := by
  have hc := h.holds_at hq
  have hs : w.cell? ⟨p.B, 4, none⟩ = some (.slice (some ⟨p.hb, 0, none⟩) (2 * p.N) (2 * p.N)) := h.blk.cell 4 rfl
  have hn := ok.n
  obtain ⟨q0, q1, q2⟩ := lit_bd hq
  have hp0 : (0 : Int) ≤ ((place q : Nat) : Int) := by omega
  have hp1 : ((place q : Nat) : Int) < ((2 * p.N : Nat) : Int) := by
    have := place_lt q0 q1 q2
    omega
  have HP := Lib.hid (place_any q q0 (by omega) (by omega))
  clear h hq ok
  go_enter Tryd.func82, Tryd.ntmps82
  go_wp2_with fail
  go_quiet ((go_at_call 116; exact quiet_same (HP.out _)))
  go_wp2_with fail
  go_ret
  exact ⟨rfl, _, rfl⟩
/-- a pointer to the solver, captured -/
def CapS (w : World) (c : Value) (B : Nat) : Prop := ∃ g, c = .pointer (some ⟨g, 0, none⟩) ∧ Blk w g 139 [.pointer (some ⟨B, 0, none⟩)]
def CapQ (w : World) (c : Value) (q : Int) : Prop := ∃ g, c = .pointer (some ⟨g, 0, none⟩) ∧ Blk w g 3 [.int .i64 q]
theorem CapS.ext {w w' : World} {c : Value} {B : Nat} (h : CapS w c B) (hb : Below w.heap.size w w') : CapS w' c B := by
  obtain ⟨g, e, h⟩ := h
  exact ⟨g, e, blk_ext h hb⟩
theorem CapQ.ext {w w' : World} {c : Value} {q : Int} (h : CapQ w c q) (hb : Below w.heap.size w w') : CapQ w' c q := by
  obtain ⟨g, e, h⟩ := h
  exact ⟨g, e, blk_ext h hb⟩
end Go.Proofs.YtjnkcpeicocjhaaDoor.Sol

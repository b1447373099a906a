/- One line more of an entry: the ledger's own function. -/
import Derived.Test.YtjnkcpeicocjhaaDoorNest
import Derived.Test.YtjnkcpeicocjhaaDoorLPlain
import Derived.Deep.Quiet
import Derived.Deep.QuietTactic
import Derived.BigQuiet
import Derived.IntWalk
namespace Go.Proofs.YtjnkcpeicocjhaaDoor.Settle
open Go.RowKit Mem Pays Nest

def Acc.val : Acc → Value
  | .rights => .string ⟨#[114, 105, 103, 104, 116, 115]⟩
  | .paid => .string ⟨#[112, 97, 105, 100]⟩
  | .debts => .string ⟨#[100, 101, 98, 116, 115]⟩
def liCells (l : Line) : List Value := [l.1.val, .int .i64 l.2]
theorem liCells_len (l : Line) : (liCells l).length = 2 := rfl
/-- the block of the entry that is being made -/
def Box (w : World) (B : Nat) (d : Int) (L : Value) : Prop := Blk w B 56 [.int .i64 d, .string ⟨#[97, 110, 101, 119]⟩, L]
theorem line_info : (Tryd.prog.info? 119).map (fun i => (i.zero, i.size, i.bytes)) = some (some (.agg #[.string ⟨#[]⟩, .int .i64 0]), 2, 24) := by kernel_rfl
theorem put_zero (s : Value) (B : Nat) (w : World) : Calls Tryd.prog 40 #[s, .int .i64 0, .pointer (some ⟨B, 0, none⟩)] w fun e w' => (∃ v, e = .returned v) ∧ w = w' := by
  go_enter Tryd.func40, Tryd.ntmps40
  go_wp2_with fail
  go_end0
  exact ⟨⟨_, rfl⟩, rfl⟩
set_option maxRecDepth 100000 in
set_option maxHeartbeats 1000000 in
theorem put_some (a : Acc) (n : Int) (hn : n ≠ 0) (B : Nat) (d : Int) (L : Value) (ls : List Line) (hl : ls.length ≤ 5) (w : World) (hB : Box w B d L) (hO : w.ownsRow (B + 1) 119 2 L ls.length (ls.flatMap liCells)) :
    Calls Tryd.prog 40 #[a.val, .int .i64 n, .pointer (some ⟨B, 0, none⟩)] w fun e w' => (∃ v, e = .returned v) ∧ ∃ L', Box w' B d L' ∧ w'.ownsRow (B + 1) 119 2 L' (ls ++ [(a, n)]).length ((ls ++ [(a, n)]).flatMap liCells) ∧ Below B w w' := by
  have h0 : (n == 0) = false := by rw [beq_eq_false_iff_ne]; exact hn
  obtain ⟨b, hb⟩ : ∃ b, a.val = .string b := by cases a <;> exact ⟨_, rfl⟩
  have HLC := Lib.hid (show liCells (a, n) = [.string b, .int .i64 n] by unfold liCells; rw [hb])
  rw [hb]
  have HB := Lib.hid (show Blk w B _ _ from hB)
  have HO := Lib.hid hO
  have hs0 := HB.out.lt
  have x2 := HB.out.cell 2 rfl
  obtain ⟨i0, hi, hz0, hz1, hz2⟩ := info_parts line_info
  have HI := Lib.hid hi
  have HZ0 := Lib.hid hz0
  have HZ1 := Lib.hid hz1
  have HZ2 := Lib.hid hz2
  clear hi hz0 hz1 hz2 hB hO hn hb
  go_enter Tryd.func40, Tryd.ntmps40
  go_wp2_with (at_builtin; go_loud (refine wpList_append_own _ rfl (.tmp 8) (.tmp 12) _ rfl (B + 1) 119 i0 _ 2 24 Tryd.underlying54 HI.out HZ0.out HZ1.out HZ2.out rfl (by omega) L ls.length _ rfl (World.ownsRow.alloc HO.out _) ⟨w.heap.size, 0, none⟩ 1 1 [.string b, .int .i64 n] rfl rfl (new_cells w [.string b, .int .i64 n] _ _ rfl) (by intro u hu; simp only [List.mem_cons, List.not_mem_nil, or_false] at hu; rcases hu with rfl | rfl <;> rfl) (by simp only [maxLen]; omega) (by omega) (by simp; omega) ?_; intro v1 w1 hown1 hg1 _; obtain ⟨A1, c1, hv1, _⟩ := own_slice hown1; subst hv1; have HO1 := Lib.hid hown1; have HB1 := Lib.hid (Below.grown (B := B + 1) ((Below.refl _ w).alloc hs0 (.cells #[.string b, .int .i64 n] 119)) hg1 (by simp; omega) (fun g hg => (HO.out.lt g hg).1)); have HX1 := Lib.hid (HB.out.ext HB1.out); have z1 := HX1.out.cell 2 rfl; have z2 := HX1.out.free 2; clear hown1 hg1))
  go_end0
  refine ⟨⟨_, rfl⟩, _, HX1.out.set 2 _, ?_, Below.setCell (Below.mono HB1.out (show B ≤ B + 1 by omega)) (p := ⟨B, 2, none⟩) (Nat.le_refl _) _⟩
  have ho := ownsRow_setCell_below HO1.out (a := ⟨B, 2, none⟩) (by simp) (.slice A1 (ls.length + 1) c1)
  rw [List.flatMap_append, List.flatMap_singleton, HLC.out, List.length_append]
  exact ho
def addL (a : Acc) (n : Int) : List Line := if n = 0 then [] else [(a, n)]
/-- what a line more leaves -/
def PutPost (ls : List Line) (B : Nat) (d : Int) (w : World) (e : Ending) (w' : World) : Prop :=
  (∃ v, e = .returned v) ∧ ∃ A c, Box w' B d (.slice A ls.length c) ∧ w'.ownsRow (B + 1) 119 2 (.slice A ls.length c) ls.length (ls.flatMap liCells) ∧ Below B w w'
theorem put_any (a : Acc) (n : Int) (B : Nat) (d : Int) (A : Option Addr) (c : Nat) (ls : List Line) (hl : ls.length ≤ 5) (w : World) (hB : Box w B d (.slice A ls.length c)) (hO : w.ownsRow (B + 1) 119 2 (.slice A ls.length c) ls.length (ls.flatMap liCells)) :
    Calls Tryd.prog 40 #[a.val, .int .i64 n, .pointer (some ⟨B, 0, none⟩)] w (PutPost (ls ++ addL a n) B d w) := by
  by_cases h : n = 0
  · subst h
    refine (put_zero _ _ _).mono ?_
    rintro e w' ⟨he, rfl⟩
    refine ⟨he, A, c, ?_, ?_, Below.refl _ _⟩
    · simpa [addL] using hB
    · simpa [addL] using hO
  · refine (put_some a n h B d _ ls hl w hB hO).mono ?_
    rintro e w' ⟨he, L', h1, h2, h3⟩
    obtain ⟨A', c', rfl, _⟩ := own_slice h2
    refine ⟨he, A', c', ?_, ?_, h3⟩
    · simpa [addL, h] using h1
    · simpa [addL, h] using h2
end Go.Proofs.YtjnkcpeicocjhaaDoor.Settle

/- reason.Valid: literals, and what is asked of a theory. -/
import Derived.Test.YtipbmpakdcmdoaaDoorRings3
import Derived.Test.YtipbmpakdcmdoaaDoorSol
namespace Go.Proofs.YtipbmpakdcmdoaaDoor.Val
open Go.RowKit Mem Thy Nest Day Thm

def LitW (N q : Int) : Prop := q ≠ 0 ∧ IntKind.i64.wrap (-N) ≤ q ∧ q ≤ N
theorem litW_iff {N q : Int} (h0 : 0 ≤ N) (h1 : N ≤ 120) : LitW N q ↔ q ≠ 0 ∧ -N ≤ q ∧ q ≤ N := by
  unfold LitW
  rw [IntWalk.i64_in _ (by omega)]
def thVal (N : Int) (rs : List Rw) (RA : Option Addr) (rc : Nat) (ov : List (Int × Int)) (OA : Option Addr) (oc : Nat) : Value := .agg #[.int .i64 N, .slice RA rs.length rc, .slice OA ov.length oc]
def thCells (N : Int) (rs : List Rw) (RA : Option Addr) (rc : Nat) (ov : List (Int × Int)) (OA : Option Addr) (oc : Nat) : List Value := [.int .i64 N, .slice RA rs.length rc, .slice OA ov.length oc]
set_option maxHeartbeats 400000 in
theorem literal_any (N q : Int) (A B : Option Addr) (n1 c1 n2 c2 : Nat) (w : World) :
    Calls Tryd.prog 67 #[.agg #[.int .i64 N, .slice A n1 c1, .slice B n2 c2], .int .i64 q] w (BoolOf w (LitW N q)) := by
  obtain ⟨M, hM⟩ : ∃ M, IntKind.i64.wrap (-N) = M := ⟨_, rfl⟩
  have HX := Lib.hid (ext_alloc w (.cells #[.int .i64 N, .slice A n1 c1, .slice B n2 c2] 66))
  have HM := Lib.hid hM
  by_cases h0 : q = 0
  · subst h0
    go_enter Tryd.func67, Tryd.ntmps67
    go_wp2_with fail
    go_ret
    exact ⟨_, rfl, by simp [LitW], HX.out⟩
  · have h0' : (q != 0) = true := by simp [h0]
    have H0 := Lib.hid h0
    clear h0
    by_cases h1 : M ≤ q
    · by_cases h2 : q ≤ N
      · have h2' : decide (q ≤ N) = true := by simp [h2]
        have h1' : decide (M ≤ q) = true := by simp [h1]
        go_enter Tryd.func67, Tryd.ntmps67
        go_wp2_with fail
        go_ret
        exact ⟨_, rfl, by simp [LitW, HM.out, H0.out, h1, h2], HX.out⟩
      · have h2' : decide (q ≤ N) = false := by simp [h2]
        have h1' : decide (M ≤ q) = true := by simp [h1]
        go_enter Tryd.func67, Tryd.ntmps67
        go_wp2_with fail
        go_ret
        exact ⟨_, rfl, by simp [LitW, h2], HX.out⟩
    · have h1' : decide (M ≤ q) = false := by simp [h1]
      go_enter Tryd.func67, Tryd.ntmps67
      go_wp2_with fail
      go_ret
      exact ⟨_, rfl, by simp [LitW, HM.out]; intro _ h; omega, HX.out⟩
/-- the theory's own block, captured -/
def CapT (w : World) (c : Value) (cs : List Value) : Prop := ∃ g, c = .pointer (some ⟨g, 0, none⟩) ∧ Blk w g 66 cs
theorem CapT.ext {w w' : World} {c : Value} {cs : List Value} (h : CapT w c cs) (hb : Below w.heap.size w w') : CapT w' c cs := by
  obtain ⟨g, e, h⟩ := h
  exact ⟨g, e, Sol.blk_ext h hb⟩
set_option maxHeartbeats 400000 in
theorem val1_any (N x : Int) (A B : Option Addr) (n1 c1 n2 c2 : Nat) (c : Value) (w : World) (hw : CapT w c [.int .i64 N, .slice A n1 c1, .slice B n2 c2]) :
    Calls Tryd.prog 81 #[.int .i64 x, c] w (BoolOf w (¬ LitW N x)) := by
  obtain ⟨g, rfl, hg⟩ := hw
  have x0 := hg.cell 0 rfl
  have x1 := hg.cell 1 rfl
  have x2 := hg.cell 2 rfl
  clear hg
  go_enter Tryd.func81, Tryd.ntmps81
  go_wp2_with fail
  refine (literal_any N x A B n1 c1 n2 c2 _).mono ?_
  rintro e w' ⟨b, rfl, hb1, hb2⟩
  have HB1 := Lib.hid hb1
  have HB2 := Lib.hid hb2
  clear hb1 hb2
  go_wp2_with fail
  go_ret
  refine ⟨_, rfl, ?_, HB2.out⟩
  have h := HB1.out
  rw [← h]
  cases b <;> simp
end Go.Proofs.YtipbmpakdcmdoaaDoor.Val

/- Terms' texts: the units' row, the error that is handed back, what stands at a place. -/
import Derived.Test.YtpbmamcmmogidaaDoorTmP
import Derived.Test.YtpbmamcmmogidaaDoorCnK
import Derived.Test.YtpbmamcmmogidaaDoorFlt
import Derived.WalkKit
import Derived.WalkSpells
import Derived.WalkSmall
import Derived.BigRegion
import Derived.BigQuiet
import Derived.Deep.QuietTactic
import Derived.Lib.Hide
import Derived.Deep.CutBlock
import Derived.Deep.DeepCutAuto
import Derived.Deep.Cut
import Derived.Laws.RangeString
import Derived.Deep.LoopGhost
import Derived.IntWalk
namespace Go.Proofs.YtpbmamcmmogidaaDoor.Tm
open Go.RowKit Mem Nest Cn Err Flt

theorem hasp_any (r p : List UInt8) (w : World) : Calls Tryd.prog 80 #[.string ⟨r.toArray⟩, .string ⟨p.toArray⟩] w fun e w' => e = .returned (.bool (hasP r p)) ∧ w = w' :=
  (Tryd.strings_HasPrefix ⟨r.toArray⟩ ⟨p.toArray⟩ w).mono fun _ _ ⟨h1, h2⟩ => ⟨h1, h2.symm⟩
theorem blk_set {w : World} {B : Nat} {T : TypeId} {cs : List Value} (h : Blk w B T cs) {a : Addr} (ha : B ≠ a.block) (v : Value) : Blk (w.setCell a v) B T cs := by
  unfold Blk at h ⊢
  simp [World.setCell, Array.getElem?_modify, h, Ne.symm ha]
def wds : List (List UInt8) := [wd 0, wd 1, wd 2, wd 3, wd 4]
theorem cell_set_other {w : World} {p a : Addr} {u : Value} (h : w.cell? p = some u) (hne : p.block ≠ a.block) (v : Value) : (w.setCell a v).cell? p = some u := by
  rw [← h]
  simp [World.cell?, World.setCell, Array.getElem?_modify, Ne.symm hne]
/-- the row of the units' words -/
def UnitsAt (w : World) (B : Nat) : Prop := ∀ i, i < 5 → w.cell? ⟨B, i, none⟩ = some (strV (wd i))
theorem units_at {w : World} {B : Nat} (h : Blk w B 9 [strV (wd 0), strV (wd 1), strV (wd 2), strV (wd 3), strV (wd 4)]) : UnitsAt w B := by
  intro i hi
  rcases (show i = 0 ∨ i = 1 ∨ i = 2 ∨ i = 3 ∨ i = 4 by omega) with rfl | rfl | rfl | rfl | rfl
  · exact h.cell 0 rfl
  · exact h.cell 1 rfl
  · exact h.cell 2 rfl
  · exact h.cell 3 rfl
  · exact h.cell 4 rfl
theorem UnitsAt.ext {w w' : World} {B : Nat} (h : UnitsAt w B) (hb : Below w.heap.size w w') : UnitsAt w' B := fun i hi => cell_ext hb (h i hi)
def UnitsPost (w : World) (e : Ending) (w' : World) : Prop := ∃ B, e = .returned (.slice (some ⟨B, 0, none⟩) 5 5) ∧ UnitsAt w' B ∧ Below w.heap.size w w'
theorem units_any (w : World) : Calls Tryd.prog 79 #[] w (UnitsPost w) := by
  have hN := units_at (Blk.new w 9 [strV (wd 0), strV (wd 1), strV (wd 2), strV (wd 3), strV (wd 4)])
  have HX := Lib.hid hN
  have HB := Lib.hid (ext_alloc w (.cells (List.toArray [strV (wd 0), strV (wd 1), strV (wd 2), strV (wd 3), strV (wd 4)]) 9))
  clear hN
  go_enter Tryd.func79, Tryd.ntmps79
  go_wp2_with fail
  go_ret
  exact ⟨w.heap.size, rfl, HX.out, HB.out⟩
def WrongPost (A : Nat → Addr) (n : Int) (w : World) (e : Ending) (w' : World) : Prop :=
  ∃ b, e = .returned (.tuple #[.agg #[.int .i64 0, .int .i64 0, .int .i64 0], faultV b]) ∧ w.heap.size ≤ b ∧ w'.cell? ⟨b, 0, none⟩ = some (.int .i64 n) ∧ w'.cell? ⟨b, 1, none⟩ = some (sentV (A 0)) ∧ Below w.heap.size w w'
set_option maxHeartbeats 1000000 in
theorem wrong_any (n : Int) (A : Nat → Addr) (w : World) (h : Errs w A) : Calls Tryd.prog 78 #[.int .i64 n] w (WrongPost A n w) := by
  have hx := ext_alloc w (.cells #[.int .i64 0, .int .i64 0, .int .i64 0] 46)
  have b2 := Blk.new w 46 [.int .i64 0, .int .i64 0, .int .i64 0]
  obtain ⟨W, hW⟩ : ∃ W, W = w.alloc (.cells #[.int .i64 0, .int .i64 0, .int .i64 0] 46) := ⟨_, rfl⟩
  have ht := cell_ext hx h.v0
  have HX := Lib.hid hx
  rw [show w.alloc (.cells (List.toArray [.int .i64 0, .int .i64 0, .int .i64 0]) 46) = W from hW.symm] at b2
  rw [← hW] at ht HX
  have HBl := Lib.hid b2
  have z0 := b2.cell 0 rfl
  have z1 := b2.cell 1 rfl
  have z2 := b2.cell 2 rfl
  have f0 := b2.free 0
  have f1 := b2.free 1
  have f2 := b2.free 2
  have hlt := b2.lt
  have hg := cell_lt h.v0
  simp only at hg
  have hts : (((W.setCell ⟨w.heap.size, 0, none⟩ (.int .i64 0)).setCell ⟨w.heap.size, 1, none⟩ (.int .i64 0)).setCell ⟨w.heap.size, 2, none⟩ (.int .i64 0)).cell? ⟨1, 0, none⟩ = some (sentV (A 0)) :=
    cell_set_other (cell_set_other (cell_set_other ht (show 1 ≠ w.heap.size by omega) _) (show 1 ≠ w.heap.size by omega) _) (show 1 ≠ w.heap.size by omega) _
  unfold sentV at ht hts
  clear h hx b2
  go_enter Tryd.func78, Tryd.ntmps78
  go_wp2_with fail
  rw [← hW]
  clear hW
  have HB3 := Lib.hid (((HBl.out.set 0 (.int .i64 0)).set 1 (.int .i64 0)).set 2 (.int .i64 0))
  have HX3 := Lib.hid (show Below w.heap.size w (((W.setCell ⟨w.heap.size, 0, none⟩ (.int .i64 0)).setCell ⟨w.heap.size, 1, none⟩ (.int .i64 0)).setCell ⟨w.heap.size, 2, none⟩ (.int .i64 0)) from
    ((HX.out.setCell (by simp) _).setCell (by simp) _).setCell (by simp) _)
  go_region
  go_wp2_with fail
  obtain ⟨W3, hW3⟩ : ∃ W3, W3 = (((W.setCell ⟨w.heap.size, 0, none⟩ (.int .i64 0)).setCell ⟨w.heap.size, 1, none⟩ (.int .i64 0)).setCell ⟨w.heap.size, 2, none⟩ (.int .i64 0)) := ⟨_, rfl⟩
  have HB4 := HB3.out
  have HX4 := HX3.out
  have hsz : W3.heap.size = W.heap.size := by rw [hW3]; simp
  rw [← hW3] at HB4 HX4 ⊢
  rw [← hsz]
  have hN := Blk.new W3 151 [.int .i64 n, sentV (A 0)]
  have hb := ext_trans (ext_alloc W3 (.cells (List.toArray [.int .i64 n, sentV (A 0)]) 151)) (ext_drewN _ 1)
  have hM := hN.ext ((ext_drewN _ 1).mono (show W3.heap.size + 1 ≤ _ from hN.lt))
  have hR := HB4.ext ((ext_alloc W3 (.cells (List.toArray [.int .i64 n, sentV (A 0)]) 151)).mono (show w.heap.size + 1 ≤ _ from HB4.lt))
  have s0 := hR.cell 0 rfl
  have s1 := hR.cell 1 rfl
  have s2 := hR.cell 2 rfl
  unfold sentV at hb hM s0 s1 s2
  refine bodyPost_ret (v := .tuple #[.agg #[.int .i64 0, .int .i64 0, .int .i64 0], faultV W3.heap.size]) (by simp [results, Tryd.results78, go_sem, s0, s1, s2, faultV]) rfl ?_
  exact ⟨_, rfl, by omega, hM.cell 0 rfl, hM.cell 1 rfl, HX4.trans (hb.mono HX4.size)⟩
end Go.Proofs.YtpbmamcmmogidaaDoor.Tm

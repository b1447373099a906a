/- Terms' texts: the document's ReadTerm. -/
import Derived.Test.YtpbmamcmmogidaaDoorTmR
import Derived.Test.YtpbmamcmmogidaaDoorTmN
namespace Go.Proofs.YtpbmamcmmogidaaDoor.Tm
open Go.RowKit Mem Nest Cn Err Flt

/-- the places of the document's answer -/
structure DW (w wr : World) : Prop where
  t : Blk wr w.heap.size 45 [.int .i64 0, .int .i64 0, .int .i64 0]
  f : Blk wr (w.heap.size + 1) 36 [.int .i64 0, .int .i64 0]
  b : Below w.heap.size w wr
theorem DW.ext {w wr wr' : World} (h : DW w wr) (hb : Below wr.heap.size wr wr') : DW w wr' :=
  ⟨h.t.ext (hb.mono (show w.heap.size + 1 ≤ _ from h.t.lt)), h.f.ext (hb.mono (show w.heap.size + 1 + 1 ≤ _ from h.f.lt)), h.b.trans (hb.mono h.b.size)⟩
theorem DW.new (w : World) : DW w ((w.alloc (.cells #[.int .i64 0, .int .i64 0, .int .i64 0] 45)).alloc (.cells #[.int .i64 0, .int .i64 0] 36)) := by
  have h1 := Blk.new w 45 [.int .i64 0, .int .i64 0, .int .i64 0]
  have hx1 := ext_alloc w (.cells #[.int .i64 0, .int .i64 0, .int .i64 0] 45)
  have h2 := Blk.new (w.alloc (.cells #[.int .i64 0, .int .i64 0, .int .i64 0] 45)) 36 [.int .i64 0, .int .i64 0]
  have hx2 := ext_alloc (w.alloc (.cells #[.int .i64 0, .int .i64 0, .int .i64 0] 45)) (.cells #[.int .i64 0, .int .i64 0] 36)
  exact ⟨h1.ext (hx2.mono (show w.heap.size + 1 ≤ _ from h1.lt)), by simpa using h2, ext_trans hx1 hx2⟩
/-- the world behind both stores of an answer -/
def put5 (w wr : World) (x y z c a : Int) : World :=
  ((((wr.setCell ⟨w.heap.size, 0, none⟩ (.int .i64 x)).setCell ⟨w.heap.size, 1, none⟩ (.int .i64 y)).setCell ⟨w.heap.size, 2, none⟩ (.int .i64 z)).setCell ⟨w.heap.size + 1, 0, none⟩ (.int .i64 c)).setCell ⟨w.heap.size + 1, 1, none⟩ (.int .i64 a)
theorem d_ret {w wr : World} (h : DW w wr) (x y z c a : Int) :
    (put5 w wr x y z c a).cell? ⟨w.heap.size, 0, none⟩ = some (.int .i64 x) ∧ (put5 w wr x y z c a).cell? ⟨w.heap.size, 1, none⟩ = some (.int .i64 y) ∧ (put5 w wr x y z c a).cell? ⟨w.heap.size, 2, none⟩ = some (.int .i64 z) ∧
    (put5 w wr x y z c a).cell? ⟨w.heap.size + 1, 0, none⟩ = some (.int .i64 c) ∧ (put5 w wr x y z c a).cell? ⟨w.heap.size + 1, 1, none⟩ = some (.int .i64 a) ∧ Below w.heap.size w (put5 w wr x y z c a) := by
  have h1 := ((h.t.set 0 (.int .i64 x)).set 1 (.int .i64 y)).set 2 (.int .i64 z)
  have h2 := blk_set (blk_set h1 (a := ⟨w.heap.size + 1, 0, none⟩) (by simp) (.int .i64 c)) (a := ⟨w.heap.size + 1, 1, none⟩) (by simp) (.int .i64 a)
  have k1 := blk_set (blk_set (blk_set h.f (a := ⟨w.heap.size, 0, none⟩) (by simp) (.int .i64 x)) (a := ⟨w.heap.size, 1, none⟩) (by simp) (.int .i64 y)) (a := ⟨w.heap.size, 2, none⟩) (by simp) (.int .i64 z)
  have k2 := (k1.set 0 (.int .i64 c)).set 1 (.int .i64 a)
  refine ⟨h2.cell 0 rfl, h2.cell 1 rfl, h2.cell 2 rfl, k2.cell 0 rfl, k2.cell 1 rfl, ?_⟩
  exact ((((h.b.setCell (by simp) _).setCell (by simp) _).setCell (by simp) _).setCell (by simp) _).setCell (by simp) _
end Go.Proofs.YtpbmamcmmogidaaDoor.Tm

/- A theory's solver is made. -/
import Derived.Test.YtjfiodknjchngaaGreatDoorSol2
import Derived.Deep.RegionHeld3
import Derived.Laws.MakeOwn
import Derived.StillTailTactics
import Derived.RegionTactic
import Derived.Deep.DeepCutAuto
namespace Go.Proofs.YtjfiodknjchngaaGreatDoor.Sol
open Go.RowKit Mem Thy Nest Day Thm MapSet

theorem int_info : (Tryz.prog.info? 3).map (fun i => (i.zero, i.size, i.bytes)) = some (some (.int .i64 0), 1, 8) := by kernel_rfl
theorem make_ints (n : Nat) (hn : n ≤ 1000000) (w : World) : (Instr.makeSlice 24 (.int .i64 (n : Int)) (.int .i64 (n : Int))).run Tryz.prog w = .ok (.slice (some ⟨w.heap.size, 0, none⟩) n n) (w.alloc (.cells (ints (List.replicate n 0)).toArray 3)) := by
  obtain ⟨i0, hi, hz0, hz1, hz2⟩ := info_parts int_info
  have h := run_makeSlice (P := Tryz.prog) w 24 3 i0 _ Tryz.underlying24 hi hz0 .i64 .i64 n n (by omega) (by omega) (by rw [hz1]; simp; omega) (by rw [hz2]; omega) (by omega)
  rw [hz1] at h
  simp only [Int.toNat_natCast, Nat.mul_one] at h
  have e : madeCells (Value.int .i64 0).cells n = (ints (List.replicate n 0)).toArray := by
    apply Array.ext
    · simp [madeCells, ints]
    · intro j h1 h2
      simp [madeCells, ints, Value.cells, Nat.mod_one]
  rw [e] at h
  exact h
theorem alloc5 (w : World) (a b c d e : Obj) : ∃ W, W = (((((w.alloc a).alloc b).alloc c).alloc d).alloc e) ∧ W.heap[w.heap.size]? = some a ∧ W.heap[w.heap.size + 2]? = some c ∧ W.heap[w.heap.size + 3]? = some d ∧ W.heap[w.heap.size + 4]? = some e ∧ Below w.heap.size w W ∧ Below (w.heap.size + 2) ((w.alloc a).alloc b) W := by
  have x1 := ext_alloc w a
  have x2 := ext_alloc (w.alloc a) b
  have x3 := ext_alloc ((w.alloc a).alloc b) c
  have x4 := ext_alloc (((w.alloc a).alloc b).alloc c) d
  have x5 := ext_alloc ((((w.alloc a).alloc b).alloc c).alloc d) e
  have y45 := ext_trans x4 x5
  have y35 := ext_trans x3 y45
  have s1 : (w.alloc a).heap.size = w.heap.size + 1 := by simp
  have s2 : ((w.alloc a).alloc b).heap.size = w.heap.size + 2 := by simp
  have s3 : (((w.alloc a).alloc b).alloc c).heap.size = w.heap.size + 3 := by simp
  have s4 : ((((w.alloc a).alloc b).alloc c).alloc d).heap.size = w.heap.size + 4 := by simp
  refine ⟨_, rfl, ?_, ?_, ?_, ?_, ext_trans x1 (ext_trans x2 y35), s2 ▸ y35⟩
  · rw [(ext_trans x2 y35).block _ (by omega)]; exact heap_alloc_new w a
  · have h := heap_alloc_new ((w.alloc a).alloc b) c
    rw [s2] at h
    rw [y45.block _ (by omega)]; exact h
  · have h := heap_alloc_new (((w.alloc a).alloc b).alloc c) d
    rw [s3] at h
    rw [x5.block _ (by omega)]; exact h
  · have h := heap_alloc_new ((((w.alloc a).alloc b).alloc c).alloc d) e
    rw [s4] at h
    exact h
def solCells (N : Nat) (rs : List Rw) (RA : Option Addr) (rc : Nat) (ov : List (Int × Int)) (OA : Option Addr) (oc mb sb hb : Nat) : List Value := [.int .i64 N, .slice RA rs.length rc, .slice OA ov.length oc, .slice (some ⟨sb, 0, none⟩) (2 * N) (2 * N), .slice (some ⟨hb, 0, none⟩) (2 * N) (2 * N), .map (some mb)]
section
variable {w wr w1 : World} {N : Nat} {rs : List Rw} {RA : Option Addr} {rc : Nat} {ov : List (Int × Int)} {OA : Option Addr} {oc sb hb j : Nat}
theorem blk_grown {B row : Nat} {T : TypeId} {cs : List Value} (h : Blk wr B T cs) (hg : wr.grownBy w1 (some row)) (hne : B ≠ row) : Blk w1 B T cs := by
  have hl := h.lt
  unfold Blk at h ⊢
  rw [hg.block B hl (by simpa using hne)]
  exact h
end
end Go.Proofs.YtjfiodknjchngaaGreatDoor.Sol

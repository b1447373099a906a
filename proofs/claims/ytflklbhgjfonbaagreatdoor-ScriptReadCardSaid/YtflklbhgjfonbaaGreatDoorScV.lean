/- Laws as texts: the document's builder: what it holds, and the item at a level. -/
import Derived.Test.YtflklbhgjfonbaaGreatDoorScP
import Derived.Test.YtflklbhgjfonbaaGreatDoorScT
import Derived.Deep.RegionHeld3
namespace Go.Proofs.YtflklbhgjfonbaaGreatDoor.Sc
open Go.RowKit Mem Nest Fk Err Lk Gp

/-- the numbers of kids on the way, from level k on -/
def waysF (lv : Nat → Lv) (k d : Nat) : List Value := (List.range d).map fun i => .int .i64 ((lv (k + i)).ks.length : Int)
theorem ways_at {lv : Nat → Lv} {k d i : Nat} (h : i < d) : (waysF lv k d)[i]? = some (.int .i64 ((lv (k + i)).ks.length : Int)) := by
  simp [waysF, List.getElem?_range h]
theorem ways_tail (lv : Nat → Lv) (k d : Nat) : waysF lv k (d + 1) = .int .i64 ((lv k).ks.length : Int) :: waysF lv (k + 1) d := by
  unfold waysF
  rw [List.range_succ_eq_map, List.map_cons, List.map_map]
  congr 1
  refine List.map_congr_left fun i _ => ?_
  show Value.int .i64 ((lv (k + (i + 1))).ks.length : Int) = Value.int .i64 ((lv (k + 1 + i)).ks.length : Int)
  rw [show k + (i + 1) = k + 1 + i from by omega]
/-- the builder at block bb; colours: 3: the builder, 2: its way -/
structure Bdr (B : Nat) (col : Nat → Nat) (w : World) (bb n m : Nat) (lv : Nat → Lv) (WA : Option Addr) (wc : Nat) : Prop where
  sp : SpL B col w n lv
  blk : Blk w bb 62 ((lv 0).hdr (decide (0 < n)) ++ [.slice WA n wc, .int .i64 (m : Int)])
  way : RdR w (fun b => col b = 2) WA (waysF lv 0 n)
  cap : n ≤ wc ∧ wc ≤ 9223372036854775807
  nil : WA = none → wc = 0
  cl : col bb = 3
  hB : B ≤ bb
  n6 : n ≤ 6
  m3 : m ≤ 300
  km : ∀ k, k ≤ n → (lv k).ks.length + (decide (k < n)).toNat ≤ m
  l40 : (lv n).lines.length ≤ 40
theorem SpL.kidcell {B : Nat} {col : Nat → Nat} {w : World} {n : Nat} {lv : Nat → Lv} (h : SpL B col w n lv) {k : Nat} (hk : k < n) : ∃ g, (lv k).KA = some ⟨g, 0, none⟩ ∧ ∀ j u, ((lv (k + 1)).hdr (decide (k + 1 < n)))[j]? = some u → w.cell? ⟨g, (lv k).ks.length * 4 + j, none⟩ = some u := by
  obtain ⟨g, e, _⟩ := h.ka hk
  obtain ⟨_, h1, _⟩ := h.up k hk
  rw [e] at h1
  refine ⟨g, e, fun j u hj => ?_⟩
  have hf := h.flat (k := k) (by omega)
  have hj4 : j < 4 := (List.getElem?_eq_some_iff.1 hj).1
  rw [h1.cellAt ((lv k).ks.length * 4 + j) (by omega), List.getElem?_append_right (by omega), show (lv k).ks.length * 4 + j - (lv k).rows.flatten.length = j from by omega]
  exact hj
theorem blk_far {w : World} {b : Nat} {T : TypeId} {cs : List Value} (h : Blk w b T cs) {a : Addr} (hn : b ≠ a.block) (v : Value) : Blk (w.setCell a v) b T cs := by
  unfold Blk at h ⊢
  rw [set_far hn]
  exact h
def AtP (V : List Value) (w : World) (e : Ending) (w' : World) : Prop := e = .returned (.agg V.toArray) ∧ Below w.heap.size w w'
set_option maxRecDepth 100000 in
set_option maxHeartbeats 2000000 in
theorem at_any (B : Nat) (col : Nat → Nat) (w : World) (bb n m : Nat) (lv : Nat → Lv) (WA : Option Addr) (wc : Nat) (h : Bdr B col w bb n m lv WA wc) (j : Nat) (hj : j ≤ n) :
    Calls Tryz.prog 56 #[.pointer (some ⟨bb, 0, none⟩), .int .i64 (j : Int)] w (AtP ((lv j).hdr (decide (j < n))) w) := by
  have H := Lib.hid h
  have b0 := h.blk.cell 0 rfl
  have b1 := h.blk.cell 1 rfl
  have b2 := h.blk.cell 2 rfl
  have b3 := h.blk.cell 3 rfl
  have b4 := h.blk.cell 4 rfl
  have hn6 := h.n6
  have HB4 := Lib.hid b4
  obtain ⟨V, hV⟩ : ∃ V, V = w.alloc (.cells #[.string ⟨#[]⟩, .string ⟨#[]⟩, .slice none 0 0, .slice none 0 0] 26) := ⟨_, rfl⟩
  have xa : Below w.heap.size w V := by rw [hV]; exact ext_alloc w _
  have ba : Blk V w.heap.size 26 zeroI := by rw [hV]; exact Blk.new w _ zeroI
  have hz : V.heap.size = w.heap.size + 1 := by rw [hV]; simp
  obtain ⟨R0, hR0⟩ : ∃ R0, R0 = w.heap.size := ⟨_, rfl⟩
  obtain ⟨L0, hL0⟩ : ∃ L0, L0 = w.heap.size + 1 := ⟨_, rfl⟩
  rw [← hR0] at ba
  have hzl : V.heap.size = L0 := by omega
  have HXa := Lib.hid xa
  have HBa := Lib.hid ba
  have hRL : R0 ≠ L0 := by omega
  have HR := Lib.hid (show w.heap.size ≤ R0 ∧ w.heap.size ≤ L0 from by omega)
  have b0 := cell_ext xa b0
  have b1 := cell_ext xa b1
  have b2 := cell_ext xa b2
  have b3 := cell_ext xa b3
  clear h xa ba b4 hz
  go_enter Tryz.func56, Tryz.ntmps56
  go_upto_region 1 with fail
  rw [← hV, ← hR0]
  clear hV hR0 hL0
  go_wp2_with fail
  go_loopw [6] (fun i wr => ∃ k : Nat, i = .int .i64 k ∧ k ≤ j ∧ Hid (Below w.heap.size w wr) ∧ Hid (Blk wr R0 26 zeroI) ∧ Hid (Blk wr L0 26 ((lv k).hdr (decide (k < n))))) (fun i _ => j - (intOf i).toNat)
  case atStart =>
    exact ⟨0, rfl, Nat.zero_le _, ext_trans HXa.out (ext_alloc V _), blk_ext2 HBa.out (ext_alloc V _), by rw [← hzl]; exact Blk.new V _ _⟩
  case round =>
    obtain ⟨k, rfl, hk, HB, HRb, HLb⟩ := hrel
    by_cases hlt : k < j
    · have hkn : k < n := by omega
      obtain ⟨g, eKA, hkc⟩ := H.out.sp.kidcell hkn
      obtain ⟨wb, wo, eW, _, hwc⟩ := H.out.way k _ (ways_at hkn)
      rw [Nat.zero_add] at hwc
      have y0 := cell_ext HB.out (hkc 0 _ rfl)
      have y1 := cell_ext HB.out (hkc 1 _ rfl)
      have y2 := cell_ext HB.out (hkc 2 _ rfl)
      have y3 := cell_ext HB.out (hkc 3 _ rfl)
      have y4 := cell_ext HB.out HB4.out
      have y5 := cell_ext HB.out hwc
      have l0 := HLb.out.cell 0 rfl
      have l1 := HLb.out.cell 1 rfl
      have l2 := HLb.out.cell 2 rfl
      have l3 := HLb.out.cell 3 rfl
      rw [decide_eq_true hkn, eKA] at l3
      rw [eW] at y4
      simp only [Nat.add_zero, Bool.toNat_true] at y0 l3
      have f0 := HLb.out.free 0
      have f1 := HLb.out.free 1
      have f2 := HLb.out.free 2
      have f3 := HLb.out.free 3
      have hb := (H.out.sp.bd k (by omega)).2
      have hlc : (k : Int) < (j : Int) := by omega
      have hnc : (k : Int) < (n : Int) := by omega
      have hKb : ((lv k).ks.length : Int) < ((lv k).ks.length : Int) + 1 := by omega
      have hKb2 : ((lv k).ks.length : Int) ≤ 1000 := by omega
      have hjb : (j : Int) ≤ 6 := by omega
      clear hkc eKA hwc eW b0 b1 b2 b3 hlt
      go_wp2_with fail
      go_region
      all_goals
        go_wp2_with fail
        go_roundw
        case rel => exact ⟨k + 1, by go_num, by omega, ((((HB.out.setCell HR.out.2 _).setCell HR.out.2 _).setCell HR.out.2 _).setCell HR.out.2 _).drew, blk_ext2 (blk_far (blk_far (blk_far (blk_far HRb.out hRL _) hRL _) hRL _) hRL _) (ext_drewN _ 1), blk_ext2 ((((HLb.out.set 0 _).set 1 _).set 2 _).set 3 _) (ext_drewN _ 1)⟩
        case measure => simp [intOf]; omega
    · obtain rfl : k = j := by omega
      have hlc : ¬ (k : Int) < (k : Int) := by omega
      have l0 := HLb.out.cell 0 rfl
      have l1 := HLb.out.cell 1 rfl
      have l2 := HLb.out.cell 2 rfl
      have l3 := HLb.out.cell 3 rfl
      have f0 := HRb.out.free 0
      have f1 := HRb.out.free 1
      have f2 := HRb.out.free 2
      have f3 := HRb.out.free 3
      have m0 := HRb.out.cell 0 rfl
      have m1 := HRb.out.cell 1 rfl
      have m2 := HRb.out.cell 2 rfl
      have m3 := HRb.out.cell 3 rfl
      clear b0 b1 b2 b3 hlt
      go_wp2_with fail
      have s := (((HRb.out.set 0 (.string ⟨(lv k).label.toArray⟩)).set 1 (.string ⟨(lv k).head.toArray⟩)).set 2 (.slice (lv k).LA (lv k).lines.length (lv k).lc)).set 3 (.slice (lv k).KA ((lv k).ks.length + (decide (k < n)).toNat) (lv k).kc)
      have s0 := s.cell 0 rfl
      have s1 := s.cell 1 rfl
      have s2 := s.cell 2 rfl
      have s3 := s.cell 3 rfl
      refine bodyPost_ret (v := .agg #[.string ⟨(lv k).label.toArray⟩, .string ⟨(lv k).head.toArray⟩, .slice (lv k).LA (lv k).lines.length (lv k).lc, .slice (lv k).KA ((lv k).ks.length + (decide (k < n)).toNat) (lv k).kc]) (by simp [results, Tryz.results56, go_sem, s0, s1, s2, s3]) rfl ?_
      exact ⟨rfl, ((((HB.out.setCell HR.out.1 _).setCell HR.out.1 _).setCell HR.out.1 _).setCell HR.out.1 _)⟩
end Go.Proofs.YtflklbhgjfonbaaGreatDoor.Sc

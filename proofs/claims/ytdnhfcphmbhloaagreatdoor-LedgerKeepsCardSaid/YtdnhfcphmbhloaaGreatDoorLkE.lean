/- LedgerKeeps: an entry of the document's turned into the program's. -/
import Derived.Test.YtdnhfcphmbhloaaGreatDoorLkS
import Derived.Deep.AppendLies
namespace Go.Proofs.YtdnhfcphmbhloaaGreatDoor.Lk
open Go.RowKit Mem Nest Fk Msi Err

theorem pln_info : (Tryz.prog.info? 49).map (fun i => (i.zero, i.size, i.bytes)) = some (some (.agg #[.string ⟨#[]⟩, .int .i64 0]), 2, 24) := by kernel_rfl
def EntPost (d : Int) (x : Tx) (ls : List Ln) (w : World) (e : Ending) (w' : World) : Prop := ∃ A c, e = .returned (.agg #[.int .i64 d, .string ⟨x.toArray⟩, .slice A ls.length c]) ∧ Rd w' A (ls.flatMap lnCells) ∧ ls.length ≤ c ∧ c ≤ maxLen ∧ Below w.heap.size w w'
set_option maxRecDepth 100000 in
set_option maxHeartbeats 4000000 in
theorem lentry (d : Int) (x : Tx) (ls : List Ln) (hl : ls.length ≤ 30) (A : Option Addr) (c : Nat) (w : World) (h : Rd w A (ls.flatMap lnCells)) :
    Calls Tryz.prog 10 #[.agg #[.int .i64 d, .string ⟨x.toArray⟩, .slice A ls.length c]] w (EntPost d x ls w) := by
  have H := Lib.hid h
  obtain ⟨j0, hj, hz0, hz1, hz2⟩ := info_parts pln_info
  have HJ := Lib.hid hj
  have HJ0 := Lib.hid hz0
  have HJ1 := Lib.hid hz1
  have HJ2 := Lib.hid hz2
  clear hj hz0 hz1 hz2 h
  have hx1 := ext_alloc w (.cells #[.int .i64 d, .string ⟨x.toArray⟩, .slice A ls.length c] 30)
  have hx2 := ext_alloc (w.alloc (.cells #[.int .i64 d, .string ⟨x.toArray⟩, .slice A ls.length c] 30)) (.cells #[.int .i64 0, .string ⟨#[]⟩, .slice none 0 0] 36)
  have hx3 := ext_alloc ((w.alloc (.cells #[.int .i64 d, .string ⟨x.toArray⟩, .slice A ls.length c] 30)).alloc (.cells #[.int .i64 0, .string ⟨#[]⟩, .slice none 0 0] 36)) (.cells #[.int .i64 d, .string ⟨x.toArray⟩, .slice none 0 0] 36)
  have b1 := blk_ext2 (blk_ext2 (Blk.new w 30 [.int .i64 d, .string ⟨x.toArray⟩, .slice A ls.length c]) hx2) hx3
  have b2 := blk_ext2 (Blk.new (w.alloc (.cells #[.int .i64 d, .string ⟨x.toArray⟩, .slice A ls.length c] 30)) 36 [.int .i64 0, .string ⟨#[]⟩, .slice none 0 0]) hx3
  have b3 := Blk.new ((w.alloc (.cells #[.int .i64 d, .string ⟨x.toArray⟩, .slice A ls.length c] 30)).alloc (.cells #[.int .i64 0, .string ⟨#[]⟩, .slice none 0 0] 36)) 36 [.int .i64 d, .string ⟨x.toArray⟩, .slice none 0 0]
  rw [show (w.alloc (.cells #[.int .i64 d, .string ⟨x.toArray⟩, .slice A ls.length c] 30)).heap.size = w.heap.size + 1 by simp] at b2
  rw [show ((w.alloc (.cells #[.int .i64 d, .string ⟨x.toArray⟩, .slice A ls.length c] 30)).alloc (.cells #[.int .i64 0, .string ⟨#[]⟩, .slice none 0 0] 36)).heap.size = w.heap.size + 1 + 1 by simp] at b3
  obtain ⟨V, hV⟩ : ∃ V, V = ((w.alloc (.cells #[.int .i64 d, .string ⟨x.toArray⟩, .slice A ls.length c] 30)).alloc (.cells #[.int .i64 0, .string ⟨#[]⟩, .slice none 0 0] 36)).alloc (.cells #[.int .i64 d, .string ⟨x.toArray⟩, .slice none 0 0] 36) := ⟨_, rfl⟩
  obtain ⟨E, hE⟩ : ∃ E, E = w.heap.size + 1 + 1 := ⟨_, rfl⟩
  obtain ⟨Q, hQ⟩ : ∃ Q, Q = w.heap.size + 1 := ⟨_, rfl⟩
  obtain ⟨P, hP⟩ : ∃ P, P = w.heap.size := ⟨_, rfl⟩
  have HXv := Lib.hid (show Below w.heap.size w V from by rw [hV]; exact ext_trans hx1 (ext_trans hx2 hx3))
  rw [← hV, ← hE] at b3
  rw [← hV, ← hQ] at b2
  rw [← hV, ← hP] at b1
  have hPw : w.heap.size ≤ P := by omega
  have hPQ : P < Q := by omega
  have hQE : Q < E := by omega
  have HB1 := Lib.hid b1
  have HB2 := Lib.hid b2
  have HB3 := Lib.hid b3
  clear hx1 hx2 hx3 b1 b2 b3
  go_enter Tryz.func10, Tryz.ntmps10
  go_upto_region 2 with fail
  rw [← hV, ← hE, ← hQ, ← hP]
  clear hV hE hQ hP
  go_wp2_with fail
  go_loopw [4] (fun s4 wr => ∃ (k : Nat) (v : Value), s4 = .int .i64 k ∧ k ≤ ls.length ∧ Hid (Below w.heap.size w wr) ∧ Hid (Blk wr P 30 [.int .i64 d, .string ⟨x.toArray⟩, .slice A ls.length c]) ∧ Hid (Blk wr Q 36 [.int .i64 0, .string ⟨#[]⟩, .slice none 0 0]) ∧ Hid (Blk wr E 36 [.int .i64 d, .string ⟨x.toArray⟩, v]) ∧ Hid (wr.ownsRow (E + 1) 49 2 v k ((ls.take k).flatMap lnCells))) (fun s4 _ => ls.length - (intOf s4).toNat)
  case atStart => exact ⟨0, _, rfl, Nat.zero_le _, HXv.out, HB1.out, HB2.out, HB3.out, World.ownsRow_nil _ _ _ _⟩
  case round =>
    obtain ⟨k, v, rfl, hk, HB, HP, HQ, HE, HO⟩ := hrel
    obtain ⟨SA, sc, rfl, hsc1, hsc2⟩ := own_slice HO.out
    have hEs : E + 1 ≤ wr.heap.size := HE.out.lt
    by_cases hlt : k < ls.length
    · have hcl : (k : Int) < (ls.length : Int) := by omega
      obtain ⟨lb, lo, eA, y0, y1⟩ := ln_at (H.out.ext HB.out) hlt
      have HTk := Lib.hid (List.take_succ_eq_append_getElem hlt)
      subst eA
      generalize ls[k] = z at y0 y1 HTk
      obtain ⟨zn, zc⟩ := z
      simp only at y0 y1
      have hd : Below wr.heap.size wr wr.drew := ext_drewN wr 1
      have q2 := HP.out.cell 2 rfl
      go_wp2_with fail
      have q2 := cell_ext hd q2
      have r2 := cell_ext hd (HE.out.cell 2 rfl)
      have y0 := cell_ext hd y0
      have y1 := cell_ext hd y1
      have y3 := fun ob => cell_ext (ext_alloc wr ob) (HE.out.cell 2 rfl)
      have HGl := Lib.hid (fun g (hg : (Value.slice SA k sc).ownBlock = some g) => HO.out.lt g hg)
      clear hd
      go_region_law (first
        | (refine step_append_lies _ rfl (.tmp 18) (.tmp 32) 34 rfl (E + 1) 49 j0 _ 2 24 Tryz.underlying34 HJ.out HJ0.out HJ1.out HJ2.out rfl (by omega) (.slice SA k sc) k _ rfl (own_ext (World.ownsRow.alloc HO.out _) (ext_drewN _ 1)) ⟨wr.heap.size, 0, none⟩ 1 1 [.string ⟨zn.toArray⟩, .int .i64 zc] rfl rfl (fun j v hj => cell_ext (ext_drewN _ 1) (new_cells wr [.string ⟨zn.toArray⟩, .int .i64 zc] _ _ rfl j v hj)) (by intro v hv; simp only [List.mem_cons, List.not_mem_nil, or_false] at hv; rcases hv with rfl | rfl <;> rfl) (by omega) (by simp only [maxLen]; omega) (by omega) (by simp; omega) _ rfl ?_; intro g5 c5 w7 hown1 hg1 _ _; have HO7 := Lib.hid hown1; have HG7 := Lib.hid hg1; have HK7 := Lib.hid (blk_faL (blk_ext2 (blk_ext2 HE.out (ext_alloc _ _)) (ext_drewN _ 1)) hg1 (fun h => by have := (HGl.out _ h).1; omega)); have y1 := HK7.out.cell 2 rfl; have y2 := HK7.out.free 2; clear hown1 hg1))
      all_goals (
        go_wp2_with fail
        have HBn := HB.out.trans ((ext_trans (ext_alloc wr (.cells #[.string ⟨zn.toArray⟩, .int .i64 zc] 49)) (ext_drewN _ 1)).mono HB.out.size)
        have HOn := own_ext (World.ownsRow.alloc HO.out (.cells #[.string ⟨zn.toArray⟩, .int .i64 zc] 49)) (ext_drewN _ 1)
        refine ⟨⟨k + 1, _, by go_num, by omega, ?_, ?_, ?_, HK7.out.set 2 _, ?_⟩, ?_⟩
        · exact Below.setCell (p := ⟨E, 2, none⟩) (Below.grown HBn HG7.out (by have := HB.out.size; simp; omega) (fun g hg => by have := (HGl.out g hg).1; omega)) (by show w.heap.size ≤ E; omega) _
        · exact blk_otL (blk_faL (blk_ext2 (blk_ext2 HP.out (ext_alloc _ _)) (ext_drewN _ 1)) HG7.out (fun h => by have := (HGl.out _ h).1; omega)) (by omega) 2 _
        · exact blk_otL (blk_faL (blk_ext2 (blk_ext2 HQ.out (ext_alloc _ _)) (ext_drewN _ 1)) HG7.out (fun h => by have := (HGl.out _ h).1; omega)) (by omega) 2 _
        · have ho := ownsRow_setCell_below HO7.out (a := ⟨E, 2, none⟩) (Nat.lt_succ_self E) (.slice (some ⟨g5, 0, none⟩) (k + 1) c5)
          show World.ownsRow _ _ _ _ _ _ _
          rw [HTk.out, List.flatMap_append]
          simpa [lnCells] using ho
        · show ls.length - (k + 1) < ls.length - k
          omega)
    · have hcl : ¬ (k : Int) < (ls.length : Int) := by omega
      obtain rfl : k = ls.length := by omega
      have q0 := HQ.out.cell 0 rfl
      have q1 := HQ.out.cell 1 rfl
      have q2 := HQ.out.cell 2 rfl
      have q3 := HQ.out.free 0
      have q4 := HQ.out.free 1
      have q5 := HQ.out.free 2
      have p2 := HP.out.cell 2 rfl
      have e0 := HE.out.cell 0 rfl
      have e1 := HE.out.cell 1 rfl
      have e2 := HE.out.cell 2 rfl
      go_wp2_with fail
      have t0 := (HQ.out.set 0 (.int .i64 d)).cell 0 rfl
      have t1 := ((HQ.out.set 0 (.int .i64 d)).set 1 (.string ⟨x.toArray⟩)).cell 1 rfl
      have t2 := (((HQ.out.set 0 (.int .i64 d)).set 1 (.string ⟨x.toArray⟩)).set 2 (.slice SA ls.length sc)).cell 2 rfl
      refine bodyPost_ret (v := .agg #[.int .i64 d, .string ⟨x.toArray⟩, .slice SA ls.length sc]) (by simp [results, Tryz.results10, go_sem, t0, t1, t2]) rfl ⟨SA, sc, rfl, ?_, hsc1, hsc2, ?_⟩
      · have h1 := HO.out
        rw [List.take_of_length_le (Nat.le_refl _)] at h1
        have h2 := ownsRow_setCell_below h1 (a := ⟨Q, 0, none⟩) (by show Q < E + 1; omega) (.int .i64 d)
        have h3 := ownsRow_setCell_below h2 (a := ⟨Q, 1, none⟩) (by show Q < E + 1; omega) (.string ⟨x.toArray⟩)
        exact Rd.of_own (ownsRow_setCell_below h3 (a := ⟨Q, 2, none⟩) (by show Q < E + 1; omega) (.slice SA ls.length sc))
      · exact Below.setCell (p := ⟨Q, 2, none⟩) (Below.setCell (p := ⟨Q, 1, none⟩) (Below.setCell (p := ⟨Q, 0, none⟩) HB.out (by show w.heap.size ≤ Q; omega) _) (by show w.heap.size ≤ Q; omega) _) (by show w.heap.size ≤ Q; omega) _
end Go.Proofs.YtdnhfcphmbhloaaGreatDoor.Lk

/- Laws as texts: the document's way of putting in, from any level. -/
import Derived.Test.YtflklbhgjfonbaaGreatDoorScX
namespace Go.Proofs.YtflklbhgjfonbaaGreatDoor.Sc
open Go.RowKit Mem Nest Fk Err Lk Gp

theorem grown_none {w w' : World} (h : w.grownBy w' none) : Below w.heap.size w w' := ⟨h.os, h.tape, h.output, h.size, fun b hb => h.block b hb (by simp)⟩
theorem SubL.ones {B : Nat} {col : Nat → Nat} {w : World} {k n : Nat} {lv : Nat → Lv} (h : SubL B col w k n lv) {i : Nat} (h1 : k ≤ i) (h2 : i ≤ n) : ∀ u ∈ (lv i).rows.flatten, u.oneCell' = true := fun u hu => by
  obtain ⟨r, hr, hur⟩ := List.mem_flatten.1 hu
  obtain ⟨q, hq, rfl⟩ := List.mem_iff_getElem.1 hr
  obtain ⟨LA, lc, KA, kc, e⟩ := (h.kids i h1 h2 q ((lv i).ks[q]'(by rw [← h.rl i h1 h2]; exact hq)) _ (List.getElem?_eq_getElem _) (List.getElem?_eq_getElem _)).form
  rw [e] at hur
  unfold itC at hur
  simp only [List.mem_cons, List.not_mem_nil, or_false] at hur
  rcases hur with rfl | rfl | rfl | rfl <;> rfl
theorem PutR.far {B : Nat} {col : Nat → Nat} {f : It → It} {w w' : World} {k j n n' : Nat} {lv : Nat → Lv} {V : List Value} (h : PutR B col f w k j n n' lv V w') : ∀ b, b < w.heap.size → col b < cK k → w'.heap[b]? = w.heap[b]? := by
  obtain ⟨_, _, _, _, _, h4, _⟩ := h
  exact fun b hl hc => (h4.blk b hl hc).1
theorem blk_same {w w' : World} {b : Nat} {T : TypeId} {cs : List Value} (h : Blk w b T cs) (e : w'.heap[b]? = w.heap[b]?) : Blk w' b T cs := by
  unfold Blk at h ⊢
  rw [e]
  exact h
theorem RdR.tail {w : World} {R : Nat → Prop} {b o : Nat} {v : Value} {l : List Value} (h : RdR w R (some ⟨b, o, none⟩) (v :: l)) : RdR w R (some ⟨b, o + 1, none⟩) l := fun j u hj => by
  obtain ⟨b2, o2, e, hr, hc⟩ := h (j + 1) u (by simpa using hj)
  simp only [Option.some.injEq, Addr.mk.injEq] at e
  obtain ⟨rfl, rfl, _⟩ := e
  exact ⟨b, o + 1, rfl, hr, by rw [show o + 1 + j = o + (j + 1) from by omega]; exact hc⟩
set_option maxRecDepth 100000 in
set_option maxHeartbeats 4000000 in
/-- a level further out -/
theorem put_step (ln : Bool) (x nm tx : Tx) (f : It → It) (k j n n' d : Nat) (hn : n ≤ 7) (hn' : n' ≤ 8) (hkd : k + (d + 1) = j) (hjn : j ≤ n) (B : Nat) (lv : Nat → Lv)
    (ih : ∀ (col : Nat → Nat) (w : World) (WA : Option Addr) (wc : Nat), SubL B col w (k + 1) n lv → RdR w (fun b => col b = 2) WA (waysF lv (k + 1) d) → B ≤ w.heap.size → d ≤ wc → wc ≤ 9223372036854775807 →
      Calls Tryz.prog 57 #[itV (lv (k + 1)) (decide (k + 1 < n)), .slice WA d wc, .bool ln, .string ⟨x.toArray⟩, kidV nm tx] w (PutP B col f (k + 1) j n n' lv w))
    (col : Nat → Nat) (w : World) (WA : Option Addr) (wc : Nat) (h : SubL B col w k n lv) (hW : RdR w (fun b => col b = 2) WA (waysF lv k (d + 1))) (hB : B ≤ w.heap.size) (hw1 : d + 1 ≤ wc) (hw2 : wc ≤ 9223372036854775807) :
    Calls Tryz.prog 57 #[itV (lv k) (decide (k < n)), .slice WA (d + 1) wc, .bool ln, .string ⟨x.toArray⟩, kidV nm tx] w (PutP B col f k j n n' lv w) := by
  have hkn : k < n := by omega
  have H := Lib.hid h
  have HI := Lib.hid ih
  obtain ⟨wb, wo, rfl, hwb, hwc⟩ := hW 0 _ (ways_at (by omega))
  have HWb := Lib.hid hwb
  have HWl := Lib.hid (show wb < w.heap.size from Mem.cell_lt hwc)
  rw [Nat.add_zero] at hwc
  have HW := Lib.hid hW
  have hown := (h.up k (Nat.le_refl _) hkn).2
  obtain ⟨gk, capk, hv, hgB, hgl⟩ := World.ownsRow.form hown.1 (by omega)
  have hKb := (h.bd k (Nat.le_refl _) (by omega)).2
  obtain ⟨KN, hK⟩ : ∃ KN, KN = (lv k).ks.length := ⟨_, rfl⟩
  obtain ⟨KC, hKC⟩ : ∃ KC, KC = (lv k).kc := ⟨_, rfl⟩
  have hKA : (lv k).KA = some ⟨gk, 0, none⟩ := by simp only [Value.slice.injEq] at hv; exact hv.1
  unfold itV kidV
  rw [decide_eq_true hkn, hKA, ← hK, ← hKC]
  simp only [Bool.toNat_true]
  rw [hKA, ← hK, ← hKC] at hown
  rw [← hK] at hKb
  rw [Nat.add_zero, ← hK] at hwc
  obtain ⟨w1, hw1'⟩ : ∃ w1, w1 = w.alloc (.cells #[.string ⟨(lv k).label.toArray⟩, .string ⟨(lv k).head.toArray⟩, .slice (lv k).LA (lv k).lines.length (lv k).lc, .slice (some ⟨gk, 0, none⟩) (KN + 1) KC] 26) := ⟨_, rfl⟩
  have x1 : Below w.heap.size w w1 := by rw [hw1']; exact ext_alloc w _
  have c1 : Blk w1 w.heap.size 26 [.string ⟨(lv k).label.toArray⟩, .string ⟨(lv k).head.toArray⟩, .slice (lv k).LA (lv k).lines.length (lv k).lc, .slice (some ⟨gk, 0, none⟩) (KN + 1) KC] := by rw [hw1']; exact Blk.new w _ _
  have z1 : w1.heap.size = w.heap.size + 1 := by rw [hw1']; simp
  obtain ⟨w2, hw2'⟩ : ∃ w2, w2 = w1.alloc (.cells #[.string ⟨nm.toArray⟩, .string ⟨tx.toArray⟩, .slice none 0 0, .slice none 0 0] 26) := ⟨_, rfl⟩
  have x2 : Below w1.heap.size w1 w2 := by rw [hw2']; exact ext_alloc w1 _
  have c2 : Blk w2 (w.heap.size + 1) 26 [.string ⟨nm.toArray⟩, .string ⟨tx.toArray⟩, .slice none 0 0, .slice none 0 0] := by rw [hw2', ← z1]; exact Blk.new w1 _ _
  have z2 : w2.heap.size = w.heap.size + 1 + 1 := by rw [hw2']; simp [z1]
  obtain ⟨w3, hw3'⟩ : ∃ w3, w3 = w2.alloc (.cells #[.string ⟨#[]⟩, .string ⟨#[]⟩, .slice none 0 0, .slice none 0 0] 26) := ⟨_, rfl⟩
  have x3 : Below w2.heap.size w2 w3 := by rw [hw3']; exact ext_alloc w2 _
  have c3 : Blk w3 (w.heap.size + 1 + 1) 26 zeroI := by rw [hw3', ← z2]; exact Blk.new w2 _ zeroI
  have z3 : w3.heap.size = w.heap.size + 1 + 1 + 1 := by rw [hw3']; simp [z2]
  have X3 := ext_trans x1 (ext_trans x2 x3)
  have HX3 := Lib.hid X3
  have HS := Lib.hid (H.out.col5 (by omega) X3)
  obtain ⟨Q0, hQ0⟩ : ∃ Q0, Q0 = w.heap.size := ⟨_, rfl⟩
  obtain ⟨Q1, hQ1⟩ : ∃ Q1, Q1 = w.heap.size + 1 := ⟨_, rfl⟩
  obtain ⟨Q2, hQ2⟩ : ∃ Q2, Q2 = w.heap.size + 1 + 1 := ⟨_, rfl⟩
  rw [← hQ2] at c3
  rw [← hQ0] at c1
  rw [← hQ1] at c2
  have HC1 := Lib.hid (blk_ext2 c1 (ext_trans x2 x3))
  have HC2 := Lib.hid (blk_ext2 c2 x3)
  have HC3 := Lib.hid c3
  have l3 := HC1.out.cell 3 rfl
  have HQ := Lib.hid (And.intro hQ0 (And.intro hQ1 hQ2))
  have HZ := Lib.hid z3
  have hq02 : Q0 ≠ Q2 := by omega
  obtain ⟨j0, hj0, hz0, hz1, hz2⟩ := info_parts it_infoR
  have HJ := Lib.hid hj0
  have HJ0 := Lib.hid hz0
  have HJ1 := Lib.hid hz1
  have HJ2 := Lib.hid hz2
  have HB := Lib.hid hB
  have HK := Lib.hid (And.intro hK (And.intro hKC hKA))
  have HNe := Lib.hid (World.ownsRow.cells (show w3.ownsRow B 26 4 (.slice (some ⟨gk, 0, none⟩) (KN + 1) KC) (KN + 1) ((lv k).rows.flatten ++ (lv (k + 1)).hdr (decide (k + 1 < n))) from by rw [hK, hKC, ← hKA]; exact (HS.out.up k (Nat.le_refl _) hkn).2.1) (g := gk) rfl)
  have HLn := Lib.hid (show ((lv k).rows.flatten ++ (lv (k + 1)).hdr (decide (k + 1 < n))).length = (KN + 1) * 4 from hown.1.1)
  have HOn := Lib.hid (show ∀ u ∈ ((lv k).rows.flatten ++ (lv (k + 1)).hdr (decide (k + 1 < n))), u.oneCell' = true from fun u hu => by
    rcases List.mem_append.1 hu with hu | hu
    · exact H.out.ones (Nat.le_refl _) (by omega) u hu
    · unfold Lv.hdr at hu
      simp only [List.mem_cons, List.not_mem_nil, or_false] at hu
      rcases hu with rfl | rfl | rfl | rfl <;> rfl)
  have HFl := Lib.hid (show (lv k).rows.flatten.length = KN * 4 from by rw [hK]; exact H.out.flat (Nat.le_refl _) (by omega))
  have HWc := Lib.hid (cell_ext X3 hwc)
  have hKI : (KN : Int) < (KN : Int) + 1 := by omega
  have hKI2 : (KN : Int) ≤ 1000 := by omega
  clear h ih hW hown hv hgB hgl hKA hj0 hz0 hz1 hz2 c1 c2 c3 x1 x2 x3 X3 z1 z2 z3 hB hK hKC hwc
  go_enter Tryz.func57, Tryz.ntmps57
  go_upto_region 1 with fail
  rw [← hw1', ← hw2', ← hw3', ← hQ2, ← hQ1, ← hQ0]
  clear hw1' hw2' hw3' hQ2 hQ1 hQ0
  go_upto_region 8 with (at_builtin; refine wpList_append_lies _ rfl _ _ 24 rfl B 26 j0 _ 4 80 Tryz.underlying24 HJ.out HJ0.out HJ1.out HJ2.out rfl (by omega) (.slice none 0 0) 0 [] rfl (World.ownsRow_nil _ _ _ _) ⟨gk, 0, none⟩ (KN + 1) KC _ rfl HLn.out HNe.out HOn.out (by omega) (by simp only [maxLen]; omega) (by omega) (by have := HX3.out.size; have := HB.out; omega) w3.heap.size rfl ?_; intro g c7 w7 hown1 hg1 hfr hlt; have HO7 := Lib.hid hown1; have HB7 := Lib.hid (grown_none hg1); have HGl := Lib.hid hlt; have HG := Lib.hid (show g = w3.heap.size from by rcases hfr with e | e; cases e; exact e); clear hown1 hg1 hfr hlt l3)
  have HO8 := Lib.hid (show w7.ownsRow B 26 4 (.slice (some ⟨g, 0, none⟩) (KN + 1) c7) (KN + 1) ((lv k).rows.flatten ++ (lv (k + 1)).hdr (decide (k + 1 < n))) from by have h := HO7.out; rw [Nat.zero_add] at h; exact h)
  have hdw : Below w7.heap.size w7 w7.drew := ext_drewN w7 1
  have HD := Lib.hid (ext_trans HB7.out hdw)
  have HO9 := Lib.hid (own_ext HO8.out hdw)
  have y0 := HO9.out.cellAt (KN * 4 + 0) (by omega)
  have y1 := HO9.out.cellAt (KN * 4 + 1) (by omega)
  have y2 := HO9.out.cellAt (KN * 4 + 2) (by omega)
  have y3 := HO9.out.cellAt (KN * 4 + 3) (by omega)
  rw [List.getElem?_append_right (by rw [HFl.out]; omega), show KN * 4 + 0 - (lv k).rows.flatten.length = 0 from by rw [HFl.out]; omega] at y0
  rw [List.getElem?_append_right (by rw [HFl.out]; omega), show KN * 4 + 1 - (lv k).rows.flatten.length = 1 from by rw [HFl.out]; omega] at y1
  rw [List.getElem?_append_right (by rw [HFl.out]; omega), show KN * 4 + 2 - (lv k).rows.flatten.length = 2 from by rw [HFl.out]; omega] at y2
  rw [List.getElem?_append_right (by rw [HFl.out]; omega), show KN * 4 + 3 - (lv k).rows.flatten.length = 3 from by rw [HFl.out]; omega] at y3
  simp only [Lv.hdr, List.getElem?_cons_zero, List.getElem?_cons_succ, Nat.add_zero] at y0 y1 y2 y3
  have dw := cell_ext HD.out HWc.out
  have d0 := cell_ext HD.out (HC2.out.cell 0 rfl)
  have d1 := cell_ext HD.out (HC2.out.cell 1 rfl)
  have d2 := cell_ext HD.out (HC2.out.cell 2 rfl)
  have d3 := cell_ext HD.out (HC2.out.cell 3 rfl)
  have HD0 := Lib.hid (blk_ext2 HC1.out HD.out)
  have HD2 := Lib.hid (blk_ext2 HC2.out HD.out)
  have HD3 := Lib.hid (blk_ext2 HC3.out HD.out)
  have HBs := Lib.hid (show w.heap.size ≤ w3.heap.size ∧ w3.heap.size ≤ w7.drew.heap.size from ⟨HX3.out.size, HD.out.size⟩)
  have HSub := Lib.hid (show SubL B (fun b => if b = g then cK k else col5 w col b) w7.drew (k + 1) n lv from (HS.out.tail hkn).keep (by omega) fun b _ hl => ⟨HD.out.block b hl, if_neg (by have := HG.out; omega)⟩)
  obtain ⟨WA2, hWA2⟩ : ∃ A : Option Addr, A = if wc = 1 then some ⟨wb, wo, none⟩ else some ⟨wb, wo + 1, none⟩ := ⟨_, rfl⟩
  have HWA := Lib.hid hWA2
  have HWy := Lib.hid (show RdR w7.drew (fun b => (if b = g then cK k else col5 w col b) = 2) WA2 (waysF lv (k + 1) d) from by
    rw [hWA2]
    by_cases e : wc = 1
    · obtain rfl : d = 0 := by omega
      exact RdR.nil
    · rw [if_neg e]
      have h := HW.out
      rw [ways_tail] at h
      exact (RdR.tail h).mono fun b hb hl => ⟨(ext_trans HX3.out HD.out).block b hl, by have := HG.out; have := HBs.out; rw [if_neg (by omega), col5, if_pos hl]; exact hb⟩)
  clear hWA2
  have hdI : (0 : Int) < (d : Int) + 1 := by omega
  have hdI2 : (1 : Int) ≤ (d : Int) + 1 := by omega
  have hdI3 : (d : Int) + 1 ≤ (wc : Int) := by omega
  have hdI4 : (wc : Int) ≤ 9223372036854775807 := by omega
  refine wp_region_held_drew (S := fun w' => w'.cell? ⟨wb, wo, none⟩ = some (.int .i64 (KN : Int)) ∧ w'.cell? ⟨Q1, 0, none⟩ = some (.string ⟨nm.toArray⟩) ∧ w'.cell? ⟨Q1, 1, none⟩ = some (.string ⟨tx.toArray⟩) ∧ w'.cell? ⟨Q1, 2, none⟩ = some (.slice none 0 0) ∧ w'.cell? ⟨Q1, 3, none⟩ = some (.slice none 0 0)) (by kernel_rfl) ?_ (fun hHeld => ?_)
  · exact ⟨dw, d0, d1, d2, d3⟩
  refine wpAnyH_take (i := 0) (v := ?_) rfl (by kernel_rfl) (by kernel_rfl) (by kernel_rfl) (fun _ _ _ h => h) (Or.inl ⟨by rfl, ?_⟩) (by assumption) ?_
  rotate_left
  · intro w hSw; (try dsimp only at hSw); go_simp; try with_reducible rfl
  (try dsimp only [Act.put, List.setIfInBounds_toArray, List.set_cons_zero, List.set_cons_succ])
  refine wpAnyH_take (i := 1) (v := ?_) rfl (by kernel_rfl) (by kernel_rfl) (by kernel_rfl) (fun _ _ _ h => h) (Or.inl ⟨by rfl, ?_⟩) (by assumption) ?_
  rotate_left
  · intro w hSw; (try dsimp only at hSw); go_simp; try with_reducible rfl
  (try dsimp only [Act.put, List.setIfInBounds_toArray, List.set_cons_zero, List.set_cons_succ])
  refine wpAnyH_take (i := 2) (v := ?_) rfl (by kernel_rfl) (by kernel_rfl) (by kernel_rfl) (fun _ _ _ h => h) (Or.inl ⟨by rfl, ?_⟩) (by assumption) ?_
  rotate_left
  · intro w hSw; (try dsimp only at hSw); go_simp; try with_reducible rfl
  (try dsimp only [Act.put, List.setIfInBounds_toArray, List.set_cons_zero, List.set_cons_succ])
  refine wpAnyH_take (i := 3) (v := ?_) rfl (by kernel_rfl) (by kernel_rfl) (by kernel_rfl) (fun _ _ _ h => h) (Or.inl ⟨by rfl, ?_⟩) (by assumption) ?_
  rotate_left
  · intro w hSw; (try dsimp only at hSw); go_simp; try with_reducible rfl
  (try dsimp only [Act.put, List.setIfInBounds_toArray, List.set_cons_zero, List.set_cons_succ])
  refine wpAnyH_take (i := 4) (v := ?_) rfl (by kernel_rfl) (by kernel_rfl) (by kernel_rfl) (fun _ _ _ h => h) (Or.inl ⟨by rfl, ?_⟩) (by assumption) ?_
  rotate_left
  · intro w hSw; (try dsimp only at hSw); go_simp; try with_reducible rfl
  (try dsimp only [Act.put, List.setIfInBounds_toArray, List.set_cons_zero, List.set_cons_succ])
  refine wpAnyH_take (i := 5) (v := ?_) rfl (by kernel_rfl) (by kernel_rfl) (by kernel_rfl) (fun _ _ _ h => h) (Or.inl ⟨by rfl, ?_⟩) (by assumption) ?_
  rotate_left
  · intro w hSw; (try dsimp only at hSw); go_simp; try with_reducible rfl
  (try dsimp only [Act.put, List.setIfInBounds_toArray, List.set_cons_zero, List.set_cons_succ])
  refine wpAnyH_take (i := 6) (v := ?_) rfl (by kernel_rfl) (by kernel_rfl) (by kernel_rfl) (fun _ _ _ h => h) (Or.inl ⟨by rfl, ?_⟩) (by assumption) ?_
  rotate_left
  · intro w hSw; (try dsimp only at hSw); go_simp; try with_reducible rfl
  (try dsimp only [Act.put, List.setIfInBounds_toArray, List.set_cons_zero, List.set_cons_succ])
  refine wpAnyH_take (i := 7) (v := ?_) rfl (by kernel_rfl) (by kernel_rfl) (by kernel_rfl) (fun _ _ _ h => h) (Or.inl ⟨by rfl, ?_⟩) (by assumption) ?_
  rotate_left
  · intro w hSw; (try dsimp only at hSw); go_simp; try with_reducible rfl
  (try dsimp only [Act.put, List.setIfInBounds_toArray, List.set_cons_zero, List.set_cons_succ])
  refine wpAnyH_take (i := 8) (v := ?_) rfl (by kernel_rfl) (by kernel_rfl) (by kernel_rfl) (fun _ _ _ h => h) (Or.inl ⟨by rfl, ?_⟩) (by assumption) ?_
  rotate_left
  · intro w hSw; (try dsimp only at hSw); go_simp; try with_reducible rfl
  (try dsimp only [Act.put, List.setIfInBounds_toArray, List.set_cons_zero, List.set_cons_succ])
  refine wpAnyH_take (i := 10) (v := ?_) rfl (by kernel_rfl) (by kernel_rfl) (by kernel_rfl) (fun _ _ _ h => h) (Or.inl ⟨by rfl, ?_⟩) (by assumption) ?_
  rotate_left
  · intro w hSw; (try dsimp only at hSw); go_simp; try with_reducible rfl
  (try dsimp only [Act.put, List.setIfInBounds_toArray, List.set_cons_zero, List.set_cons_succ])
  refine wpAnyH_take (i := 11) (v := ?_) rfl (by kernel_rfl) (by kernel_rfl) (by kernel_rfl) (fun _ _ _ h => h) (Or.inl ⟨by rfl, ?_⟩) (by assumption) ?_
  rotate_left
  · intro w hSw; (try dsimp only at hSw); go_simp; try with_reducible rfl
  (try dsimp only [Act.put, List.setIfInBounds_toArray, List.set_cons_zero, List.set_cons_succ])
  refine wpAnyH_take (i := 12) (v := ?_) rfl (by kernel_rfl) (by kernel_rfl) (by kernel_rfl) (fun _ _ _ h => h) (Or.inl ⟨by rfl, ?_⟩) (by assumption) ?_
  rotate_left
  · intro w hSw; (try dsimp only at hSw); go_simp; try with_reducible rfl
  (try dsimp only [Act.put, List.setIfInBounds_toArray, List.set_cons_zero, List.set_cons_succ])
  refine wpAnyH_take (i := 13) (v := ?_) rfl (by kernel_rfl) (by kernel_rfl) (by kernel_rfl) (fun _ _ _ h => h) (Or.inl ⟨by rfl, ?_⟩) (by assumption) ?_
  rotate_left
  · intro w hSw; (try dsimp only at hSw); go_simp; try with_reducible rfl
  (try dsimp only [Act.put, List.setIfInBounds_toArray, List.set_cons_zero, List.set_cons_succ])
  refine wpAnyH_take (i := 14) (v := ?_) rfl (by kernel_rfl) (by kernel_rfl) (by kernel_rfl) (fun _ _ _ h => h) (Or.inl ⟨by rfl, ?_⟩) (by assumption) ?_
  rotate_left
  · intro w hSw; (try dsimp only at hSw); go_simp; try with_reducible rfl
  (try dsimp only [Act.put, List.setIfInBounds_toArray, List.set_cons_zero, List.set_cons_succ])
  refine wpAnyH_ready (rs := [9]) (by kernel_rfl) (by simp) ?_
  refine AllReadyH.cons rfl (fun K hK => ?_) ?_
  · go_simp
    refine hK.out _ _ ?_ (fun hHeld => ?_)
    · exact ⟨dw, d0, d1, d2, d3⟩
    clear hK K
    (try dsimp only [Act.put, List.setIfInBounds_toArray, List.set_cons_zero, List.set_cons_succ])
    refine wpAnyH_ready (rs := [15]) (by kernel_rfl) (by simp) ?_
    refine AllReadyH.cons rfl (fun K hK => ?_) ?_
    · go_simp
      rw [← HWA.out]
      refine (HI.out (fun b => if b = g then cK k else col5 w col b) w7.drew _ _ HSub.out HWy.out (by have := HB.out; have := HBs.out; omega) (by omega) (by omega)).mono ?_
      rintro e w9 ⟨l, o, rfl, hp⟩
      have HP := Lib.hid hp
      have hfar : ∀ b, b < w7.drew.heap.size → (if b = g then cK k else col5 w col b) < cK (k + 1) → w9.heap[b]? = w7.drew.heap[b]? := hp.far
      have hf5 : ∀ b, w.heap.size ≤ b → b < w3.heap.size → w9.heap[b]? = w7.drew.heap[b]? := fun b h1 h2 => hfar b (by have := HBs.out; omega) (by rw [if_neg (by have := HG.out; omega), col5, if_neg (by omega)]; unfold cK; omega)
      have h9w : w9.heap[wb]? = w7.drew.heap[wb]? := hfar wb (by have := HBs.out; have := HWl.out; omega) (by rw [if_neg (by have := HG.out; have := HBs.out; have := HWl.out; omega), col5, if_pos HWl.out, HWb.out]; unfold cK; omega)
      have h9g : w9.heap[g]? = w7.drew.heap[g]? := hfar g HGl.out (by rw [if_pos rfl]; unfold cK; omega)
      have sw := (World.cell?_of_block h9w).trans dw
      have hq := HQ.out
      have hz := HZ.out
      have b1 := blk_same HD2.out (hf5 Q1 (by omega) (by omega))
      have b0 := blk_same HD0.out (hf5 Q0 (by omega) (by omega))
      have b2 := blk_same HD3.out (hf5 Q2 (by omega) (by omega))
      have s0 := b1.cell 0 rfl
      have s1 := b1.cell 1 rfl
      have s2 := b1.cell 2 rfl
      have s3 := b1.cell 3 rfl
      have p0 := b0.cell 0 rfl
      have p1 := b0.cell 1 rfl
      have p2 := b0.cell 2 rfl
      have p3 := b0.cell 3 rfl
      have pf := b0.free 3
      have m0 := b2.cell 0 rfl
      have m1 := b2.cell 1 rfl
      have m2 := b2.cell 2 rfl
      have m3 := b2.cell 3 rfl
      have f0 := b2.free 0
      have f1 := b2.free 1
      have f2 := b2.free 2
      have f3 := b2.free 3
      have HBk := Lib.hid b2
      have o9 : w9.ownsRow B 26 4 (.slice (some ⟨g, 0, none⟩) (KN + 1) c7) (KN + 1) ((lv k).rows.flatten ++ (lv (k + 1)).hdr (decide (k + 1 < n))) := own_keepL HO9.out fun g' cc fz hg hk => by
        have e : some g = some g' := hg
        simp only [Option.some.injEq] at e
        rw [← e, h9g, e]
        exact hk
      have x0 := (World.cell?_of_block (a := ⟨g, KN * 4, none⟩) h9g).trans y0
      have x1 := (World.cell?_of_block (a := ⟨g, KN * 4 + 1, none⟩) h9g).trans y1
      have x2 := (World.cell?_of_block (a := ⟨g, KN * 4 + 2, none⟩) h9g).trans y2
      have x3 := (World.cell?_of_block (a := ⟨g, KN * 4 + 3, none⟩) h9g).trans y3
      have xf0 := o9.frozenAt (KN * 4)
      have xf1 := o9.frozenAt (KN * 4 + 1)
      have xf2 := o9.frozenAt (KN * 4 + 2)
      have xf3 := o9.frozenAt (KN * 4 + 3)
      have hgw : g ≠ wb := by have := HG.out; have := HBs.out; have := HWl.out; omega
      have hg0 : g ≠ Q0 := by have := HG.out; omega
      have hg1 : g ≠ Q1 := by have := HG.out; omega
      have hg2 : g ≠ Q2 := by have := HG.out; omega
      clear hp hfar hf5 h9w h9g b0 b1 b2 o9 hq hz y0 y1 y2 y3
      unfold itV
      go_wp2_with fail
      refine hK.out _ _ ?_ (fun hHeld => ?_)
      · exact ⟨sw, s0, s1, s2, s3⟩
      clear hK K
      (try dsimp only [Act.put, List.setIfInBounds_toArray, List.set_cons_zero, List.set_cons_succ])
      refine wpAnyH_take (i := 16) (v := ?_) rfl (by kernel_rfl) (by kernel_rfl) (by kernel_rfl) (fun _ _ _ h => h) (Or.inl ⟨by rfl, ?_⟩) (by assumption) ?_
      rotate_left
      · intro w hSw; (try dsimp only at hSw); go_simp; try with_reducible rfl
      (try dsimp only [Act.put, List.setIfInBounds_toArray, List.set_cons_zero, List.set_cons_succ])
      refine wpAnyH_ready (rs := [17]) (by kernel_rfl) (by simp) ?_
      refine AllReadyH.cons rfl (fun K hK => ?_) ?_
      · go_simp
        refine hK.out _ _ ?_ (fun hHeld => ?_)
        · exact ⟨(World.cell?_setCell_far _ _ _ _ (by exact hgw)).trans ((World.cell?_setCell_far _ _ _ _ (by exact hgw)).trans ((World.cell?_setCell_far _ _ _ _ (by exact hgw)).trans ((World.cell?_setCell_far _ _ _ _ (by exact hgw)).trans sw))), (World.cell?_setCell_far _ _ _ _ (by exact hg1)).trans ((World.cell?_setCell_far _ _ _ _ (by exact hg1)).trans ((World.cell?_setCell_far _ _ _ _ (by exact hg1)).trans ((World.cell?_setCell_far _ _ _ _ (by exact hg1)).trans s0))), (World.cell?_setCell_far _ _ _ _ (by exact hg1)).trans ((World.cell?_setCell_far _ _ _ _ (by exact hg1)).trans ((World.cell?_setCell_far _ _ _ _ (by exact hg1)).trans ((World.cell?_setCell_far _ _ _ _ (by exact hg1)).trans s1))), (World.cell?_setCell_far _ _ _ _ (by exact hg1)).trans ((World.cell?_setCell_far _ _ _ _ (by exact hg1)).trans ((World.cell?_setCell_far _ _ _ _ (by exact hg1)).trans ((World.cell?_setCell_far _ _ _ _ (by exact hg1)).trans s2))), (World.cell?_setCell_far _ _ _ _ (by exact hg1)).trans ((World.cell?_setCell_far _ _ _ _ (by exact hg1)).trans ((World.cell?_setCell_far _ _ _ _ (by exact hg1)).trans ((World.cell?_setCell_far _ _ _ _ (by exact hg1)).trans s3)))⟩
        clear hK K
        (try dsimp only [Act.put, List.setIfInBounds_toArray, List.set_cons_zero, List.set_cons_succ])
        refine wpAnyH_done (by kernel_rfl) ?_ _
        go_wp2_with fail
        have b2 := HBk.out
        have s := ((((blk_far (a := ⟨Q0, 3, none⟩) (blk_far (a := ⟨g, KN * 4 + 3, none⟩) (blk_far (a := ⟨g, KN * 4 + 2, none⟩) (blk_far (a := ⟨g, KN * 4 + 1, none⟩) (blk_far (a := ⟨g, KN * 4, none⟩) b2 (by exact hg2.symm) (.string ⟨l.label.toArray⟩)) (by exact hg2.symm) (.string ⟨l.head.toArray⟩)) (by exact hg2.symm) (.slice l.LA l.lines.length l.lc)) (by exact hg2.symm) (.slice l.KA (l.ks.length + o.toNat) l.kc)) (by exact hq02.symm) (.slice (some ⟨g, 0, none⟩) (KN + 1) c7)).set 0 (.string ⟨(lv k).label.toArray⟩)).set 1 (.string ⟨(lv k).head.toArray⟩)).set 2 (.slice (lv k).LA (lv k).lines.length (lv k).lc)).set 3 (.slice (some ⟨g, 0, none⟩) (KN + 1) c7)
        have t0 := s.cell 0 rfl
        have t1 := s.cell 1 rfl
        have t2 := s.cell 2 rfl
        have t3 := s.cell 3 rfl
        have hK := HK.out.1
        have hst := PutR.step (w3 := (((w9.setCell ⟨g, KN * 4, none⟩ (.string ⟨l.label.toArray⟩)).setCell ⟨g, KN * 4 + 1, none⟩ (.string ⟨l.head.toArray⟩)).setCell ⟨g, KN * 4 + 2, none⟩ (.slice l.LA l.lines.length l.lc)).setCell ⟨g, KN * 4 + 3, none⟩ (.slice l.KA (l.ks.length + o.toNat) l.kc)) HS.out (by omega) hn' (by omega) hjn g c7 HD.out (by have := HG.out; omega) (by have := HG.out; have := HB.out; have := HX3.out.size; omega) HGl.out (by rw [← hK]; exact HO9.out) HP.out (fun X c col2 hX ho => by rw [← hK] at hX ho ⊢; exact row_head4 ho hX) (fun b hb => by rw [set_far (by exact hb), set_far (by exact hb), set_far (by exact hb), set_far (by exact hb)]) (by simp) ⟨by simp only [set_os], by simp only [set_tape], by simp only [set_out]⟩
        rw [← hK] at hst
        refine bodyPost_ret (v := .agg #[.string ⟨(lv k).label.toArray⟩, .string ⟨(lv k).head.toArray⟩, .slice (lv k).LA (lv k).lines.length (lv k).lc, .slice (some ⟨g, 0, none⟩) (KN + 1) c7]) (by simp [results, Tryz.results57, go_sem, t0, t1, t2, t3]) rfl (putp_of rfl (PutR.wrap HX3.out hn' hst (fun b hb => ?_) (by simp) ⟨by simp only [set_os], by simp only [set_tape], by simp only [set_out]⟩))
        have hz := HZ.out
        have hq := HQ.out
        have h0 : b ≠ Q0 := by omega
        have h2 : b ≠ Q2 := by omega
        rw [set_far (by exact h2), set_far (by exact h2), set_far (by exact h2), set_far (by exact h2), set_far (by exact h0)]
      exact AllReadyH.nil
    exact AllReadyH.nil
  exact AllReadyH.nil
/-- from any level -/
theorem put_any (ln : Bool) (x nm tx : Tx) (f : It → It) (j n n' : Nat) (hn : n ≤ 7) (hn' : n' ≤ 8) (hjn : j ≤ n) (B : Nat) (lv : Nat → Lv)
    (hbase : ∀ (col : Nat → Nat) (w : World) (WA : Option Addr) (wc : Nat), SubL B col w j n lv → B ≤ w.heap.size → Calls Tryz.prog 57 #[itV (lv j) (decide (j < n)), .slice WA 0 wc, .bool ln, .string ⟨x.toArray⟩, kidV nm tx] w (PutP B col f j j n n' lv w)) :
    ∀ (d k : Nat), k + d = j → ∀ (col : Nat → Nat) (w : World) (WA : Option Addr) (wc : Nat), SubL B col w k n lv → RdR w (fun b => col b = 2) WA (waysF lv k d) → B ≤ w.heap.size → d ≤ wc → wc ≤ 9223372036854775807 →
      Calls Tryz.prog 57 #[itV (lv k) (decide (k < n)), .slice WA d wc, .bool ln, .string ⟨x.toArray⟩, kidV nm tx] w (PutP B col f k j n n' lv w)
  | 0, k, e, col, w, WA, wc, h, _, hB, _, _ => by
    obtain rfl : k = j := by omega
    exact hbase col w WA wc h hB
  | d + 1, k, e, col, w, WA, wc, h, hW, hB, h1, h2 => put_step ln x nm tx f k j n n' d hn hn' e hjn B lv (fun col w WA wc h hW hB h1 h2 => put_any ln x nm tx f j n n' hn hn' hjn B lv hbase d (k + 1) (by omega) col w WA wc h hW hB h1 h2) col w WA wc h hW hB h1 h2
end Go.Proofs.YtflklbhgjfonbaaGreatDoor.Sc

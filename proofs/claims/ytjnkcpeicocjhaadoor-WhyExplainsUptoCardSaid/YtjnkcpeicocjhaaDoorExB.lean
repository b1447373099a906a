/- The law's back: the program's steps as the document has them. -/
import Derived.Test.YtjnkcpeicocjhaaDoorExF
import Derived.Test.YtjnkcpeicocjhaaDoorApp2
import Derived.Deep.RegionHeld3
import Derived.StillTailTactics
namespace Go.Proofs.YtjnkcpeicocjhaaDoor.Exp
open Go.RowKit Mem Thy Nest Day Thm Sol ChkW WhySound App

theorem rstep_info : (Tryd.prog.info? 63).map (fun i => (i.zero, i.size, i.bytes)) = some (some (.agg #[.bool false, .bool false, .int .i64 0]), 3, 16) := by kernel_rfl
set_option maxRecDepth 100000 in
set_option maxHeartbeats 2000000 in
theorem back_any (l : List Sp) (hl : l.length ≤ 1048576) (LA : Option Addr) (lc : Nat) (w : World) (h : Rd w LA (l.flatMap spCells)) :
    Calls Tryd.prog 31 #[.slice LA l.length lc] w (StepsPost l w) := by
  have H := Lib.hid h
  obtain ⟨i0, hi, hz0, hz1, hz2⟩ := info_parts rstep_info
  have HI := Lib.hid hi
  have HZ0 := Lib.hid hz0
  have HZ1 := Lib.hid hz1
  have HZ2 := Lib.hid hz2
  have mixed : Tryd.prog.follows Departure.mixedOrders = true := by kernel_rfl
  clear h hi hz0 hz1 hz2
  go_enter Tryd.func31, Tryd.ntmps31
  go_wp2_with fail
  go_loopw [3, 4] (fun t3 t4 wr => ∃ j : Nat, t4 = .int .i64 j ∧ j ≤ l.length ∧ Hid (Below w.heap.size w wr) ∧ Hid (wr.ownsRow w.heap.size 63 3 t3 j ((l.take j).flatMap spCells))) (fun _ t4 _ => l.length - (intOf t4).toNat)
  case atStart => exact ⟨0, rfl, Nat.zero_le _, Below.refl _ _, World.ownsRow_nil _ _ _ _⟩
  case round =>
    obtain ⟨j, rfl, hj, HB, HO⟩ := hrel
    by_cases hlt : j < l.length
    · have hcl : (j : Int) < l.length := by omega
      obtain ⟨b, o, rfl, r0, r1, r2⟩ := step_at H.out hlt
      obtain ⟨x, hx⟩ : ∃ x, x = l[j] := ⟨_, rfl⟩
      rw [← hx] at r0 r1 r2
      have HX := Lib.hid hx
      clear hx
      obtain ⟨xa, xb, xq⟩ := x
      simp only at r0 r1 r2
      have C0 := Lib.hid r0
      have C1 := Lib.hid r1
      have C2 := Lib.hid r2
      clear r0 r1 r2
      have HO1 := Lib.hid (own_ext HO.out (ext_trans (ext_drewN wr 1) (ext_alloc (wr.drewN 1) (.cells #[.bool xa, .bool xb, .int .i64 xq] 63))))
      have HBd := Lib.hid (ext_trans HB.out (ext_trans (ext_drewN wr 1) (ext_alloc (wr.drewN 1) (.cells #[.bool xa, .bool xb, .int .i64 xq] 63))))
      have HSz := Lib.hid (show w.heap.size ≤ ((wr.drewN 1).alloc (.cells #[.bool xa, .bool xb, .int .i64 xq] 63)).heap.size from HBd.out.size)
      have HNw := Lib.hid (show Rd ((wr.drewN 1).alloc (.cells #[.bool xa, .bool xb, .int .i64 xq] 63)) (some ⟨wr.heap.size, 0, none⟩) [.bool xa, .bool xb, .int .i64 xq] from fun j u hj => ⟨wr.heap.size, 0, rfl, by rw [Nat.zero_add]; exact (Blk.new (wr.drewN 1) 63 [.bool xa, .bool xb, .int .i64 xq]).cell j hj⟩)
      have d0 := cell_ext (ext_drewN wr 1) (cell_ext HB.out C0.out)
      have d1 := cell_ext (ext_drewN wr 1) (cell_ext HB.out C1.out)
      have d2 := cell_ext (ext_drewN wr 1) (cell_ext HB.out C2.out)
      go_wp2_with fail
      refine wp_region_held_drew (S := (fun w' => w'.cell? ⟨b, o + j * 3, none⟩ = some (.bool xa) ∧ w'.cell? ⟨b, o + j * 3 + 1, none⟩ = some (.bool xb) ∧ w'.cell? ⟨b, o + j * 3 + 2, none⟩ = some (.int .i64 xq))) (by kernel_rfl) ?_ (fun hHeld => ?_)
      · exact ⟨d0, d1, d2⟩
      refine wpAnyH_take (i := 0) (v := ?_) rfl (by kernel_rfl) (by kernel_rfl) (by kernel_rfl) (fun _ _ _ h => h) (Or.inl ⟨by rfl, ?_⟩) (by assumption) ?_
      rotate_left
      · intro w hSw; (try dsimp only at hSw); go_simp; try with_reducible rfl
      (try dsimp only [Act.put, List.setIfInBounds_toArray, List.set_cons_zero, List.set_cons_succ])
      refine wpAnyH_take (i := 1) (v := ?_) rfl (by kernel_rfl) (by kernel_rfl) (by kernel_rfl) (fun _ _ _ h => h) (Or.inl ⟨by rfl, ?_⟩) (by assumption) ?_
      rotate_left
      · intro w hSw; (try dsimp only at hSw); go_simp; try with_reducible rfl
      (try dsimp only [Act.put, List.setIfInBounds_toArray, List.set_cons_zero, List.set_cons_succ])
      refine wpAnyH_take (i := 2) (v := ?_) rfl (by kernel_rfl) (by kernel_rfl) (by kernel_rfl) (fun _ _ _ h => h) (Or.inl ⟨by rfl, ?_⟩) (by assumption) ?_
      rotate_left
      · intro w hSw; (try dsimp only at hSw); go_simp; try with_reducible rfl
      (try dsimp only [Act.put, List.setIfInBounds_toArray, List.set_cons_zero, List.set_cons_succ])
      refine wpAnyH_take (i := 3) (v := ?_) rfl (by kernel_rfl) (by kernel_rfl) (by kernel_rfl) (fun _ _ _ h => h) (Or.inl ⟨by rfl, ?_⟩) (by assumption) ?_
      rotate_left
      · intro w hSw; (try dsimp only at hSw); go_simp; try with_reducible rfl
      (try dsimp only [Act.put, List.setIfInBounds_toArray, List.set_cons_zero, List.set_cons_succ])
      refine wpAnyH_take (i := 4) (v := ?_) rfl (by kernel_rfl) (by kernel_rfl) (by kernel_rfl) (fun _ _ _ h => h) (Or.inl ⟨by rfl, ?_⟩) (by assumption) ?_
      rotate_left
      · intro w hSw; (try dsimp only at hSw); go_simp; try with_reducible rfl
      (try dsimp only [Act.put, List.setIfInBounds_toArray, List.set_cons_zero, List.set_cons_succ])
      refine wpAnyH_take (i := 5) (v := ?_) rfl (by kernel_rfl) (by kernel_rfl) (by kernel_rfl) (fun _ _ _ h => h) (Or.inl ⟨by rfl, ?_⟩) (by assumption) ?_
      rotate_left
      · intro w hSw; (try dsimp only at hSw); go_simp; try with_reducible rfl
      (try dsimp only [Act.put, List.setIfInBounds_toArray, List.set_cons_zero, List.set_cons_succ])
      refine wpAnyH_take (i := 6) (v := ?_) rfl (by kernel_rfl) (by kernel_rfl) (by kernel_rfl) (fun _ _ _ h => h) (Or.inl ⟨by rfl, ?_⟩) (by assumption) ?_
      rotate_left
      · intro w hSw; (try dsimp only at hSw); go_simp; try with_reducible rfl
      (try dsimp only [Act.put, List.setIfInBounds_toArray, List.set_cons_zero, List.set_cons_succ])
      refine wpAnyH_take (i := 7) (v := ?_) rfl (by kernel_rfl) (by kernel_rfl) (by kernel_rfl) (fun _ _ _ h => h) (Or.inl ⟨by rfl, ?_⟩) (by assumption) ?_
      rotate_left
      · intro w hSw; (try dsimp only at hSw); go_simp; try with_reducible rfl
      (try dsimp only [Act.put, List.setIfInBounds_toArray, List.set_cons_zero, List.set_cons_succ])
      refine wpAnyH_take (i := 8) (v := ?_) rfl (by kernel_rfl) (by kernel_rfl) (by kernel_rfl) (fun _ _ _ h => h) (Or.inl ⟨by rfl, ?_⟩) (by assumption) ?_
      rotate_left
      · intro w hSw; (try dsimp only at hSw); go_simp; try with_reducible rfl
      (try dsimp only [Act.put, List.setIfInBounds_toArray, List.set_cons_zero, List.set_cons_succ])
      refine wpAnyH_take (i := 9) (v := ?_) rfl (by kernel_rfl) (by kernel_rfl) (by kernel_rfl) (fun _ _ _ h => h) (Or.inl ⟨by rfl, ?_⟩) (by assumption) ?_
      rotate_left
      · intro w hSw; (try dsimp only at hSw); go_simp; try with_reducible rfl
      (try dsimp only [Act.put, List.setIfInBounds_toArray, List.set_cons_zero, List.set_cons_succ])
      refine wpAnyH_take (i := 10) (v := ?_) rfl (by kernel_rfl) (by kernel_rfl) (by kernel_rfl) (fun _ _ _ h => h) (Or.inl ⟨by rfl, ?_⟩) (by assumption) ?_
      rotate_left
      · intro w hSw; (try dsimp only at hSw); go_simp; try with_reducible rfl
      (try dsimp only [Act.put, List.setIfInBounds_toArray, List.set_cons_zero, List.set_cons_succ])
      refine wpAnyH_take (i := 11) (v := ?_) rfl (by kernel_rfl) (by kernel_rfl) (by kernel_rfl) (fun _ _ _ h => h) (Or.inl ⟨by rfl, ?_⟩) (by assumption) ?_
      rotate_left
      · intro w hSw; (try dsimp only at hSw); go_simp; try with_reducible rfl
      (try dsimp only [Act.put, List.setIfInBounds_toArray, List.set_cons_zero, List.set_cons_succ])
      refine wpAnyH_take (i := 12) (v := ?_) rfl (by kernel_rfl) (by kernel_rfl) (by kernel_rfl) (fun _ _ _ h => h) (Or.inl ⟨by rfl, ?_⟩) (by assumption) ?_
      rotate_left
      · intro w hSw; (try dsimp only at hSw); go_simp; try with_reducible rfl
      (try dsimp only [Act.put, List.setIfInBounds_toArray, List.set_cons_zero, List.set_cons_succ])
      refine wpAnyH_take (i := 13) (v := ?_) rfl (by kernel_rfl) (by kernel_rfl) (by kernel_rfl) (fun _ _ _ h => h) (Or.inl ⟨by rfl, ?_⟩) (by assumption) ?_
      rotate_left
      · intro w hSw; (try dsimp only at hSw); go_simp; try with_reducible rfl
      (try dsimp only [Act.put, List.setIfInBounds_toArray, List.set_cons_zero, List.set_cons_succ])
      refine wpAnyH_take (i := 14) (v := ?_) rfl (by kernel_rfl) (by kernel_rfl) (by kernel_rfl) (fun _ _ _ h => h) (Or.inl ⟨by rfl, ?_⟩) (by assumption) ?_
      rotate_left
      · intro w hSw; (try dsimp only at hSw); go_simp; try with_reducible rfl
      (try dsimp only [Act.put, List.setIfInBounds_toArray, List.set_cons_zero, List.set_cons_succ])
      refine wpAnyH_take (i := 15) (v := ?_) rfl (by kernel_rfl) (by kernel_rfl) (by kernel_rfl) (fun _ _ _ h => h) (Or.inl ⟨by rfl, ?_⟩) (by assumption) ?_
      rotate_left
      · intro w hSw; (try dsimp only at hSw); go_simp; try with_reducible rfl
      (try dsimp only [Act.put, List.setIfInBounds_toArray, List.set_cons_zero, List.set_cons_succ])
      refine wpAnyH_take (i := 16) (v := ?_) rfl (by kernel_rfl) (by kernel_rfl) (by kernel_rfl) (fun _ _ _ h => h) (Or.inl ⟨by rfl, ?_⟩) (by assumption) ?_
      rotate_left
      · intro w hSw; (try dsimp only at hSw); go_simp; try with_reducible rfl
      (try dsimp only [Act.put, List.setIfInBounds_toArray, List.set_cons_zero, List.set_cons_succ])
      refine wpAnyH_ready (rs := [17]) (by kernel_rfl) (by simp) ?_
      refine AllReadyH.cons rfl (fun K hK => ?_) ?_
      · go_simp
        refine hK.out _ _ ?_ (fun hHeld => ?_)
        · exact ⟨cell_ext (ext_alloc _ _) d0, cell_ext (ext_alloc _ _) d1, cell_ext (ext_alloc _ _) d2⟩
        clear hK K
        (try dsimp only [Act.put, List.setIfInBounds_toArray, List.set_cons_zero, List.set_cons_succ])
        refine wpAnyH_ready (rs := [18]) (by kernel_rfl) (by simp) ?_
        refine AllReadyH.cons rfl (fun K hK => ?_) ?_
        · refine step_append_rd _ (by rfl) _ _ _ (by rfl) w.heap.size 63 i0 _ 3 16 Tryd.underlying86 HI.out HZ0.out HZ1.out HZ2.out (by rfl) (by omega) u3 j _ (by rfl) HO1.out (some ⟨wr.heap.size, 0, none⟩) 1 1 [.bool xa, .bool xb, .int .i64 xq] (by rfl) (fun h => by cases h) (by rfl) HNw.out (by intro u hu; simp only [List.mem_cons, List.not_mem_nil, or_false] at hu; rcases hu with rfl | rfl | rfl <;> rfl) (by simp only [maxLen]; omega) (by omega) HSz.out ?_
          intro v1 w1 hown1 hg1
          obtain ⟨A1, c1, hv1, _⟩ := own_slice hown1
          subst hv1
          have HO2 := Lib.hid hown1
          have HB2 := Lib.hid (Below.grown HBd.out hg1 HSz.out (fun g hg => (HO1.out.lt g hg).1))
          clear hown1 hg1
          refine hK.out _ _ ?_ (fun hHeld => ?_)
          · exact ⟨cell_ext HB2.out C0.out, cell_ext HB2.out C1.out, cell_ext HB2.out C2.out⟩
          clear hK K
          (try dsimp only [Act.put, List.setIfInBounds_toArray, List.set_cons_zero, List.set_cons_succ])
          refine wpAnyH_take (i := 19) (v := ?_) rfl (by kernel_rfl) (by kernel_rfl) (by kernel_rfl) (fun _ _ _ h => h) (Or.inl ⟨by rfl, ?_⟩) (by assumption) ?_
          rotate_left
          · intro w hSw; (try dsimp only at hSw); go_simp; try with_reducible rfl
          (try dsimp only [Act.put, List.setIfInBounds_toArray, List.set_cons_zero, List.set_cons_succ])
          refine wpAnyH_done (by kernel_rfl) ?_ _
          go_wp2_with fail
          go_roundw
          case rel =>
            refine ⟨j + 1, by go_num, by omega, HB2.out, ?_⟩
            have ho := HO2.out
            show World.ownsRow _ _ _ _ _ _ _
            rw [List.take_succ_eq_append_getElem hlt, List.flatMap_append, ← HX.out]
            simpa [spCells] using ho
          case measure => simp [intOf] <;> omega
        exact AllReadyH.nil
      exact AllReadyH.nil
    · obtain rfl : l.length = j := by omega
      obtain ⟨A, c, rfl, _⟩ := own_slice HO.out
      go_wp2_with fail
      go_ret
      have h := Rd.of_own HO.out
      rw [List.take_length] at h
      exact ⟨A, c, rfl, h, HB.out⟩
end Go.Proofs.YtjnkcpeicocjhaaDoor.Exp

/- reason.rings: the walk. -/
import Derived.Test.YtipbmpakdcmdoaaDoorRings2
import Derived.StillTailTactics
import Derived.Laws.EntriesVeiled
namespace Go.Proofs.YtipbmpakdcmdoaaDoor.Rings
open Go.RowKit Mem Thy Nest Day Thm Ring

/-- what a cell holds, whatever that is -/
def held (a : Addr) (x : World) : Value := (x.cell? a).getD undef
theorem held_of {a : Addr} {x : World} {u : Value} (h : x.cell? a = some u) : x.cell? a = some (held a x) := by
  unfold held
  rw [h]
  rfl
theorem held_eq {a : Addr} {x : World} {u : Value} (h : x.cell? a = some u) : held a x = u := by
  unfold held
  rw [h]
  rfl
theorem cell_set_same {w : World} {a : Addr} {u : Value} (h : w.cell? a = some u) (v : Value) : (w.setCell a v).cell? a = some v := World.cell?_setCell_same' w a v (by rw [h]; rfl)
theorem int_info : (Tryd.prog.info? 3).map (fun i => (i.zero, i.size, i.bytes)) = some (some (.int .i64 0), 1, 8) := by kernel_rfl
set_option maxRecDepth 100000 in
set_option maxHeartbeats 2000000 in
theorem rings_any (n : Nat) (hn : n ≤ 120) (ov : List (Int × Int)) (hov : ov.length ≤ 1200) (hr : ∀ p ∈ ov, 0 ≤ p.1 ∧ p.1 < n ∧ 0 ≤ p.2 ∧ p.2 < n) (OA : Option Addr) (oc : Nat) (w : World) (hO : Rd w OA (ov.flatMap prCells)) :
    Calls Tryd.prog 82 #[.int .i64 n, .slice OA ov.length oc] w (BoolOf w (¬ Ranked ov)) := by
  have HO := Lib.hid hO
  have HRg := Lib.hid hr
  have hmk1 : ∀ w', (Instr.makeSlice 170 (.int .i64 (n : Int)) (.int .i64 (n : Int))).run Tryd.prog w' = .ok (.slice (some ⟨w'.heap.size, 0, none⟩) n n) (w'.alloc (.cells (List.replicate n (.slice none 0 0)).toArray 49)) := make_lists n (by omega)
  have hmk2 : ∀ w', (Instr.makeSlice 49 (.int .i64 (n : Int)) (.int .i64 (n : Int))).run Tryd.prog w' = .ok (.slice (some ⟨w'.heap.size, 0, none⟩) n n) (w'.alloc (.cells (ints (List.replicate n 0)).toArray 3)) := Sol.make_ints n (by omega)
  have HB0 := Lib.hid (Bl.start w n ov)
  obtain ⟨i0, hi, hz0, hz1, hz2⟩ := info_parts int_info
  have HI := Lib.hid hi
  have HZ0 := Lib.hid hz0
  have HZ1 := Lib.hid hz1
  have HZ2 := Lib.hid hz2
  clear hi hz0 hz1 hz2
  clear hO hr
  go_enter Tryd.func82, Tryd.ntmps82
  go_wp2_with fail
  go_loopw [15] (fun c wr => ∃ (j : Nat) (vs : List Value) (xs : List (List Nat)), c = .int .i64 j ∧ j ≤ ov.length ∧ Hid (Bl w wr n vs xs ov j)) (fun c _ => ov.length - (intOf c).toNat)
  case atStart => exact ⟨0, _, _, rfl, Nat.zero_le _, HB0.out⟩
  case round =>
    clear HB0
    obtain ⟨j, vs, xs, rfl, hj, HB⟩ := hrel
    by_cases hlt : j < ov.length
    · obtain ⟨b, o, rfl, r0, r1⟩ := pair_at (HO.out.ext HB.out.below) hlt
      obtain ⟨pa, pb, ha, hb, hpe⟩ : ∃ pa pb : Nat, pa < n ∧ pb < n ∧ ov[j] = ((pa : Int), (pb : Int)) := by
        obtain ⟨k1, k2, k3, k4⟩ := HRg.out _ (List.getElem_mem hlt)
        exact ⟨ov[j].1.toNat, ov[j].2.toNat, by omega, by omega, Prod.ext (by simp; omega) (by simp; omega)⟩
      rw [hpe] at r0 r1
      simp only at r0 r1
      have HPE := Lib.hid hpe
      clear hpe
      have hva : pa < vs.length := by rw [HB.out.lv]; exact ha
      have hxa : pa < xs.length := by rw [HB.out.lx]; exact ha
      obtain ⟨v0, hv0⟩ : ∃ v0, v0 = vs[pa] := ⟨_, rfl⟩
      obtain ⟨xa, hxa0⟩ : ∃ xa, xa = xs[pa] := ⟨_, rfl⟩
      have hxl : xa.length ≤ 1200 := by have := HB.out.tot pa hxa; rw [← hxa0] at this; omega
      have HVA := Lib.hid hva
      have HXA := Lib.hid hxa
      have HV0 := Lib.hid hv0
      have HX0 := Lib.hid hxa0
      have HWx := Lib.hid (HB.out.ext (ext_alloc wr (.cells #[.int .i64 pa, .int .i64 pb] 146)))
      have v0c : (wr.alloc (.cells #[.int .i64 pa, .int .i64 pb] 146)).cell? ⟨wr.heap.size, 0, none⟩ = some (.int .i64 pa) := by rw [World.cell?_alloc_at _ _ _ _ rfl]; rfl
      have v1c : (wr.alloc (.cells #[.int .i64 pa, .int .i64 pb] 146)).cell? ⟨wr.heap.size, 1, none⟩ = some (.int .i64 pb) := by rw [World.cell?_alloc_at _ _ _ _ rfl]; rfl
      have hsz : wr.heap.size < (wr.alloc (.cells #[.int .i64 pa, .int .i64 pb] 146)).heap.size := by simp
      have hb0 : w.heap.size + 1 < wr.heap.size := HB.out.var.lt
      clear hv0 hxa0
      go_wp2_with fail
      clear r0 r1
      generalize (wr.alloc (.cells #[.int .i64 pa, .int .i64 pb] 146)) = W at *
      have yv := HWx.out.var.cell 0 rfl
      have yn : W.cell? ⟨w.heap.size, pa, none⟩ = some v0 := HWx.out.blk.cell pa (by rw [HV0.out]; exact List.getElem?_eq_getElem HVA.out)
      have hown := HWx.out.own pa HVA.out HXA.out
      rw [← HV0.out, ← HX0.out] at hown
      have HOwn := Lib.hid (hown.alloc (.cells #[.int .i64 pb] 3))
      have hrow : v0.ownBlock ≠ some w.heap.size ∧ v0.ownBlock ≠ some (w.heap.size + 1) ∧ v0.ownBlock ≠ some wr.heap.size := by
        have h1 := hown.lt
        have h2 := (HB.out.own pa HVA.out HXA.out).lt
        rw [← HV0.out] at h2
        exact ⟨fun e => by have := h1 _ e; omega, fun e => by have := h1 _ e; omega, fun e => by have := h2 _ e; omega⟩
      have HRow := Lib.hid hrow
      have HL := Lib.hid (show w.heap.size < W.heap.size ∧ w.heap.size + 1 < W.heap.size from ⟨HWx.out.blk.lt, HWx.out.var.lt⟩)
      have HWs := Lib.hid HWx.out.below.size
      clear hown hrow
      have HKf := Lib.hid (show ∀ w1 : World, (W.alloc (.cells #[.int .i64 (pb : Int)] 3)).drew.grownBy w1 v0.ownBlock → (w1.cell? ⟨w.heap.size + 1, 0, none⟩ = some (.slice (some ⟨w.heap.size, 0, none⟩) n n) ∧ w1.cell? ⟨wr.heap.size, 0, none⟩ = some (.int .i64 pa) ∧ w1.cell? ⟨wr.heap.size, 1, none⟩ = some (.int .i64 pb) ∧ w1.cell? ⟨w.heap.size, pa, none⟩ = some v0) ∧ w1.frozen? ⟨w.heap.size, pa, none⟩ = false from fun w1 hgrow =>
        ⟨⟨hgrow.cell (cell_ext (ext_alloc W _) yv) (Ne.symm HRow.out.2.1), hgrow.cell (cell_ext (ext_alloc W _) v0c) (Ne.symm HRow.out.2.2), hgrow.cell (cell_ext (ext_alloc W _) v1c) (Ne.symm HRow.out.2.2), hgrow.cell (cell_ext (ext_alloc W _) yn) (Ne.symm HRow.out.1)⟩,
          (hgrow.frozen_far ⟨w.heap.size, pa, none⟩ (by have := HL.out; simp; omega) (Ne.symm HRow.out.1)).trans ((HWx.out.ext (ext_alloc W _)).blk.free pa)⟩)
      have yn2 : ∀ ob, (W.alloc ob).cell? ⟨w.heap.size, pa, none⟩ = some v0 := fun ob => cell_ext (ext_alloc _ _) yn
      refine wp_region_held_drew (S := (fun w' => w'.cell? ⟨w.heap.size + 1, 0, none⟩ = some (.slice (some ⟨w.heap.size, 0, none⟩) n n) ∧ w'.cell? ⟨wr.heap.size, 0, none⟩ = some (.int .i64 pa) ∧ w'.cell? ⟨wr.heap.size, 1, none⟩ = some (.int .i64 pb))) (by kernel_rfl) ?_ (fun hHeld => ?_)
      · exact ⟨yv, v0c, v1c⟩
      refine wpAnyH_take (i := 0) (v := ?_) rfl (by kernel_rfl) (by kernel_rfl) (by kernel_rfl) (fun _ _ _ h => h) (Or.inl ⟨by rfl, ?_⟩) (by assumption) ?_
      rotate_left
      · intro w hSw; (try dsimp only at hSw); go_simp; try with_reducible rfl
      (try dsimp only [Act.put, List.setIfInBounds_toArray, List.set_cons_zero, List.set_cons_succ])
      refine wpAnyH_take (i := 1) (v := ?_) rfl (by kernel_rfl) (by kernel_rfl) (by kernel_rfl) (fun _ _ _ h => h) (Or.inl ⟨by rfl, ?_⟩) (by assumption) ?_
      rotate_left
      · intro w hSw; (try dsimp only at hSw); go_simp; try with_reducible rfl
      (try dsimp only [Act.put, List.setIfInBounds_toArray, List.set_cons_zero, List.set_cons_succ])
      refine wpAnyH_take (i := 2) (v := ?_) rfl (by kernel_rfl) (by kernel_rfl) (by kernel_rfl) (fun _ _ _ h => h) (Or.inl ⟨by rfl, ?_⟩) (by assumption) ?_
      rotate_left
      · intro w hSw; (try dsimp only at hSw); go_simp; try with_reducible rfl
      (try dsimp only [Act.put, List.setIfInBounds_toArray, List.set_cons_zero, List.set_cons_succ])
      refine wpAnyH_take (i := 3) (v := ?_) rfl (by kernel_rfl) (by kernel_rfl) (by kernel_rfl) (fun _ _ _ h => h) (Or.inl ⟨by rfl, ?_⟩) (by assumption) ?_
      rotate_left
      · intro w hSw; (try dsimp only at hSw); go_simp; try with_reducible rfl
      (try dsimp only [Act.put, List.setIfInBounds_toArray, List.set_cons_zero, List.set_cons_succ])
      refine wpAnyH_take (i := 4) (v := ?_) rfl (by kernel_rfl) (by kernel_rfl) (by kernel_rfl) (fun _ _ _ h => h) (Or.inl ⟨by rfl, ?_⟩) (by assumption) ?_
      rotate_left
      · intro w hSw; (try dsimp only at hSw); go_simp; try with_reducible rfl
      (try dsimp only [Act.put, List.setIfInBounds_toArray, List.set_cons_zero, List.set_cons_succ])
      refine wpAnyH_take (i := 5) (v := ?_) rfl (by kernel_rfl) (by kernel_rfl) (by kernel_rfl) (fun _ _ _ h => h) (Or.inl ⟨by rfl, ?_⟩) (by assumption) ?_
      rotate_left
      · intro w hSw; (try dsimp only at hSw); go_simp; try with_reducible rfl
      (try dsimp only [Act.put, List.setIfInBounds_toArray, List.set_cons_zero, List.set_cons_succ])
      refine wpAnyH_take (i := 6) (v := ?_) rfl (by kernel_rfl) (by kernel_rfl) (by kernel_rfl) (fun _ _ _ h => h) (Or.inl ⟨by rfl, ?_⟩) (by assumption) ?_
      rotate_left
      · intro w hSw; (try dsimp only at hSw); go_simp; try with_reducible rfl
      (try dsimp only [Act.put, List.setIfInBounds_toArray, List.set_cons_zero, List.set_cons_succ])
      refine wpAnyH_take (i := 8) (v := ?_) rfl (by kernel_rfl) (by kernel_rfl) (by kernel_rfl) (fun _ _ _ h => h) (Or.inl ⟨by rfl, ?_⟩) (by assumption) ?_
      rotate_left
      · intro w hSw; (try dsimp only at hSw); go_simp; try with_reducible rfl
      (try dsimp only [Act.put, List.setIfInBounds_toArray, List.set_cons_zero, List.set_cons_succ])
      refine wpAnyH_take (i := 9) (v := ?_) rfl (by kernel_rfl) (by kernel_rfl) (by kernel_rfl) (fun _ _ _ h => h) (Or.inl ⟨by rfl, ?_⟩) (by assumption) ?_
      rotate_left
      · intro w hSw; (try dsimp only at hSw); go_simp; try with_reducible rfl
      (try dsimp only [Act.put, List.setIfInBounds_toArray, List.set_cons_zero, List.set_cons_succ])
      refine wpAnyH_ready (rs := [7, 10]) (by kernel_rfl) (by simp) ?_
      refine AllReadyH.cons rfl (fun K hK => ?_) ?_
      · go_simp
        refine hK.out _ _ ?_ (fun hHeld => ?_)
        · exact ⟨yv, v0c, v1c⟩
        clear hK K
        (try dsimp only [Act.put, List.setIfInBounds_toArray, List.set_cons_zero, List.set_cons_succ])
        refine wpAnyH_ready (rs := [10]) (by kernel_rfl) (by simp) ?_
        refine AllReadyH.cons rfl (fun K hK => ?_) ?_
        · go_simp
          refine hK.out _ _ ?_ (fun hHeld => ?_)
          · exact ⟨cell_ext (ext_alloc W _) yv, cell_ext (ext_alloc W _) v0c, cell_ext (ext_alloc W _) v1c⟩
          clear hK K
          (try dsimp only [Act.put, List.setIfInBounds_toArray, List.set_cons_zero, List.set_cons_succ])
          refine wpAnyH_ready (rs := [11]) (by kernel_rfl) (by simp) ?_
          refine AllReadyH.cons rfl (fun K hK => ?_) ?_
          · refine step_append_lies _ (by rfl) _ _ _ (by rfl) (w.heap.size + 2) 3 i0 _ 1 8 Tryd.underlying49 HI.out HZ0.out HZ1.out HZ2.out rfl (by omega) v0 xa.length (natInts xa) (by rfl) HOwn.out.drew ⟨W.heap.size, 0, none⟩ 1 1 [.int .i64 pb] (by rfl) (by rfl) (World.news_of_block (cs := #[.int .i64 pb]) (t := 3) (fr := (0, 0)) (heap_alloc_new W _)) (by simp [Value.oneCell']) (by omega) (by unfold maxLen; omega) (by omega) (by have := HL.out; simp; omega) (W.heap.size + 1) (by simp) ?_; intro gg cap w1 hown1 hgrow hat hlt2; have hfr := (HKf.out w1 hgrow).2; have hk1 := (HKf.out w1 hgrow).1.1; have hk2 := (HKf.out w1 hgrow).1.2.1; have hk3 := (HKf.out w1 hgrow).1.2.2.1; have hk4 := (HKf.out w1 hgrow).1.2.2.2; have HO1 := Lib.hid hown1; have HG1 := Lib.hid hgrow; have HAt := Lib.hid hat; clear hown1 hgrow hat
            refine hK.out _ _ ?_ (fun hHeld => ?_)
            · exact ⟨hk1, hk2, hk3⟩
            clear hK K
            (try dsimp only [Act.put, List.setIfInBounds_toArray, List.set_cons_zero, List.set_cons_succ])
            refine wpAnyH_take (i := 12) (v := ?_) rfl (by kernel_rfl) (by kernel_rfl) (by kernel_rfl) (fun _ _ _ h => h) (Or.inl ⟨by rfl, ?_⟩) (by assumption) ?_
            rotate_left
            · intro w hSw; (try dsimp only at hSw); go_simp; try with_reducible rfl
            (try dsimp only [Act.put, List.setIfInBounds_toArray, List.set_cons_zero, List.set_cons_succ])
            refine wpAnyH_ready (rs := [13]) (by kernel_rfl) (by simp) ?_
            refine AllReadyH.cons rfl (fun K hK => ?_) ?_
            · go_simp
              refine hK.out _ _ ?_ (fun hHeld => ?_)
              · exact ⟨cell_set_other hk1 (by simp) _, cell_set_other hk2 (by simp; omega) _, cell_set_other hk3 (by simp; omega) _⟩
              clear hK K
              (try dsimp only [Act.put, List.setIfInBounds_toArray, List.set_cons_zero, List.set_cons_succ])
              refine wpAnyH_done (by kernel_rfl) ?_ _
              go_wp2_with fail
              go_roundw
              case rel => exact ⟨j + 1, _, _, by go_num, by omega, Bl.put (HWx.out.ext (ext_alloc W _) |>.ext (ext_drewN _ 1)) hlt ha HVA.out HXA.out HV0.out HX0.out HPE.out HO1.out HG1.out (by have := HAt.out; simpa using this)⟩
              case measure => simp [intOf]; omega
            exact AllReadyH.nil
          exact AllReadyH.nil
        exact AllReadyH.nil
      refine AllReadyH.cons rfl (fun K hK => ?_) ?_
      · go_simp
        refine hK.out _ _ ?_ (fun hHeld => ?_)
        · exact ⟨cell_ext (ext_alloc W _) yv, cell_ext (ext_alloc W _) v0c, cell_ext (ext_alloc W _) v1c⟩
        clear hK K
        (try dsimp only [Act.put, List.setIfInBounds_toArray, List.set_cons_zero, List.set_cons_succ])
        refine wpAnyH_ready (rs := [7]) (by kernel_rfl) (by simp) ?_
        refine AllReadyH.cons rfl (fun K hK => ?_) ?_
        · go_simp
          refine hK.out _ _ ?_ (fun hHeld => ?_)
          · exact ⟨cell_ext (ext_alloc W _) yv, cell_ext (ext_alloc W _) v0c, cell_ext (ext_alloc W _) v1c⟩
          clear hK K
          (try dsimp only [Act.put, List.setIfInBounds_toArray, List.set_cons_zero, List.set_cons_succ])
          refine wpAnyH_ready (rs := [11]) (by kernel_rfl) (by simp) ?_
          refine AllReadyH.cons rfl (fun K hK => ?_) ?_
          · refine step_append_lies _ (by rfl) _ _ _ (by rfl) (w.heap.size + 2) 3 i0 _ 1 8 Tryd.underlying49 HI.out HZ0.out HZ1.out HZ2.out rfl (by omega) v0 xa.length (natInts xa) (by rfl) HOwn.out.drew ⟨W.heap.size, 0, none⟩ 1 1 [.int .i64 pb] (by rfl) (by rfl) (World.news_of_block (cs := #[.int .i64 pb]) (t := 3) (fr := (0, 0)) (heap_alloc_new W _)) (by simp [Value.oneCell']) (by omega) (by unfold maxLen; omega) (by omega) (by have := HL.out; simp; omega) (W.heap.size + 1) (by simp) ?_; intro gg cap w1 hown1 hgrow hat hlt2; have hfr := (HKf.out w1 hgrow).2; have hk1 := (HKf.out w1 hgrow).1.1; have hk2 := (HKf.out w1 hgrow).1.2.1; have hk3 := (HKf.out w1 hgrow).1.2.2.1; have hk4 := (HKf.out w1 hgrow).1.2.2.2; have HO1 := Lib.hid hown1; have HG1 := Lib.hid hgrow; have HAt := Lib.hid hat; clear hown1 hgrow hat
            refine hK.out _ _ ?_ (fun hHeld => ?_)
            · exact ⟨hk1, hk2, hk3⟩
            clear hK K
            (try dsimp only [Act.put, List.setIfInBounds_toArray, List.set_cons_zero, List.set_cons_succ])
            refine wpAnyH_take (i := 12) (v := ?_) rfl (by kernel_rfl) (by kernel_rfl) (by kernel_rfl) (fun _ _ _ h => h) (Or.inl ⟨by rfl, ?_⟩) (by assumption) ?_
            rotate_left
            · intro w hSw; (try dsimp only at hSw); go_simp; try with_reducible rfl
            (try dsimp only [Act.put, List.setIfInBounds_toArray, List.set_cons_zero, List.set_cons_succ])
            refine wpAnyH_ready (rs := [13]) (by kernel_rfl) (by simp) ?_
            refine AllReadyH.cons rfl (fun K hK => ?_) ?_
            · go_simp
              refine hK.out _ _ ?_ (fun hHeld => ?_)
              · exact ⟨cell_set_other hk1 (by simp) _, cell_set_other hk2 (by simp; omega) _, cell_set_other hk3 (by simp; omega) _⟩
              clear hK K
              (try dsimp only [Act.put, List.setIfInBounds_toArray, List.set_cons_zero, List.set_cons_succ])
              refine wpAnyH_done (by kernel_rfl) ?_ _
              go_wp2_with fail
              go_roundw
              case rel => exact ⟨j + 1, _, _, by go_num, by omega, Bl.put (HWx.out.ext (ext_alloc W _) |>.ext (ext_drewN _ 1)) hlt ha HVA.out HXA.out HV0.out HX0.out HPE.out HO1.out HG1.out (by have := HAt.out; simpa using this)⟩
              case measure => simp [intOf]; omega
            exact AllReadyH.nil
          exact AllReadyH.nil
        exact AllReadyH.nil
      exact AllReadyH.nil
    · obtain rfl : ov.length = j := by omega
      obtain ⟨nx, hnl, hvs, hxs, hrows⟩ := HB.out.done
      obtain ⟨p, hp⟩ : ∃ p : RgP, p = ⟨w.heap.size, wr.heap.size + 1, w.heap.size + 1, wr.heap.size + 2, wr.heap.size, w.heap.size, n, nx, ov⟩ := ⟨_, rfl⟩
      have hb0 : w.heap.size + 1 < wr.heap.size := HB.out.var.lt
      have hmem : ∀ (k : Nat) (h : k < nx.length) (b : Nat), b ∈ nx[k].xs ↔ E ov k b := fun k h b => by
        have h2 : k < xs.length := by rw [HB.out.lx, ← hnl]; exact h
        have := HB.out.mem k h2 b
        rw [List.take_length] at this
        rw [← this]
        simp [← hxs]
      have OK := Lib.hid (show p.Ok by
        subst hp
        refine ⟨hn, hnl, fun r hr => ?_, hmem, fun r hr x hx => ?_, by show w.heap.size ≤ wr.heap.size; omega, by show wr.heap.size + 1 ≠ wr.heap.size; omega, by show w.heap.size + 1 ≠ wr.heap.size; omega, by show wr.heap.size + 2 ≠ wr.heap.size; omega, by show w.heap.size ≠ wr.heap.size; omega⟩
        · obtain ⟨i, hi, rfl⟩ := List.mem_iff_getElem.1 hr
          have h2 : i < xs.length := by rw [HB.out.lx, ← hnl]; exact hi
          have := HB.out.tot i h2
          simp [← hxs] at this
          exact Nat.le_trans this hov
        · obtain ⟨i, hi, rfl⟩ := List.mem_iff_getElem.1 hr
          have h := (hmem i hi x).1 hx
          have h3 : ((i : Int), (x : Int)).2 < (n : Int) := (HRg.out _ h).2.2.2
          simp only at h3
          show x < n
          omega)
      have x1 := ext_alloc wr (.cells (ints (List.replicate n 0)).toArray 3)
      have x2 := ext_alloc (wr.alloc (.cells (ints (List.replicate n 0)).toArray 3)) (.cells #[.slice (some ⟨wr.heap.size, 0, none⟩) n n] 49)
      have x3 := ext_alloc ((wr.alloc (.cells (ints (List.replicate n 0)).toArray 3)).alloc (.cells #[.slice (some ⟨wr.heap.size, 0, none⟩) n n] 49)) (.cells #[.func (.func 102) #[] #[.pointer (some ⟨wr.heap.size + 1, 0, none⟩), .pointer (some ⟨w.heap.size + 1, 0, none⟩), .pointer (some ⟨wr.heap.size + 2, 0, none⟩)]] 29)
      have x123 := ext_trans x1 (ext_trans x2 x3)
      have HR0 := Lib.hid (show Rg (((wr.alloc (.cells (ints (List.replicate n 0)).toArray 3)).alloc (.cells #[.slice (some ⟨wr.heap.size, 0, none⟩) n n] 49)).alloc (.cells #[.func (.func 102) #[] #[.pointer (some ⟨wr.heap.size + 1, 0, none⟩), .pointer (some ⟨w.heap.size + 1, 0, none⟩), .pointer (some ⟨wr.heap.size + 2, 0, none⟩)]] 29)) p (List.replicate n 0) by
        subst hp
        refine ⟨?_, Sol.blk_ext HB.out.var x123, ?_, Sol.blk_ext (Blk.new wr _ _) (ext_trans x2 x3), by simp, ?_, fun r hr => (hrows r hr).ext x123, fun r hr => LowA.of_rd (hrows r hr)⟩
        · exact Sol.blk_ext (by simpa using Blk.new (wr.alloc (.cells (ints (List.replicate n 0)).toArray 3)) 49 [.slice (some ⟨wr.heap.size, 0, none⟩) n n]) x3
        · simpa [caps] using Blk.new ((wr.alloc (.cells (ints (List.replicate n 0)).toArray 3)).alloc (.cells #[.slice (some ⟨wr.heap.size, 0, none⟩) n n] 49)) 29 [.func (.func 102) #[] #[.pointer (some ⟨wr.heap.size + 1, 0, none⟩), .pointer (some ⟨w.heap.size + 1, 0, none⟩), .pointer (some ⟨wr.heap.size + 2, 0, none⟩)]]
        · rw [← hvs]; exact Sol.blk_ext HB.out.blk x123)
      have HBe := Lib.hid (HB.out.below.trans (x123.mono (show w.heap.size ≤ wr.heap.size by omega)))
      have e1 : p.b1 = wr.heap.size + 1 := by rw [hp]
      have e2 : p.b2 = w.heap.size + 1 := by rw [hp]
      have e3 : p.b3 = wr.heap.size + 2 := by rw [hp]
      have e4 : p.n = n := by rw [hp]
      have e5 : p.over = ov := by rw [hp]
      have e6 : p.base = w.heap.size := by rw [hp]
      have HE := Lib.hid (show p.b1 = wr.heap.size + 1 ∧ p.b2 = w.heap.size + 1 ∧ p.b3 = wr.heap.size + 2 ∧ p.n = n ∧ p.over = ov ∧ p.base = w.heap.size from ⟨e1, e2, e3, e4, e5, e6⟩)
      clear x1 x2 x3 x123 e1 e2 e3 e4 e5 e6 hp hmem hrows hvs hxs HB
      go_wp2_with fail
      obtain ⟨wb, hwb⟩ : ∃ wb : Nat, wb = wr.heap.size := ⟨_, rfl⟩
      have HWB := Lib.hid hwb
      clear hwb
      go_loopw [37] (fun t37 wq => ∃ (k : Nat) (st : List Int), t37 = .int .i64 k ∧ k ≤ n ∧ Hid (Rg wq p st) ∧ Hid (Vals st) ∧ Hid (Done ov st) ∧ Hid (∀ j, get st j ≠ 1) ∧ Hid (∀ j, j < k → get st j = 2) ∧ Hid (Below w.heap.size w wq)) (fun t37 _ => n - (intOf t37).toNat)
      case atStart =>
        have z : ∀ j, get (List.replicate n (0 : Int)) j = 0 := fun j => by unfold Ring.get; simp only [List.getD, List.getElem?_replicate]; split <;> rfl
        exact ⟨0, _, rfl, Nat.zero_le _, HR0.out, fun j => .inl (z j), done_start ov n, fun j h => by rw [z j] at h; exact absurd h (by decide), fun j h => absurd h (by omega), HBe.out⟩
      case round =>
        clear HR0 HBe
        obtain ⟨k, st, rfl, hk, HR, HV, HD, H1, H2, HB⟩ := hrel
        by_cases hkn : k < n
        · have y3 : wr.cell? ⟨wb + 2, 0, none⟩ = some (.func (.func 102) #[] #[.pointer (some ⟨wb + 1, 0, none⟩), .pointer (some ⟨w.heap.size + 1, 0, none⟩), .pointer (some ⟨wb + 2, 0, none⟩)]) := by
            have h := HR.out.v3.cell 0 rfl
            unfold caps at h
            rw [HE.out.1, HE.out.2.1, HE.out.2.2.1, ← HWB.out] at h
            exact h
          have HW := Lib.hid (walk_any p OK.out (zeros st) st k wr (Nat.le_refl _) HR.out (by rw [HE.out.2.2.2.1]; exact hkn) HV.out (by rw [HE.out.2.2.2.2.1]; exact HD.out) (fun j h => absurd h (H1.out j)))
          rw [HE.out.1, HE.out.2.1, HE.out.2.2.1] at HW
          rw [HWB.out] at y3
          go_wp2_with fail
          refine HW.out.mono ?_
          rintro e w' ⟨bb, st2, rfl, k1, k2, k3, k4, k5⟩
          rw [HE.out.2.2.2.2.1] at k4 k5
          rw [HE.out.2.2.2.2.2] at k3
          have HK1 := Lib.hid k1
          have HK2 := Lib.hid k2
          have HK3 := Lib.hid (HB.out.trans k3)
          have HK4 := Lib.hid k4
          have HK5 := Lib.hid k5
          clear k1 k2 k3 k4 k5 y3
          cases bb
          · go_wp2_with fail
            have hf := HK5.out (by simp)
            go_roundw
            case rel =>
              refine ⟨k + 1, st2, by go_num, by omega, HK1.out, HK2.out, hf.done, fun j h => H1.out j (hf.one j h), fun j hj => ?_, HK3.out⟩
              by_cases e : j = k
              · subst e; exact hf.two
              · have := H2.out j (by omega)
                rw [hf.keep j (by rw [this]; decide), this]
            case measure => simp [intOf]; omega
          · go_wp2_with fail
            go_ret
            exact ⟨true, rfl, by simpa using cycle_not (HK4.out (by simp)), HK3.out⟩
        · obtain rfl : n = k := by omega
          go_wp2_with fail
          go_ret
          refine ⟨false, rfl, ?_, HB.out⟩
          have hl := HR.out.ls
          rw [HE.out.2.2.2.1] at hl
          have : Ranked ov := ranked_of HD.out (fun j hj => H2.out j (by omega)) (by rw [hl]; exact HRg.out)
          simp [this]
end Go.Proofs.YtipbmpakdcmdoaaDoor.Rings

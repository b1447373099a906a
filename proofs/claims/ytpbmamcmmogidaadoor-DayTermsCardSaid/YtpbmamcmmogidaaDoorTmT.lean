/- Terms' texts: both sides' text of a term. -/
import Derived.Test.YtpbmamcmmogidaaDoorTmV
import Derived.Test.YtpbmamcmmogidaaDoorDec
import Derived.Deep.RegionHeld3
namespace Go.Proofs.YtpbmamcmmogidaaDoor.Tm
open Go.RowKit Mem Nest Cn Err Flt Rd Tabs

instance (n u r : Int) : Decidable (Vt n u r) := by unfold Vt; infer_instance
def sufW (r : Int) : List UInt8 := if r = 1 then nextT else if r = 2 then befT else []
/-- a term's text -/
def tT (n u r : Int) : List UInt8 := if Vt n u r then Lib.decDigits n.toNat ++ [32] ++ wd u.toNat ++ sufW r else []
theorem tT_no {n u r : Int} (h : ¬ Vt n u r) : tT n u r = [] := if_neg h
theorem tT_yes {n u r : Int} (h : Vt n u r) : tT n u r = Lib.decDigits n.toNat ++ [32] ++ wd u.toNat ++ sufW r := if_pos h
theorem wdl (u : Nat) : (wd u).length ≤ 12 := by
  unfold wd
  split <;> simp
theorem digs_len {n : Nat} (h : n ≤ 100000) : (Lib.decDigits n).length ≤ 20 := Nat.le_trans (dec_wide 19 n (by omega)).1 (by omega)
theorem tt_app (l m : List UInt8) (r : Int) (x : ByteArray) (hx : x = ⟨(sufW r).toArray⟩) : (ByteArray.mk l.toArray ++ ⟨#[32]⟩ ++ ⟨m.toArray⟩ ++ x : ByteArray) = ⟨(l ++ [32] ++ m ++ sufW r).toArray⟩ := by
  subst hx
  apply ByteArray.ext
  simp
set_option maxHeartbeats 16000000 in
theorem ptt_yes (n u : Nat) (r : Int) (hn : n ≤ 100000) (hu : u ≤ 4) (hr : r = 0 ∨ r = 1 ∨ r = 2) (A : Nat → Addr) (w : World) (hE : Errs w A) (hp : Pow w) :
    Calls Tryd.prog 22 #[.agg #[.int .i64 (n : Int), .int .i64 (u : Int), .int .i64 r]] w (StrPost (Lib.decDigits n ++ [32] ++ wd u ++ sufW r) w) := by
  have hb := ext_alloc w (.cells (List.toArray [.int .i64 (n : Int), .int .i64 (u : Int), .int .i64 r]) 46)
  have b := Blk.new w 46 [.int .i64 (n : Int), .int .i64 (u : Int), .int .i64 r]
  obtain ⟨W, hW⟩ : ∃ W, W = w.alloc (.cells (List.toArray [.int .i64 (n : Int), .int .i64 (u : Int), .int .i64 r]) 46) := ⟨_, rfl⟩
  rw [← hW] at hb b
  have HE := Lib.hid (hE.below hb)
  have HP := Lib.hid (hp.ext hb)
  have HB := Lib.hid hb
  have c0 := b.cell 0 rfl
  have c1 := b.cell 1 rfl
  have c2 := b.cell 2 rfl
  have hd := digs_len hn
  obtain ⟨l, hl⟩ : ∃ l, l = Lib.decDigits n := ⟨_, rfl⟩
  have HI := Lib.hid (fun w (h : Pow w) => itoa_nat n (by omega) w h)
  rw [← hl] at HI hd ⊢
  have hwl := wdl u
  have hu0 : (0 : Int) ≤ (u : Int) := by omega
  have hx1 : ¬ 9223372036854775807 < l.length + 1 := by omega
  have hx2 : ¬ 9223372036854775807 < l.length + 1 + (wd u).length := by omega
  have hx3 : ¬ 9223372036854775807 < l.length + 1 + (wd u).length + 6 := by omega
  have hx4 : ¬ 9223372036854775807 < l.length + 1 + (wd u).length + 8 := by omega
  have hu5 : (u : Int) < 5 := by omega
  have HV := Lib.hid (show Vt (n : Int) (u : Int) r by unfold Vt; omega)
  clear hl hb b hE hp
  go_enter Tryd.func22, Tryd.ntmps22
  go_wp2_with fail
  rw [show w.alloc (.cells #[.int .i64 (n : Int), .int .i64 (u : Int), .int .i64 r] 46) = W from hW.symm]
  clear hW
  refine (valid_any (n : Int) (u : Int) r A _ HE.out).mono ?_
  rintro e w1 ⟨v, rfl, hv, hb1⟩
  obtain rfl : v = .nilIface := by
    rcases hv with ⟨_, h⟩ | ⟨h, _⟩
    · exact h
    · exact absurd HV.out h
  have HB1 := Lib.hid (ext_trans HB.out hb1)
  have HP1 := Lib.hid (HP.out.ext hb1)
  have d0 := cell_ext hb1 c0
  have d1 := cell_ext hb1 c1
  have d2 := cell_ext hb1 c2
  clear hv hb1 c0 c1 c2 HB HP HE HV
  go_wp2_with fail
  rcases hr with rfl | rfl | rfl
  · skip
    refine wp_region_held_drew (S := (fun w' => w'.cell? ⟨w.heap.size, 0, none⟩ = some (.int .i64 (n : Int)) ∧ w'.cell? ⟨w.heap.size, 1, none⟩ = some (.int .i64 (u : Int)) ∧ w'.cell? ⟨w.heap.size, 2, none⟩ = some (.int .i64 0))) (by kernel_rfl) ?_ (fun hHeld => ?_)
    · exact ⟨cell_ext (show Below w1.heap.size w1 w1.drew from ext_drewN w1 1) d0, cell_ext (show Below w1.heap.size w1 w1.drew from ext_drewN w1 1) d1, cell_ext (show Below w1.heap.size w1 w1.drew from ext_drewN w1 1) d2⟩
    refine wpAnyH_take (i := 0) (v := ?_) rfl (by kernel_rfl) (by kernel_rfl) (by kernel_rfl) (fun _ _ _ h => h) (Or.inl ⟨by rfl, ?_⟩) (by assumption) ?_
    rotate_left
    · intro w hSw; (try dsimp only at hSw); go_simp; try with_reducible rfl
    (try dsimp only [Act.put, List.setIfInBounds_toArray, List.set_cons_zero, List.set_cons_succ])
    refine wpAnyH_take (i := 1) (v := ?_) rfl (by kernel_rfl) (by kernel_rfl) (by kernel_rfl) (fun _ _ _ h => h) (Or.inl ⟨by rfl, ?_⟩) (by assumption) ?_
    rotate_left
    · intro w hSw; (try dsimp only at hSw); go_simp; try with_reducible rfl
    (try dsimp only [Act.put, List.setIfInBounds_toArray, List.set_cons_zero, List.set_cons_succ])
    refine wpAnyH_take (i := 5) (v := ?_) rfl (by kernel_rfl) (by kernel_rfl) (by kernel_rfl) (fun _ _ _ h => h) (Or.inl ⟨by rfl, ?_⟩) (by assumption) ?_
    rotate_left
    · intro w hSw; (try dsimp only at hSw); go_simp; try with_reducible rfl
    (try dsimp only [Act.put, List.setIfInBounds_toArray, List.set_cons_zero, List.set_cons_succ])
    refine wpAnyH_take (i := 6) (v := ?_) rfl (by kernel_rfl) (by kernel_rfl) (by kernel_rfl) (fun _ _ _ h => h) (Or.inl ⟨by rfl, ?_⟩) (by assumption) ?_
    rotate_left
    · intro w hSw; (try dsimp only at hSw); go_simp; try with_reducible rfl
    (try dsimp only [Act.put, List.setIfInBounds_toArray, List.set_cons_zero, List.set_cons_succ])
    refine wpAnyH_take (i := 11) (v := ?_) rfl (by kernel_rfl) (by kernel_rfl) (by kernel_rfl) (fun _ _ _ h => h) (Or.inl ⟨by rfl, ?_⟩) (by assumption) ?_
    rotate_left
    · intro w hSw; (try dsimp only at hSw); go_simp; try with_reducible rfl
    (try dsimp only [Act.put, List.setIfInBounds_toArray, List.set_cons_zero, List.set_cons_succ])
    refine wpAnyH_take (i := 12) (v := ?_) rfl (by kernel_rfl) (by kernel_rfl) (by kernel_rfl) (fun _ _ _ h => h) (Or.inl ⟨by rfl, ?_⟩) (by assumption) ?_
    rotate_left
    · intro w hSw; (try dsimp only at hSw); go_simp; try with_reducible rfl
    (try dsimp only [Act.put, List.setIfInBounds_toArray, List.set_cons_zero, List.set_cons_succ])
    refine wpAnyH_ready (rs := [2, 10]) (by kernel_rfl) (by simp) ?_
    refine AllReadyH.cons rfl (fun K hK => ?_) ?_
    · go_simp
      go_at_call 85
      refine (HI.out _ (HP1.out.ext (show Below w1.heap.size w1 w1.drew from ext_drewN w1 1))).mono ?_
      rintro e w2 ⟨rfl, hb2⟩
      have HC2 := Lib.hid (ext_trans (show Below w1.heap.size w1 w1.drew from ext_drewN w1 1) hb2)
      clear hb2
      go_wp2_with fail
      refine hK.out _ _ ?_ (fun hHeld => ?_)
      · exact ⟨cell_ext HC2.out d0, cell_ext HC2.out d1, cell_ext HC2.out d2⟩
      clear hK K
      (try dsimp only [Act.put, List.setIfInBounds_toArray, List.set_cons_zero, List.set_cons_succ])
      refine wpAnyH_take (i := 3) (v := ?_) rfl (by kernel_rfl) (by kernel_rfl) (by kernel_rfl) (fun _ _ _ h => h) (Or.inl ⟨by rfl, ?_⟩) (by assumption) ?_
      rotate_left
      · intro w hSw; (try dsimp only at hSw); go_simp; try with_reducible rfl
      (try dsimp only [Act.put, List.setIfInBounds_toArray, List.set_cons_zero, List.set_cons_succ])
      refine wpAnyH_ready (rs := [4, 10]) (by kernel_rfl) (by simp) ?_
      refine AllReadyH.cons rfl (fun K hK => ?_) ?_
      · go_simp
        go_at_call 79
        refine (units_any _).mono ?_
        rintro e w3 ⟨B, rfl, hU, hb3⟩
        have HC3 := Lib.hid (ext_trans HC2.out hb3)
        have r0 := hU u (by omega)
        unfold strV at r0
        clear hU hb3
        go_wp2_with fail
        refine hK.out _ _ ?_ (fun hHeld => ?_)
        · exact ⟨cell_ext HC3.out d0, cell_ext HC3.out d1, cell_ext HC3.out d2⟩
        clear hK K
        (try dsimp only [Act.put, List.setIfInBounds_toArray, List.set_cons_zero, List.set_cons_succ])
        refine wpAnyH_take (i := 7) (v := ?_) rfl (by kernel_rfl) (by kernel_rfl) (by kernel_rfl) (fun _ _ _ h => h) (Or.inl ⟨by rfl, ?_⟩) (by assumption) ?_
        rotate_left
        · intro w hSw; (try dsimp only at hSw); go_simp; try with_reducible rfl
        (try dsimp only [Act.put, List.setIfInBounds_toArray, List.set_cons_zero, List.set_cons_succ])
        refine wpAnyH_ready (rs := [8, 10]) (by kernel_rfl) (by simp) ?_
        refine AllReadyH.cons rfl (fun K hK => ?_) ?_
        · go_simp
          refine hK.out _ _ ?_ (fun hHeld => ?_)
          · exact ⟨cell_ext HC3.out d0, cell_ext HC3.out d1, cell_ext HC3.out d2⟩
          clear hK K
          (try dsimp only [Act.put, List.setIfInBounds_toArray, List.set_cons_zero, List.set_cons_succ])
          refine wpAnyH_take (i := 9) (v := ?_) rfl (by kernel_rfl) (by kernel_rfl) (by kernel_rfl) (fun _ _ _ h => h) (Or.inl ⟨by rfl, ?_⟩) (by assumption) ?_
          rotate_left
          · intro w hSw; (try dsimp only at hSw); go_simp; try with_reducible rfl
          (try dsimp only [Act.put, List.setIfInBounds_toArray, List.set_cons_zero, List.set_cons_succ])
          refine wpAnyH_ready (rs := [10]) (by kernel_rfl) (by simp) ?_
          refine AllReadyH.cons rfl (fun K hK => ?_) ?_
          · go_simp
            refine hK.out _ _ ?_ (fun hHeld => ?_)
            · exact ⟨cell_ext (ext_trans HC3.out (ext_alloc w3 _)) d0, cell_ext (ext_trans HC3.out (ext_alloc w3 _)) d1, cell_ext (ext_trans HC3.out (ext_alloc w3 _)) d2⟩
            clear hK K
            (try dsimp only [Act.put, List.setIfInBounds_toArray, List.set_cons_zero, List.set_cons_succ])
            have r1 := cell_ext (ext_alloc w3 (.cells #[.string ⟨#[]⟩, .string ⟨#[44, 32, 110, 101, 120, 116]⟩, .string ⟨#[44, 32, 98, 101, 102, 111, 114, 101]⟩] 9)) r0
            refine wpAnyH_take (i := 13) (v := ?_) rfl (by kernel_rfl) (by kernel_rfl) (by kernel_rfl) (fun _ _ _ h => h) (Or.inl ⟨by rfl, ?_⟩) (by assumption) ?_
            rotate_left
            · intro w hSw; (try dsimp only at hSw); go_simp; try with_reducible rfl
            (try dsimp only [Act.put, List.setIfInBounds_toArray, List.set_cons_zero, List.set_cons_succ])
            refine wpAnyH_ready (rs := [14]) (by kernel_rfl) (by simp) ?_
            refine AllReadyH.cons rfl (fun K hK => ?_) ?_
            · go_simp
              refine hK.out _ _ ?_ (fun hHeld => ?_)
              · exact ⟨cell_ext (ext_trans HC3.out (ext_alloc w3 _)) d0, cell_ext (ext_trans HC3.out (ext_alloc w3 _)) d1, cell_ext (ext_trans HC3.out (ext_alloc w3 _)) d2⟩
              clear hK K
              (try dsimp only [Act.put, List.setIfInBounds_toArray, List.set_cons_zero, List.set_cons_succ])
              refine wpAnyH_ready (rs := [15]) (by kernel_rfl) (by simp) ?_
              refine AllReadyH.cons rfl (fun K hK => ?_) ?_
              · go_simp
                refine hK.out _ _ ?_ (fun hHeld => ?_)
                · exact ⟨cell_ext (ext_trans HC3.out (ext_alloc w3 _)) d0, cell_ext (ext_trans HC3.out (ext_alloc w3 _)) d1, cell_ext (ext_trans HC3.out (ext_alloc w3 _)) d2⟩
                clear hK K
                (try dsimp only [Act.put, List.setIfInBounds_toArray, List.set_cons_zero, List.set_cons_succ])
                refine wpAnyH_ready (rs := [16]) (by kernel_rfl) (by simp) ?_
                refine AllReadyH.cons rfl (fun K hK => ?_) ?_
                · go_simp
                  refine hK.out _ _ ?_ (fun hHeld => ?_)
                  · exact ⟨cell_ext (ext_trans HC3.out (ext_alloc w3 _)) d0, cell_ext (ext_trans HC3.out (ext_alloc w3 _)) d1, cell_ext (ext_trans HC3.out (ext_alloc w3 _)) d2⟩
                  clear hK K
                  (try dsimp only [Act.put, List.setIfInBounds_toArray, List.set_cons_zero, List.set_cons_succ])
                  refine wpAnyH_done (by kernel_rfl) ?_ _
                  go_wp2_with fail
                  go_ret
                  exact ⟨congrArg (fun x => Ending.returned (.string x)) (tt_app l (wd u) 0 ⟨#[]⟩ rfl), ext_trans HB1.out (ext_trans HC3.out (ext_alloc w3 _))⟩
                exact AllReadyH.nil
              exact AllReadyH.nil
            exact AllReadyH.nil
          exact AllReadyH.nil
        refine AllReadyH.cons rfl (fun K hK => ?_) ?_
        · go_simp
          refine hK.out _ _ ?_ (fun hHeld => ?_)
          · exact ⟨cell_ext (ext_trans HC3.out (ext_alloc w3 _)) d0, cell_ext (ext_trans HC3.out (ext_alloc w3 _)) d1, cell_ext (ext_trans HC3.out (ext_alloc w3 _)) d2⟩
          clear hK K
          (try dsimp only [Act.put, List.setIfInBounds_toArray, List.set_cons_zero, List.set_cons_succ])
          have r1 := cell_ext (ext_alloc w3 (.cells #[.string ⟨#[]⟩, .string ⟨#[44, 32, 110, 101, 120, 116]⟩, .string ⟨#[44, 32, 98, 101, 102, 111, 114, 101]⟩] 9)) r0
          refine wpAnyH_take (i := 13) (v := ?_) rfl (by kernel_rfl) (by kernel_rfl) (by kernel_rfl) (fun _ _ _ h => h) (Or.inl ⟨by rfl, ?_⟩) (by assumption) ?_
          rotate_left
          · intro w hSw; (try dsimp only at hSw); go_simp; try with_reducible rfl
          (try dsimp only [Act.put, List.setIfInBounds_toArray, List.set_cons_zero, List.set_cons_succ])
          refine wpAnyH_ready (rs := [8, 14]) (by kernel_rfl) (by simp) ?_
          refine AllReadyH.cons rfl (fun K hK => ?_) ?_
          · go_simp
            refine hK.out _ _ ?_ (fun hHeld => ?_)
            · exact ⟨cell_ext (ext_trans HC3.out (ext_alloc w3 _)) d0, cell_ext (ext_trans HC3.out (ext_alloc w3 _)) d1, cell_ext (ext_trans HC3.out (ext_alloc w3 _)) d2⟩
            clear hK K
            (try dsimp only [Act.put, List.setIfInBounds_toArray, List.set_cons_zero, List.set_cons_succ])
            refine wpAnyH_take (i := 9) (v := ?_) rfl (by kernel_rfl) (by kernel_rfl) (by kernel_rfl) (fun _ _ _ h => h) (Or.inl ⟨by rfl, ?_⟩) (by assumption) ?_
            rotate_left
            · intro w hSw; (try dsimp only at hSw); go_simp; try with_reducible rfl
            (try dsimp only [Act.put, List.setIfInBounds_toArray, List.set_cons_zero, List.set_cons_succ])
            refine wpAnyH_ready (rs := [14]) (by kernel_rfl) (by simp) ?_
            refine AllReadyH.cons rfl (fun K hK => ?_) ?_
            · go_simp
              refine hK.out _ _ ?_ (fun hHeld => ?_)
              · exact ⟨cell_ext (ext_trans HC3.out (ext_alloc w3 _)) d0, cell_ext (ext_trans HC3.out (ext_alloc w3 _)) d1, cell_ext (ext_trans HC3.out (ext_alloc w3 _)) d2⟩
              clear hK K
              (try dsimp only [Act.put, List.setIfInBounds_toArray, List.set_cons_zero, List.set_cons_succ])
              refine wpAnyH_ready (rs := [15]) (by kernel_rfl) (by simp) ?_
              refine AllReadyH.cons rfl (fun K hK => ?_) ?_
              · go_simp
                refine hK.out _ _ ?_ (fun hHeld => ?_)
                · exact ⟨cell_ext (ext_trans HC3.out (ext_alloc w3 _)) d0, cell_ext (ext_trans HC3.out (ext_alloc w3 _)) d1, cell_ext (ext_trans HC3.out (ext_alloc w3 _)) d2⟩
                clear hK K
                (try dsimp only [Act.put, List.setIfInBounds_toArray, List.set_cons_zero, List.set_cons_succ])
                refine wpAnyH_ready (rs := [16]) (by kernel_rfl) (by simp) ?_
                refine AllReadyH.cons rfl (fun K hK => ?_) ?_
                · go_simp
                  refine hK.out _ _ ?_ (fun hHeld => ?_)
                  · exact ⟨cell_ext (ext_trans HC3.out (ext_alloc w3 _)) d0, cell_ext (ext_trans HC3.out (ext_alloc w3 _)) d1, cell_ext (ext_trans HC3.out (ext_alloc w3 _)) d2⟩
                  clear hK K
                  (try dsimp only [Act.put, List.setIfInBounds_toArray, List.set_cons_zero, List.set_cons_succ])
                  refine wpAnyH_done (by kernel_rfl) ?_ _
                  go_wp2_with fail
                  go_ret
                  exact ⟨congrArg (fun x => Ending.returned (.string x)) (tt_app l (wd u) 0 ⟨#[]⟩ rfl), ext_trans HB1.out (ext_trans HC3.out (ext_alloc w3 _))⟩
                exact AllReadyH.nil
              exact AllReadyH.nil
            exact AllReadyH.nil
          refine AllReadyH.cons rfl (fun K hK => ?_) ?_
          · go_simp
            refine hK.out _ _ ?_ (fun hHeld => ?_)
            · exact ⟨cell_ext (ext_trans HC3.out (ext_alloc w3 _)) d0, cell_ext (ext_trans HC3.out (ext_alloc w3 _)) d1, cell_ext (ext_trans HC3.out (ext_alloc w3 _)) d2⟩
            clear hK K
            (try dsimp only [Act.put, List.setIfInBounds_toArray, List.set_cons_zero, List.set_cons_succ])
            refine wpAnyH_ready (rs := [8]) (by kernel_rfl) (by simp) ?_
            refine AllReadyH.cons rfl (fun K hK => ?_) ?_
            · go_simp
              refine hK.out _ _ ?_ (fun hHeld => ?_)
              · exact ⟨cell_ext (ext_trans HC3.out (ext_alloc w3 _)) d0, cell_ext (ext_trans HC3.out (ext_alloc w3 _)) d1, cell_ext (ext_trans HC3.out (ext_alloc w3 _)) d2⟩
              clear hK K
              (try dsimp only [Act.put, List.setIfInBounds_toArray, List.set_cons_zero, List.set_cons_succ])
              refine wpAnyH_take (i := 9) (v := ?_) rfl (by kernel_rfl) (by kernel_rfl) (by kernel_rfl) (fun _ _ _ h => h) (Or.inl ⟨by rfl, ?_⟩) (by assumption) ?_
              rotate_left
              · intro w hSw; (try dsimp only at hSw); go_simp; try with_reducible rfl
              (try dsimp only [Act.put, List.setIfInBounds_toArray, List.set_cons_zero, List.set_cons_succ])
              refine wpAnyH_ready (rs := [15]) (by kernel_rfl) (by simp) ?_
              refine AllReadyH.cons rfl (fun K hK => ?_) ?_
              · go_simp
                refine hK.out _ _ ?_ (fun hHeld => ?_)
                · exact ⟨cell_ext (ext_trans HC3.out (ext_alloc w3 _)) d0, cell_ext (ext_trans HC3.out (ext_alloc w3 _)) d1, cell_ext (ext_trans HC3.out (ext_alloc w3 _)) d2⟩
                clear hK K
                (try dsimp only [Act.put, List.setIfInBounds_toArray, List.set_cons_zero, List.set_cons_succ])
                refine wpAnyH_ready (rs := [16]) (by kernel_rfl) (by simp) ?_
                refine AllReadyH.cons rfl (fun K hK => ?_) ?_
                · go_simp
                  refine hK.out _ _ ?_ (fun hHeld => ?_)
                  · exact ⟨cell_ext (ext_trans HC3.out (ext_alloc w3 _)) d0, cell_ext (ext_trans HC3.out (ext_alloc w3 _)) d1, cell_ext (ext_trans HC3.out (ext_alloc w3 _)) d2⟩
                  clear hK K
                  (try dsimp only [Act.put, List.setIfInBounds_toArray, List.set_cons_zero, List.set_cons_succ])
                  refine wpAnyH_done (by kernel_rfl) ?_ _
                  go_wp2_with fail
                  go_ret
                  exact ⟨congrArg (fun x => Ending.returned (.string x)) (tt_app l (wd u) 0 ⟨#[]⟩ rfl), ext_trans HB1.out (ext_trans HC3.out (ext_alloc w3 _))⟩
                exact AllReadyH.nil
              exact AllReadyH.nil
            exact AllReadyH.nil
          exact AllReadyH.nil
        exact AllReadyH.nil
      refine AllReadyH.cons rfl (fun K hK => ?_) ?_
      · go_simp
        refine hK.out _ _ ?_ (fun hHeld => ?_)
        · exact ⟨cell_ext (ext_trans HC2.out (ext_alloc w2 _)) d0, cell_ext (ext_trans HC2.out (ext_alloc w2 _)) d1, cell_ext (ext_trans HC2.out (ext_alloc w2 _)) d2⟩
        clear hK K
        (try dsimp only [Act.put, List.setIfInBounds_toArray, List.set_cons_zero, List.set_cons_succ])
        refine wpAnyH_take (i := 13) (v := ?_) rfl (by kernel_rfl) (by kernel_rfl) (by kernel_rfl) (fun _ _ _ h => h) (Or.inl ⟨by rfl, ?_⟩) (by assumption) ?_
        rotate_left
        · intro w hSw; (try dsimp only at hSw); go_simp; try with_reducible rfl
        (try dsimp only [Act.put, List.setIfInBounds_toArray, List.set_cons_zero, List.set_cons_succ])
        refine wpAnyH_ready (rs := [4, 14]) (by kernel_rfl) (by simp) ?_
        refine AllReadyH.cons rfl (fun K hK => ?_) ?_
        · go_simp
          go_at_call 79
          refine (units_any _).mono ?_
          rintro e w3 ⟨B, rfl, hU, hb3⟩
          have HC3 := Lib.hid (ext_trans (ext_trans HC2.out (ext_alloc w2 _)) hb3)
          have r0 := hU u (by omega)
          unfold strV at r0
          have q3 := cell_ext hb3 (show (w2.alloc (.cells #[.string ⟨#[]⟩, .string ⟨#[44, 32, 110, 101, 120, 116]⟩, .string ⟨#[44, 32, 98, 101, 102, 111, 114, 101]⟩] 9)).cell? ⟨w2.heap.size, 0, none⟩ = some (.string ⟨#[]⟩) from World.cell?_alloc_at _ _ _ _ rfl)
          clear hU hb3
          go_wp2_with fail
          refine hK.out _ _ ?_ (fun hHeld => ?_)
          · exact ⟨cell_ext HC3.out d0, cell_ext HC3.out d1, cell_ext HC3.out d2⟩
          clear hK K
          (try dsimp only [Act.put, List.setIfInBounds_toArray, List.set_cons_zero, List.set_cons_succ])
          refine wpAnyH_take (i := 7) (v := ?_) rfl (by kernel_rfl) (by kernel_rfl) (by kernel_rfl) (fun _ _ _ h => h) (Or.inl ⟨by rfl, ?_⟩) (by assumption) ?_
          rotate_left
          · intro w hSw; (try dsimp only at hSw); go_simp; try with_reducible rfl
          (try dsimp only [Act.put, List.setIfInBounds_toArray, List.set_cons_zero, List.set_cons_succ])
          refine wpAnyH_ready (rs := [8, 14]) (by kernel_rfl) (by simp) ?_
          refine AllReadyH.cons rfl (fun K hK => ?_) ?_
          · go_simp
            refine hK.out _ _ ?_ (fun hHeld => ?_)
            · exact ⟨cell_ext HC3.out d0, cell_ext HC3.out d1, cell_ext HC3.out d2⟩
            clear hK K
            (try dsimp only [Act.put, List.setIfInBounds_toArray, List.set_cons_zero, List.set_cons_succ])
            refine wpAnyH_take (i := 9) (v := ?_) rfl (by kernel_rfl) (by kernel_rfl) (by kernel_rfl) (fun _ _ _ h => h) (Or.inl ⟨by rfl, ?_⟩) (by assumption) ?_
            rotate_left
            · intro w hSw; (try dsimp only at hSw); go_simp; try with_reducible rfl
            (try dsimp only [Act.put, List.setIfInBounds_toArray, List.set_cons_zero, List.set_cons_succ])
            refine wpAnyH_ready (rs := [14]) (by kernel_rfl) (by simp) ?_
            refine AllReadyH.cons rfl (fun K hK => ?_) ?_
            · go_simp
              refine hK.out _ _ ?_ (fun hHeld => ?_)
              · exact ⟨cell_ext HC3.out d0, cell_ext HC3.out d1, cell_ext HC3.out d2⟩
              clear hK K
              (try dsimp only [Act.put, List.setIfInBounds_toArray, List.set_cons_zero, List.set_cons_succ])
              refine wpAnyH_ready (rs := [15]) (by kernel_rfl) (by simp) ?_
              refine AllReadyH.cons rfl (fun K hK => ?_) ?_
              · go_simp
                refine hK.out _ _ ?_ (fun hHeld => ?_)
                · exact ⟨cell_ext HC3.out d0, cell_ext HC3.out d1, cell_ext HC3.out d2⟩
                clear hK K
                (try dsimp only [Act.put, List.setIfInBounds_toArray, List.set_cons_zero, List.set_cons_succ])
                refine wpAnyH_ready (rs := [16]) (by kernel_rfl) (by simp) ?_
                refine AllReadyH.cons rfl (fun K hK => ?_) ?_
                · go_simp
                  refine hK.out _ _ ?_ (fun hHeld => ?_)
                  · exact ⟨cell_ext HC3.out d0, cell_ext HC3.out d1, cell_ext HC3.out d2⟩
                  clear hK K
                  (try dsimp only [Act.put, List.setIfInBounds_toArray, List.set_cons_zero, List.set_cons_succ])
                  refine wpAnyH_done (by kernel_rfl) ?_ _
                  go_wp2_with fail
                  go_ret
                  exact ⟨congrArg (fun x => Ending.returned (.string x)) (tt_app l (wd u) 0 ⟨#[]⟩ rfl), ext_trans HB1.out HC3.out⟩
                exact AllReadyH.nil
              exact AllReadyH.nil
            exact AllReadyH.nil
          refine AllReadyH.cons rfl (fun K hK => ?_) ?_
          · go_simp
            refine hK.out _ _ ?_ (fun hHeld => ?_)
            · exact ⟨cell_ext HC3.out d0, cell_ext HC3.out d1, cell_ext HC3.out d2⟩
            clear hK K
            (try dsimp only [Act.put, List.setIfInBounds_toArray, List.set_cons_zero, List.set_cons_succ])
            refine wpAnyH_ready (rs := [8]) (by kernel_rfl) (by simp) ?_
            refine AllReadyH.cons rfl (fun K hK => ?_) ?_
            · go_simp
              refine hK.out _ _ ?_ (fun hHeld => ?_)
              · exact ⟨cell_ext HC3.out d0, cell_ext HC3.out d1, cell_ext HC3.out d2⟩
              clear hK K
              (try dsimp only [Act.put, List.setIfInBounds_toArray, List.set_cons_zero, List.set_cons_succ])
              refine wpAnyH_take (i := 9) (v := ?_) rfl (by kernel_rfl) (by kernel_rfl) (by kernel_rfl) (fun _ _ _ h => h) (Or.inl ⟨by rfl, ?_⟩) (by assumption) ?_
              rotate_left
              · intro w hSw; (try dsimp only at hSw); go_simp; try with_reducible rfl
              (try dsimp only [Act.put, List.setIfInBounds_toArray, List.set_cons_zero, List.set_cons_succ])
              refine wpAnyH_ready (rs := [15]) (by kernel_rfl) (by simp) ?_
              refine AllReadyH.cons rfl (fun K hK => ?_) ?_
              · go_simp
                refine hK.out _ _ ?_ (fun hHeld => ?_)
                · exact ⟨cell_ext HC3.out d0, cell_ext HC3.out d1, cell_ext HC3.out d2⟩
                clear hK K
                (try dsimp only [Act.put, List.setIfInBounds_toArray, List.set_cons_zero, List.set_cons_succ])
                refine wpAnyH_ready (rs := [16]) (by kernel_rfl) (by simp) ?_
                refine AllReadyH.cons rfl (fun K hK => ?_) ?_
                · go_simp
                  refine hK.out _ _ ?_ (fun hHeld => ?_)
                  · exact ⟨cell_ext HC3.out d0, cell_ext HC3.out d1, cell_ext HC3.out d2⟩
                  clear hK K
                  (try dsimp only [Act.put, List.setIfInBounds_toArray, List.set_cons_zero, List.set_cons_succ])
                  refine wpAnyH_done (by kernel_rfl) ?_ _
                  go_wp2_with fail
                  go_ret
                  exact ⟨congrArg (fun x => Ending.returned (.string x)) (tt_app l (wd u) 0 ⟨#[]⟩ rfl), ext_trans HB1.out HC3.out⟩
                exact AllReadyH.nil
              exact AllReadyH.nil
            exact AllReadyH.nil
          exact AllReadyH.nil
        refine AllReadyH.cons rfl (fun K hK => ?_) ?_
        · go_simp
          refine hK.out _ _ ?_ (fun hHeld => ?_)
          · exact ⟨cell_ext (ext_trans HC2.out (ext_alloc w2 _)) d0, cell_ext (ext_trans HC2.out (ext_alloc w2 _)) d1, cell_ext (ext_trans HC2.out (ext_alloc w2 _)) d2⟩
          clear hK K
          (try dsimp only [Act.put, List.setIfInBounds_toArray, List.set_cons_zero, List.set_cons_succ])
          refine wpAnyH_ready (rs := [4]) (by kernel_rfl) (by simp) ?_
          refine AllReadyH.cons rfl (fun K hK => ?_) ?_
          · go_simp
            go_at_call 79
            refine (units_any _).mono ?_
            rintro e w3 ⟨B, rfl, hU, hb3⟩
            have HC3 := Lib.hid (ext_trans (ext_trans HC2.out (ext_alloc w2 _)) hb3)
            have r0 := hU u (by omega)
            unfold strV at r0
            have q3 := cell_ext hb3 (show (w2.alloc (.cells #[.string ⟨#[]⟩, .string ⟨#[44, 32, 110, 101, 120, 116]⟩, .string ⟨#[44, 32, 98, 101, 102, 111, 114, 101]⟩] 9)).cell? ⟨w2.heap.size, 0, none⟩ = some (.string ⟨#[]⟩) from World.cell?_alloc_at _ _ _ _ rfl)
            clear hU hb3
            go_wp2_with fail
            refine hK.out _ _ ?_ (fun hHeld => ?_)
            · exact ⟨cell_ext HC3.out d0, cell_ext HC3.out d1, cell_ext HC3.out d2⟩
            clear hK K
            (try dsimp only [Act.put, List.setIfInBounds_toArray, List.set_cons_zero, List.set_cons_succ])
            refine wpAnyH_take (i := 7) (v := ?_) rfl (by kernel_rfl) (by kernel_rfl) (by kernel_rfl) (fun _ _ _ h => h) (Or.inl ⟨by rfl, ?_⟩) (by assumption) ?_
            rotate_left
            · intro w hSw; (try dsimp only at hSw); go_simp; try with_reducible rfl
            (try dsimp only [Act.put, List.setIfInBounds_toArray, List.set_cons_zero, List.set_cons_succ])
            refine wpAnyH_ready (rs := [8]) (by kernel_rfl) (by simp) ?_
            refine AllReadyH.cons rfl (fun K hK => ?_) ?_
            · go_simp
              refine hK.out _ _ ?_ (fun hHeld => ?_)
              · exact ⟨cell_ext HC3.out d0, cell_ext HC3.out d1, cell_ext HC3.out d2⟩
              clear hK K
              (try dsimp only [Act.put, List.setIfInBounds_toArray, List.set_cons_zero, List.set_cons_succ])
              refine wpAnyH_take (i := 9) (v := ?_) rfl (by kernel_rfl) (by kernel_rfl) (by kernel_rfl) (fun _ _ _ h => h) (Or.inl ⟨by rfl, ?_⟩) (by assumption) ?_
              rotate_left
              · intro w hSw; (try dsimp only at hSw); go_simp; try with_reducible rfl
              (try dsimp only [Act.put, List.setIfInBounds_toArray, List.set_cons_zero, List.set_cons_succ])
              refine wpAnyH_ready (rs := [15]) (by kernel_rfl) (by simp) ?_
              refine AllReadyH.cons rfl (fun K hK => ?_) ?_
              · go_simp
                refine hK.out _ _ ?_ (fun hHeld => ?_)
                · exact ⟨cell_ext HC3.out d0, cell_ext HC3.out d1, cell_ext HC3.out d2⟩
                clear hK K
                (try dsimp only [Act.put, List.setIfInBounds_toArray, List.set_cons_zero, List.set_cons_succ])
                refine wpAnyH_ready (rs := [16]) (by kernel_rfl) (by simp) ?_
                refine AllReadyH.cons rfl (fun K hK => ?_) ?_
                · go_simp
                  refine hK.out _ _ ?_ (fun hHeld => ?_)
                  · exact ⟨cell_ext HC3.out d0, cell_ext HC3.out d1, cell_ext HC3.out d2⟩
                  clear hK K
                  (try dsimp only [Act.put, List.setIfInBounds_toArray, List.set_cons_zero, List.set_cons_succ])
                  refine wpAnyH_done (by kernel_rfl) ?_ _
                  go_wp2_with fail
                  go_ret
                  exact ⟨congrArg (fun x => Ending.returned (.string x)) (tt_app l (wd u) 0 ⟨#[]⟩ rfl), ext_trans HB1.out HC3.out⟩
                exact AllReadyH.nil
              exact AllReadyH.nil
            exact AllReadyH.nil
          exact AllReadyH.nil
        exact AllReadyH.nil
      exact AllReadyH.nil
    refine AllReadyH.cons rfl (fun K hK => ?_) ?_
    · go_simp
      refine hK.out _ _ ?_ (fun hHeld => ?_)
      · exact ⟨cell_ext (ext_trans (show Below w1.heap.size w1 w1.drew from ext_drewN w1 1) (ext_alloc w1.drew _)) d0, cell_ext (ext_trans (show Below w1.heap.size w1 w1.drew from ext_drewN w1 1) (ext_alloc w1.drew _)) d1, cell_ext (ext_trans (show Below w1.heap.size w1 w1.drew from ext_drewN w1 1) (ext_alloc w1.drew _)) d2⟩
      clear hK K
      (try dsimp only [Act.put, List.setIfInBounds_toArray, List.set_cons_zero, List.set_cons_succ])
      refine wpAnyH_take (i := 13) (v := ?_) rfl (by kernel_rfl) (by kernel_rfl) (by kernel_rfl) (fun _ _ _ h => h) (Or.inl ⟨by rfl, ?_⟩) (by assumption) ?_
      rotate_left
      · intro w hSw; (try dsimp only at hSw); go_simp; try with_reducible rfl
      (try dsimp only [Act.put, List.setIfInBounds_toArray, List.set_cons_zero, List.set_cons_succ])
      refine wpAnyH_ready (rs := [2, 14]) (by kernel_rfl) (by simp) ?_
      refine AllReadyH.cons rfl (fun K hK => ?_) ?_
      · go_simp
        go_at_call 85
        refine (HI.out _ (HP1.out.ext (ext_trans (show Below w1.heap.size w1 w1.drew from ext_drewN w1 1) (ext_alloc w1.drew _)))).mono ?_
        rintro e w2 ⟨rfl, hb2⟩
        have HC2 := Lib.hid (ext_trans (ext_trans (show Below w1.heap.size w1 w1.drew from ext_drewN w1 1) (ext_alloc w1.drew _)) hb2)
        have q2 := cell_ext hb2 (show (w1.drew.alloc (.cells #[.string ⟨#[]⟩, .string ⟨#[44, 32, 110, 101, 120, 116]⟩, .string ⟨#[44, 32, 98, 101, 102, 111, 114, 101]⟩] 9)).cell? ⟨w1.heap.size, 0, none⟩ = some (.string ⟨#[]⟩) from World.cell?_alloc_at _ _ _ _ rfl)
        clear hb2
        go_wp2_with fail
        refine hK.out _ _ ?_ (fun hHeld => ?_)
        · exact ⟨cell_ext HC2.out d0, cell_ext HC2.out d1, cell_ext HC2.out d2⟩
        clear hK K
        (try dsimp only [Act.put, List.setIfInBounds_toArray, List.set_cons_zero, List.set_cons_succ])
        refine wpAnyH_take (i := 3) (v := ?_) rfl (by kernel_rfl) (by kernel_rfl) (by kernel_rfl) (fun _ _ _ h => h) (Or.inl ⟨by rfl, ?_⟩) (by assumption) ?_
        rotate_left
        · intro w hSw; (try dsimp only at hSw); go_simp; try with_reducible rfl
        (try dsimp only [Act.put, List.setIfInBounds_toArray, List.set_cons_zero, List.set_cons_succ])
        refine wpAnyH_ready (rs := [4, 14]) (by kernel_rfl) (by simp) ?_
        refine AllReadyH.cons rfl (fun K hK => ?_) ?_
        · go_simp
          go_at_call 79
          refine (units_any _).mono ?_
          rintro e w3 ⟨B, rfl, hU, hb3⟩
          have HC3 := Lib.hid (ext_trans HC2.out hb3)
          have r0 := hU u (by omega)
          unfold strV at r0
          have q3 := cell_ext hb3 q2
          clear hU hb3
          go_wp2_with fail
          refine hK.out _ _ ?_ (fun hHeld => ?_)
          · exact ⟨cell_ext HC3.out d0, cell_ext HC3.out d1, cell_ext HC3.out d2⟩
          clear hK K
          (try dsimp only [Act.put, List.setIfInBounds_toArray, List.set_cons_zero, List.set_cons_succ])
          refine wpAnyH_take (i := 7) (v := ?_) rfl (by kernel_rfl) (by kernel_rfl) (by kernel_rfl) (fun _ _ _ h => h) (Or.inl ⟨by rfl, ?_⟩) (by assumption) ?_
          rotate_left
          · intro w hSw; (try dsimp only at hSw); go_simp; try with_reducible rfl
          (try dsimp only [Act.put, List.setIfInBounds_toArray, List.set_cons_zero, List.set_cons_succ])
          refine wpAnyH_ready (rs := [8, 14]) (by kernel_rfl) (by simp) ?_
          refine AllReadyH.cons rfl (fun K hK => ?_) ?_
          · go_simp
            refine hK.out _ _ ?_ (fun hHeld => ?_)
            · exact ⟨cell_ext HC3.out d0, cell_ext HC3.out d1, cell_ext HC3.out d2⟩
            clear hK K
            (try dsimp only [Act.put, List.setIfInBounds_toArray, List.set_cons_zero, List.set_cons_succ])
            refine wpAnyH_take (i := 9) (v := ?_) rfl (by kernel_rfl) (by kernel_rfl) (by kernel_rfl) (fun _ _ _ h => h) (Or.inl ⟨by rfl, ?_⟩) (by assumption) ?_
            rotate_left
            · intro w hSw; (try dsimp only at hSw); go_simp; try with_reducible rfl
            (try dsimp only [Act.put, List.setIfInBounds_toArray, List.set_cons_zero, List.set_cons_succ])
            refine wpAnyH_ready (rs := [14]) (by kernel_rfl) (by simp) ?_
            refine AllReadyH.cons rfl (fun K hK => ?_) ?_
            · go_simp
              refine hK.out _ _ ?_ (fun hHeld => ?_)
              · exact ⟨cell_ext HC3.out d0, cell_ext HC3.out d1, cell_ext HC3.out d2⟩
              clear hK K
              (try dsimp only [Act.put, List.setIfInBounds_toArray, List.set_cons_zero, List.set_cons_succ])
              refine wpAnyH_ready (rs := [15]) (by kernel_rfl) (by simp) ?_
              refine AllReadyH.cons rfl (fun K hK => ?_) ?_
              · go_simp
                refine hK.out _ _ ?_ (fun hHeld => ?_)
                · exact ⟨cell_ext HC3.out d0, cell_ext HC3.out d1, cell_ext HC3.out d2⟩
                clear hK K
                (try dsimp only [Act.put, List.setIfInBounds_toArray, List.set_cons_zero, List.set_cons_succ])
                refine wpAnyH_ready (rs := [16]) (by kernel_rfl) (by simp) ?_
                refine AllReadyH.cons rfl (fun K hK => ?_) ?_
                · go_simp
                  refine hK.out _ _ ?_ (fun hHeld => ?_)
                  · exact ⟨cell_ext HC3.out d0, cell_ext HC3.out d1, cell_ext HC3.out d2⟩
                  clear hK K
                  (try dsimp only [Act.put, List.setIfInBounds_toArray, List.set_cons_zero, List.set_cons_succ])
                  refine wpAnyH_done (by kernel_rfl) ?_ _
                  go_wp2_with fail
                  go_ret
                  exact ⟨congrArg (fun x => Ending.returned (.string x)) (tt_app l (wd u) 0 ⟨#[]⟩ rfl), ext_trans HB1.out HC3.out⟩
                exact AllReadyH.nil
              exact AllReadyH.nil
            exact AllReadyH.nil
          refine AllReadyH.cons rfl (fun K hK => ?_) ?_
          · go_simp
            refine hK.out _ _ ?_ (fun hHeld => ?_)
            · exact ⟨cell_ext HC3.out d0, cell_ext HC3.out d1, cell_ext HC3.out d2⟩
            clear hK K
            (try dsimp only [Act.put, List.setIfInBounds_toArray, List.set_cons_zero, List.set_cons_succ])
            refine wpAnyH_ready (rs := [8]) (by kernel_rfl) (by simp) ?_
            refine AllReadyH.cons rfl (fun K hK => ?_) ?_
            · go_simp
              refine hK.out _ _ ?_ (fun hHeld => ?_)
              · exact ⟨cell_ext HC3.out d0, cell_ext HC3.out d1, cell_ext HC3.out d2⟩
              clear hK K
              (try dsimp only [Act.put, List.setIfInBounds_toArray, List.set_cons_zero, List.set_cons_succ])
              refine wpAnyH_take (i := 9) (v := ?_) rfl (by kernel_rfl) (by kernel_rfl) (by kernel_rfl) (fun _ _ _ h => h) (Or.inl ⟨by rfl, ?_⟩) (by assumption) ?_
              rotate_left
              · intro w hSw; (try dsimp only at hSw); go_simp; try with_reducible rfl
              (try dsimp only [Act.put, List.setIfInBounds_toArray, List.set_cons_zero, List.set_cons_succ])
              refine wpAnyH_ready (rs := [15]) (by kernel_rfl) (by simp) ?_
              refine AllReadyH.cons rfl (fun K hK => ?_) ?_
              · go_simp
                refine hK.out _ _ ?_ (fun hHeld => ?_)
                · exact ⟨cell_ext HC3.out d0, cell_ext HC3.out d1, cell_ext HC3.out d2⟩
                clear hK K
                (try dsimp only [Act.put, List.setIfInBounds_toArray, List.set_cons_zero, List.set_cons_succ])
                refine wpAnyH_ready (rs := [16]) (by kernel_rfl) (by simp) ?_
                refine AllReadyH.cons rfl (fun K hK => ?_) ?_
                · go_simp
                  refine hK.out _ _ ?_ (fun hHeld => ?_)
                  · exact ⟨cell_ext HC3.out d0, cell_ext HC3.out d1, cell_ext HC3.out d2⟩
                  clear hK K
                  (try dsimp only [Act.put, List.setIfInBounds_toArray, List.set_cons_zero, List.set_cons_succ])
                  refine wpAnyH_done (by kernel_rfl) ?_ _
                  go_wp2_with fail
                  go_ret
                  exact ⟨congrArg (fun x => Ending.returned (.string x)) (tt_app l (wd u) 0 ⟨#[]⟩ rfl), ext_trans HB1.out HC3.out⟩
                exact AllReadyH.nil
              exact AllReadyH.nil
            exact AllReadyH.nil
          exact AllReadyH.nil
        refine AllReadyH.cons rfl (fun K hK => ?_) ?_
        · go_simp
          refine hK.out _ _ ?_ (fun hHeld => ?_)
          · exact ⟨cell_ext HC2.out d0, cell_ext HC2.out d1, cell_ext HC2.out d2⟩
          clear hK K
          (try dsimp only [Act.put, List.setIfInBounds_toArray, List.set_cons_zero, List.set_cons_succ])
          refine wpAnyH_ready (rs := [4]) (by kernel_rfl) (by simp) ?_
          refine AllReadyH.cons rfl (fun K hK => ?_) ?_
          · go_simp
            go_at_call 79
            refine (units_any _).mono ?_
            rintro e w3 ⟨B, rfl, hU, hb3⟩
            have HC3 := Lib.hid (ext_trans HC2.out hb3)
            have r0 := hU u (by omega)
            unfold strV at r0
            have q3 := cell_ext hb3 q2
            clear hU hb3
            go_wp2_with fail
            refine hK.out _ _ ?_ (fun hHeld => ?_)
            · exact ⟨cell_ext HC3.out d0, cell_ext HC3.out d1, cell_ext HC3.out d2⟩
            clear hK K
            (try dsimp only [Act.put, List.setIfInBounds_toArray, List.set_cons_zero, List.set_cons_succ])
            refine wpAnyH_take (i := 7) (v := ?_) rfl (by kernel_rfl) (by kernel_rfl) (by kernel_rfl) (fun _ _ _ h => h) (Or.inl ⟨by rfl, ?_⟩) (by assumption) ?_
            rotate_left
            · intro w hSw; (try dsimp only at hSw); go_simp; try with_reducible rfl
            (try dsimp only [Act.put, List.setIfInBounds_toArray, List.set_cons_zero, List.set_cons_succ])
            refine wpAnyH_ready (rs := [8]) (by kernel_rfl) (by simp) ?_
            refine AllReadyH.cons rfl (fun K hK => ?_) ?_
            · go_simp
              refine hK.out _ _ ?_ (fun hHeld => ?_)
              · exact ⟨cell_ext HC3.out d0, cell_ext HC3.out d1, cell_ext HC3.out d2⟩
              clear hK K
              (try dsimp only [Act.put, List.setIfInBounds_toArray, List.set_cons_zero, List.set_cons_succ])
              refine wpAnyH_take (i := 9) (v := ?_) rfl (by kernel_rfl) (by kernel_rfl) (by kernel_rfl) (fun _ _ _ h => h) (Or.inl ⟨by rfl, ?_⟩) (by assumption) ?_
              rotate_left
              · intro w hSw; (try dsimp only at hSw); go_simp; try with_reducible rfl
              (try dsimp only [Act.put, List.setIfInBounds_toArray, List.set_cons_zero, List.set_cons_succ])
              refine wpAnyH_ready (rs := [15]) (by kernel_rfl) (by simp) ?_
              refine AllReadyH.cons rfl (fun K hK => ?_) ?_
              · go_simp
                refine hK.out _ _ ?_ (fun hHeld => ?_)
                · exact ⟨cell_ext HC3.out d0, cell_ext HC3.out d1, cell_ext HC3.out d2⟩
                clear hK K
                (try dsimp only [Act.put, List.setIfInBounds_toArray, List.set_cons_zero, List.set_cons_succ])
                refine wpAnyH_ready (rs := [16]) (by kernel_rfl) (by simp) ?_
                refine AllReadyH.cons rfl (fun K hK => ?_) ?_
                · go_simp
                  refine hK.out _ _ ?_ (fun hHeld => ?_)
                  · exact ⟨cell_ext HC3.out d0, cell_ext HC3.out d1, cell_ext HC3.out d2⟩
                  clear hK K
                  (try dsimp only [Act.put, List.setIfInBounds_toArray, List.set_cons_zero, List.set_cons_succ])
                  refine wpAnyH_done (by kernel_rfl) ?_ _
                  go_wp2_with fail
                  go_ret
                  exact ⟨congrArg (fun x => Ending.returned (.string x)) (tt_app l (wd u) 0 ⟨#[]⟩ rfl), ext_trans HB1.out HC3.out⟩
                exact AllReadyH.nil
              exact AllReadyH.nil
            exact AllReadyH.nil
          exact AllReadyH.nil
        exact AllReadyH.nil
      refine AllReadyH.cons rfl (fun K hK => ?_) ?_
      · go_simp
        refine hK.out _ _ ?_ (fun hHeld => ?_)
        · exact ⟨cell_ext (ext_trans (show Below w1.heap.size w1 w1.drew from ext_drewN w1 1) (ext_alloc w1.drew _)) d0, cell_ext (ext_trans (show Below w1.heap.size w1 w1.drew from ext_drewN w1 1) (ext_alloc w1.drew _)) d1, cell_ext (ext_trans (show Below w1.heap.size w1 w1.drew from ext_drewN w1 1) (ext_alloc w1.drew _)) d2⟩
        clear hK K
        (try dsimp only [Act.put, List.setIfInBounds_toArray, List.set_cons_zero, List.set_cons_succ])
        refine wpAnyH_ready (rs := [2]) (by kernel_rfl) (by simp) ?_
        refine AllReadyH.cons rfl (fun K hK => ?_) ?_
        · go_simp
          go_at_call 85
          refine (HI.out _ (HP1.out.ext (ext_trans (show Below w1.heap.size w1 w1.drew from ext_drewN w1 1) (ext_alloc w1.drew _)))).mono ?_
          rintro e w2 ⟨rfl, hb2⟩
          have HC2 := Lib.hid (ext_trans (ext_trans (show Below w1.heap.size w1 w1.drew from ext_drewN w1 1) (ext_alloc w1.drew _)) hb2)
          have q2 := cell_ext hb2 (show (w1.drew.alloc (.cells #[.string ⟨#[]⟩, .string ⟨#[44, 32, 110, 101, 120, 116]⟩, .string ⟨#[44, 32, 98, 101, 102, 111, 114, 101]⟩] 9)).cell? ⟨w1.heap.size, 0, none⟩ = some (.string ⟨#[]⟩) from World.cell?_alloc_at _ _ _ _ rfl)
          clear hb2
          go_wp2_with fail
          refine hK.out _ _ ?_ (fun hHeld => ?_)
          · exact ⟨cell_ext HC2.out d0, cell_ext HC2.out d1, cell_ext HC2.out d2⟩
          clear hK K
          (try dsimp only [Act.put, List.setIfInBounds_toArray, List.set_cons_zero, List.set_cons_succ])
          refine wpAnyH_take (i := 3) (v := ?_) rfl (by kernel_rfl) (by kernel_rfl) (by kernel_rfl) (fun _ _ _ h => h) (Or.inl ⟨by rfl, ?_⟩) (by assumption) ?_
          rotate_left
          · intro w hSw; (try dsimp only at hSw); go_simp; try with_reducible rfl
          (try dsimp only [Act.put, List.setIfInBounds_toArray, List.set_cons_zero, List.set_cons_succ])
          refine wpAnyH_ready (rs := [4]) (by kernel_rfl) (by simp) ?_
          refine AllReadyH.cons rfl (fun K hK => ?_) ?_
          · go_simp
            go_at_call 79
            refine (units_any _).mono ?_
            rintro e w3 ⟨B, rfl, hU, hb3⟩
            have HC3 := Lib.hid (ext_trans HC2.out hb3)
            have r0 := hU u (by omega)
            unfold strV at r0
            have q3 := cell_ext hb3 q2
            clear hU hb3
            go_wp2_with fail
            refine hK.out _ _ ?_ (fun hHeld => ?_)
            · exact ⟨cell_ext HC3.out d0, cell_ext HC3.out d1, cell_ext HC3.out d2⟩
            clear hK K
            (try dsimp only [Act.put, List.setIfInBounds_toArray, List.set_cons_zero, List.set_cons_succ])
            refine wpAnyH_take (i := 7) (v := ?_) rfl (by kernel_rfl) (by kernel_rfl) (by kernel_rfl) (fun _ _ _ h => h) (Or.inl ⟨by rfl, ?_⟩) (by assumption) ?_
            rotate_left
            · intro w hSw; (try dsimp only at hSw); go_simp; try with_reducible rfl
            (try dsimp only [Act.put, List.setIfInBounds_toArray, List.set_cons_zero, List.set_cons_succ])
            refine wpAnyH_ready (rs := [8]) (by kernel_rfl) (by simp) ?_
            refine AllReadyH.cons rfl (fun K hK => ?_) ?_
            · go_simp
              refine hK.out _ _ ?_ (fun hHeld => ?_)
              · exact ⟨cell_ext HC3.out d0, cell_ext HC3.out d1, cell_ext HC3.out d2⟩
              clear hK K
              (try dsimp only [Act.put, List.setIfInBounds_toArray, List.set_cons_zero, List.set_cons_succ])
              refine wpAnyH_take (i := 9) (v := ?_) rfl (by kernel_rfl) (by kernel_rfl) (by kernel_rfl) (fun _ _ _ h => h) (Or.inl ⟨by rfl, ?_⟩) (by assumption) ?_
              rotate_left
              · intro w hSw; (try dsimp only at hSw); go_simp; try with_reducible rfl
              (try dsimp only [Act.put, List.setIfInBounds_toArray, List.set_cons_zero, List.set_cons_succ])
              refine wpAnyH_ready (rs := [15]) (by kernel_rfl) (by simp) ?_
              refine AllReadyH.cons rfl (fun K hK => ?_) ?_
              · go_simp
                refine hK.out _ _ ?_ (fun hHeld => ?_)
                · exact ⟨cell_ext HC3.out d0, cell_ext HC3.out d1, cell_ext HC3.out d2⟩
                clear hK K
                (try dsimp only [Act.put, List.setIfInBounds_toArray, List.set_cons_zero, List.set_cons_succ])
                refine wpAnyH_ready (rs := [16]) (by kernel_rfl) (by simp) ?_
                refine AllReadyH.cons rfl (fun K hK => ?_) ?_
                · go_simp
                  refine hK.out _ _ ?_ (fun hHeld => ?_)
                  · exact ⟨cell_ext HC3.out d0, cell_ext HC3.out d1, cell_ext HC3.out d2⟩
                  clear hK K
                  (try dsimp only [Act.put, List.setIfInBounds_toArray, List.set_cons_zero, List.set_cons_succ])
                  refine wpAnyH_done (by kernel_rfl) ?_ _
                  go_wp2_with fail
                  go_ret
                  exact ⟨congrArg (fun x => Ending.returned (.string x)) (tt_app l (wd u) 0 ⟨#[]⟩ rfl), ext_trans HB1.out HC3.out⟩
                exact AllReadyH.nil
              exact AllReadyH.nil
            exact AllReadyH.nil
          exact AllReadyH.nil
        exact AllReadyH.nil
      exact AllReadyH.nil
    exact AllReadyH.nil
  · skip
    refine wp_region_held_drew (S := (fun w' => w'.cell? ⟨w.heap.size, 0, none⟩ = some (.int .i64 (n : Int)) ∧ w'.cell? ⟨w.heap.size, 1, none⟩ = some (.int .i64 (u : Int)) ∧ w'.cell? ⟨w.heap.size, 2, none⟩ = some (.int .i64 1))) (by kernel_rfl) ?_ (fun hHeld => ?_)
    · exact ⟨cell_ext (show Below w1.heap.size w1 w1.drew from ext_drewN w1 1) d0, cell_ext (show Below w1.heap.size w1 w1.drew from ext_drewN w1 1) d1, cell_ext (show Below w1.heap.size w1 w1.drew from ext_drewN w1 1) d2⟩
    refine wpAnyH_take (i := 0) (v := ?_) rfl (by kernel_rfl) (by kernel_rfl) (by kernel_rfl) (fun _ _ _ h => h) (Or.inl ⟨by rfl, ?_⟩) (by assumption) ?_
    rotate_left
    · intro w hSw; (try dsimp only at hSw); go_simp; try with_reducible rfl
    (try dsimp only [Act.put, List.setIfInBounds_toArray, List.set_cons_zero, List.set_cons_succ])
    refine wpAnyH_take (i := 1) (v := ?_) rfl (by kernel_rfl) (by kernel_rfl) (by kernel_rfl) (fun _ _ _ h => h) (Or.inl ⟨by rfl, ?_⟩) (by assumption) ?_
    rotate_left
    · intro w hSw; (try dsimp only at hSw); go_simp; try with_reducible rfl
    (try dsimp only [Act.put, List.setIfInBounds_toArray, List.set_cons_zero, List.set_cons_succ])
    refine wpAnyH_take (i := 5) (v := ?_) rfl (by kernel_rfl) (by kernel_rfl) (by kernel_rfl) (fun _ _ _ h => h) (Or.inl ⟨by rfl, ?_⟩) (by assumption) ?_
    rotate_left
    · intro w hSw; (try dsimp only at hSw); go_simp; try with_reducible rfl
    (try dsimp only [Act.put, List.setIfInBounds_toArray, List.set_cons_zero, List.set_cons_succ])
    refine wpAnyH_take (i := 6) (v := ?_) rfl (by kernel_rfl) (by kernel_rfl) (by kernel_rfl) (fun _ _ _ h => h) (Or.inl ⟨by rfl, ?_⟩) (by assumption) ?_
    rotate_left
    · intro w hSw; (try dsimp only at hSw); go_simp; try with_reducible rfl
    (try dsimp only [Act.put, List.setIfInBounds_toArray, List.set_cons_zero, List.set_cons_succ])
    refine wpAnyH_take (i := 11) (v := ?_) rfl (by kernel_rfl) (by kernel_rfl) (by kernel_rfl) (fun _ _ _ h => h) (Or.inl ⟨by rfl, ?_⟩) (by assumption) ?_
    rotate_left
    · intro w hSw; (try dsimp only at hSw); go_simp; try with_reducible rfl
    (try dsimp only [Act.put, List.setIfInBounds_toArray, List.set_cons_zero, List.set_cons_succ])
    refine wpAnyH_take (i := 12) (v := ?_) rfl (by kernel_rfl) (by kernel_rfl) (by kernel_rfl) (fun _ _ _ h => h) (Or.inl ⟨by rfl, ?_⟩) (by assumption) ?_
    rotate_left
    · intro w hSw; (try dsimp only at hSw); go_simp; try with_reducible rfl
    (try dsimp only [Act.put, List.setIfInBounds_toArray, List.set_cons_zero, List.set_cons_succ])
    refine wpAnyH_ready (rs := [2, 10]) (by kernel_rfl) (by simp) ?_
    refine AllReadyH.cons rfl (fun K hK => ?_) ?_
    · go_simp
      go_at_call 85
      refine (HI.out _ (HP1.out.ext (show Below w1.heap.size w1 w1.drew from ext_drewN w1 1))).mono ?_
      rintro e w2 ⟨rfl, hb2⟩
      have HC2 := Lib.hid (ext_trans (show Below w1.heap.size w1 w1.drew from ext_drewN w1 1) hb2)
      clear hb2
      go_wp2_with fail
      refine hK.out _ _ ?_ (fun hHeld => ?_)
      · exact ⟨cell_ext HC2.out d0, cell_ext HC2.out d1, cell_ext HC2.out d2⟩
      clear hK K
      (try dsimp only [Act.put, List.setIfInBounds_toArray, List.set_cons_zero, List.set_cons_succ])
      refine wpAnyH_take (i := 3) (v := ?_) rfl (by kernel_rfl) (by kernel_rfl) (by kernel_rfl) (fun _ _ _ h => h) (Or.inl ⟨by rfl, ?_⟩) (by assumption) ?_
      rotate_left
      · intro w hSw; (try dsimp only at hSw); go_simp; try with_reducible rfl
      (try dsimp only [Act.put, List.setIfInBounds_toArray, List.set_cons_zero, List.set_cons_succ])
      refine wpAnyH_ready (rs := [4, 10]) (by kernel_rfl) (by simp) ?_
      refine AllReadyH.cons rfl (fun K hK => ?_) ?_
      · go_simp
        go_at_call 79
        refine (units_any _).mono ?_
        rintro e w3 ⟨B, rfl, hU, hb3⟩
        have HC3 := Lib.hid (ext_trans HC2.out hb3)
        have r0 := hU u (by omega)
        unfold strV at r0
        clear hU hb3
        go_wp2_with fail
        refine hK.out _ _ ?_ (fun hHeld => ?_)
        · exact ⟨cell_ext HC3.out d0, cell_ext HC3.out d1, cell_ext HC3.out d2⟩
        clear hK K
        (try dsimp only [Act.put, List.setIfInBounds_toArray, List.set_cons_zero, List.set_cons_succ])
        refine wpAnyH_take (i := 7) (v := ?_) rfl (by kernel_rfl) (by kernel_rfl) (by kernel_rfl) (fun _ _ _ h => h) (Or.inl ⟨by rfl, ?_⟩) (by assumption) ?_
        rotate_left
        · intro w hSw; (try dsimp only at hSw); go_simp; try with_reducible rfl
        (try dsimp only [Act.put, List.setIfInBounds_toArray, List.set_cons_zero, List.set_cons_succ])
        refine wpAnyH_ready (rs := [8, 10]) (by kernel_rfl) (by simp) ?_
        refine AllReadyH.cons rfl (fun K hK => ?_) ?_
        · go_simp
          refine hK.out _ _ ?_ (fun hHeld => ?_)
          · exact ⟨cell_ext HC3.out d0, cell_ext HC3.out d1, cell_ext HC3.out d2⟩
          clear hK K
          (try dsimp only [Act.put, List.setIfInBounds_toArray, List.set_cons_zero, List.set_cons_succ])
          refine wpAnyH_take (i := 9) (v := ?_) rfl (by kernel_rfl) (by kernel_rfl) (by kernel_rfl) (fun _ _ _ h => h) (Or.inl ⟨by rfl, ?_⟩) (by assumption) ?_
          rotate_left
          · intro w hSw; (try dsimp only at hSw); go_simp; try with_reducible rfl
          (try dsimp only [Act.put, List.setIfInBounds_toArray, List.set_cons_zero, List.set_cons_succ])
          refine wpAnyH_ready (rs := [10]) (by kernel_rfl) (by simp) ?_
          refine AllReadyH.cons rfl (fun K hK => ?_) ?_
          · go_simp
            refine hK.out _ _ ?_ (fun hHeld => ?_)
            · exact ⟨cell_ext (ext_trans HC3.out (ext_alloc w3 _)) d0, cell_ext (ext_trans HC3.out (ext_alloc w3 _)) d1, cell_ext (ext_trans HC3.out (ext_alloc w3 _)) d2⟩
            clear hK K
            (try dsimp only [Act.put, List.setIfInBounds_toArray, List.set_cons_zero, List.set_cons_succ])
            have r1 := cell_ext (ext_alloc w3 (.cells #[.string ⟨#[]⟩, .string ⟨#[44, 32, 110, 101, 120, 116]⟩, .string ⟨#[44, 32, 98, 101, 102, 111, 114, 101]⟩] 9)) r0
            refine wpAnyH_take (i := 13) (v := ?_) rfl (by kernel_rfl) (by kernel_rfl) (by kernel_rfl) (fun _ _ _ h => h) (Or.inl ⟨by rfl, ?_⟩) (by assumption) ?_
            rotate_left
            · intro w hSw; (try dsimp only at hSw); go_simp; try with_reducible rfl
            (try dsimp only [Act.put, List.setIfInBounds_toArray, List.set_cons_zero, List.set_cons_succ])
            refine wpAnyH_ready (rs := [14]) (by kernel_rfl) (by simp) ?_
            refine AllReadyH.cons rfl (fun K hK => ?_) ?_
            · go_simp
              refine hK.out _ _ ?_ (fun hHeld => ?_)
              · exact ⟨cell_ext (ext_trans HC3.out (ext_alloc w3 _)) d0, cell_ext (ext_trans HC3.out (ext_alloc w3 _)) d1, cell_ext (ext_trans HC3.out (ext_alloc w3 _)) d2⟩
              clear hK K
              (try dsimp only [Act.put, List.setIfInBounds_toArray, List.set_cons_zero, List.set_cons_succ])
              refine wpAnyH_ready (rs := [15]) (by kernel_rfl) (by simp) ?_
              refine AllReadyH.cons rfl (fun K hK => ?_) ?_
              · go_simp
                refine hK.out _ _ ?_ (fun hHeld => ?_)
                · exact ⟨cell_ext (ext_trans HC3.out (ext_alloc w3 _)) d0, cell_ext (ext_trans HC3.out (ext_alloc w3 _)) d1, cell_ext (ext_trans HC3.out (ext_alloc w3 _)) d2⟩
                clear hK K
                (try dsimp only [Act.put, List.setIfInBounds_toArray, List.set_cons_zero, List.set_cons_succ])
                refine wpAnyH_ready (rs := [16]) (by kernel_rfl) (by simp) ?_
                refine AllReadyH.cons rfl (fun K hK => ?_) ?_
                · go_simp
                  refine hK.out _ _ ?_ (fun hHeld => ?_)
                  · exact ⟨cell_ext (ext_trans HC3.out (ext_alloc w3 _)) d0, cell_ext (ext_trans HC3.out (ext_alloc w3 _)) d1, cell_ext (ext_trans HC3.out (ext_alloc w3 _)) d2⟩
                  clear hK K
                  (try dsimp only [Act.put, List.setIfInBounds_toArray, List.set_cons_zero, List.set_cons_succ])
                  refine wpAnyH_done (by kernel_rfl) ?_ _
                  go_wp2_with fail
                  go_ret
                  exact ⟨congrArg (fun x => Ending.returned (.string x)) (tt_app l (wd u) 1 ⟨#[44, 32, 110, 101, 120, 116]⟩ rfl), ext_trans HB1.out (ext_trans HC3.out (ext_alloc w3 _))⟩
                exact AllReadyH.nil
              exact AllReadyH.nil
            exact AllReadyH.nil
          exact AllReadyH.nil
        refine AllReadyH.cons rfl (fun K hK => ?_) ?_
        · go_simp
          refine hK.out _ _ ?_ (fun hHeld => ?_)
          · exact ⟨cell_ext (ext_trans HC3.out (ext_alloc w3 _)) d0, cell_ext (ext_trans HC3.out (ext_alloc w3 _)) d1, cell_ext (ext_trans HC3.out (ext_alloc w3 _)) d2⟩
          clear hK K
          (try dsimp only [Act.put, List.setIfInBounds_toArray, List.set_cons_zero, List.set_cons_succ])
          have r1 := cell_ext (ext_alloc w3 (.cells #[.string ⟨#[]⟩, .string ⟨#[44, 32, 110, 101, 120, 116]⟩, .string ⟨#[44, 32, 98, 101, 102, 111, 114, 101]⟩] 9)) r0
          refine wpAnyH_take (i := 13) (v := ?_) rfl (by kernel_rfl) (by kernel_rfl) (by kernel_rfl) (fun _ _ _ h => h) (Or.inl ⟨by rfl, ?_⟩) (by assumption) ?_
          rotate_left
          · intro w hSw; (try dsimp only at hSw); go_simp; try with_reducible rfl
          (try dsimp only [Act.put, List.setIfInBounds_toArray, List.set_cons_zero, List.set_cons_succ])
          refine wpAnyH_ready (rs := [8, 14]) (by kernel_rfl) (by simp) ?_
          refine AllReadyH.cons rfl (fun K hK => ?_) ?_
          · go_simp
            refine hK.out _ _ ?_ (fun hHeld => ?_)
            · exact ⟨cell_ext (ext_trans HC3.out (ext_alloc w3 _)) d0, cell_ext (ext_trans HC3.out (ext_alloc w3 _)) d1, cell_ext (ext_trans HC3.out (ext_alloc w3 _)) d2⟩
            clear hK K
            (try dsimp only [Act.put, List.setIfInBounds_toArray, List.set_cons_zero, List.set_cons_succ])
            refine wpAnyH_take (i := 9) (v := ?_) rfl (by kernel_rfl) (by kernel_rfl) (by kernel_rfl) (fun _ _ _ h => h) (Or.inl ⟨by rfl, ?_⟩) (by assumption) ?_
            rotate_left
            · intro w hSw; (try dsimp only at hSw); go_simp; try with_reducible rfl
            (try dsimp only [Act.put, List.setIfInBounds_toArray, List.set_cons_zero, List.set_cons_succ])
            refine wpAnyH_ready (rs := [14]) (by kernel_rfl) (by simp) ?_
            refine AllReadyH.cons rfl (fun K hK => ?_) ?_
            · go_simp
              refine hK.out _ _ ?_ (fun hHeld => ?_)
              · exact ⟨cell_ext (ext_trans HC3.out (ext_alloc w3 _)) d0, cell_ext (ext_trans HC3.out (ext_alloc w3 _)) d1, cell_ext (ext_trans HC3.out (ext_alloc w3 _)) d2⟩
              clear hK K
              (try dsimp only [Act.put, List.setIfInBounds_toArray, List.set_cons_zero, List.set_cons_succ])
              refine wpAnyH_ready (rs := [15]) (by kernel_rfl) (by simp) ?_
              refine AllReadyH.cons rfl (fun K hK => ?_) ?_
              · go_simp
                refine hK.out _ _ ?_ (fun hHeld => ?_)
                · exact ⟨cell_ext (ext_trans HC3.out (ext_alloc w3 _)) d0, cell_ext (ext_trans HC3.out (ext_alloc w3 _)) d1, cell_ext (ext_trans HC3.out (ext_alloc w3 _)) d2⟩
                clear hK K
                (try dsimp only [Act.put, List.setIfInBounds_toArray, List.set_cons_zero, List.set_cons_succ])
                refine wpAnyH_ready (rs := [16]) (by kernel_rfl) (by simp) ?_
                refine AllReadyH.cons rfl (fun K hK => ?_) ?_
                · go_simp
                  refine hK.out _ _ ?_ (fun hHeld => ?_)
                  · exact ⟨cell_ext (ext_trans HC3.out (ext_alloc w3 _)) d0, cell_ext (ext_trans HC3.out (ext_alloc w3 _)) d1, cell_ext (ext_trans HC3.out (ext_alloc w3 _)) d2⟩
                  clear hK K
                  (try dsimp only [Act.put, List.setIfInBounds_toArray, List.set_cons_zero, List.set_cons_succ])
                  refine wpAnyH_done (by kernel_rfl) ?_ _
                  go_wp2_with fail
                  go_ret
                  exact ⟨congrArg (fun x => Ending.returned (.string x)) (tt_app l (wd u) 1 ⟨#[44, 32, 110, 101, 120, 116]⟩ rfl), ext_trans HB1.out (ext_trans HC3.out (ext_alloc w3 _))⟩
                exact AllReadyH.nil
              exact AllReadyH.nil
            exact AllReadyH.nil
          refine AllReadyH.cons rfl (fun K hK => ?_) ?_
          · go_simp
            refine hK.out _ _ ?_ (fun hHeld => ?_)
            · exact ⟨cell_ext (ext_trans HC3.out (ext_alloc w3 _)) d0, cell_ext (ext_trans HC3.out (ext_alloc w3 _)) d1, cell_ext (ext_trans HC3.out (ext_alloc w3 _)) d2⟩
            clear hK K
            (try dsimp only [Act.put, List.setIfInBounds_toArray, List.set_cons_zero, List.set_cons_succ])
            refine wpAnyH_ready (rs := [8]) (by kernel_rfl) (by simp) ?_
            refine AllReadyH.cons rfl (fun K hK => ?_) ?_
            · go_simp
              refine hK.out _ _ ?_ (fun hHeld => ?_)
              · exact ⟨cell_ext (ext_trans HC3.out (ext_alloc w3 _)) d0, cell_ext (ext_trans HC3.out (ext_alloc w3 _)) d1, cell_ext (ext_trans HC3.out (ext_alloc w3 _)) d2⟩
              clear hK K
              (try dsimp only [Act.put, List.setIfInBounds_toArray, List.set_cons_zero, List.set_cons_succ])
              refine wpAnyH_take (i := 9) (v := ?_) rfl (by kernel_rfl) (by kernel_rfl) (by kernel_rfl) (fun _ _ _ h => h) (Or.inl ⟨by rfl, ?_⟩) (by assumption) ?_
              rotate_left
              · intro w hSw; (try dsimp only at hSw); go_simp; try with_reducible rfl
              (try dsimp only [Act.put, List.setIfInBounds_toArray, List.set_cons_zero, List.set_cons_succ])
              refine wpAnyH_ready (rs := [15]) (by kernel_rfl) (by simp) ?_
              refine AllReadyH.cons rfl (fun K hK => ?_) ?_
              · go_simp
                refine hK.out _ _ ?_ (fun hHeld => ?_)
                · exact ⟨cell_ext (ext_trans HC3.out (ext_alloc w3 _)) d0, cell_ext (ext_trans HC3.out (ext_alloc w3 _)) d1, cell_ext (ext_trans HC3.out (ext_alloc w3 _)) d2⟩
                clear hK K
                (try dsimp only [Act.put, List.setIfInBounds_toArray, List.set_cons_zero, List.set_cons_succ])
                refine wpAnyH_ready (rs := [16]) (by kernel_rfl) (by simp) ?_
                refine AllReadyH.cons rfl (fun K hK => ?_) ?_
                · go_simp
                  refine hK.out _ _ ?_ (fun hHeld => ?_)
                  · exact ⟨cell_ext (ext_trans HC3.out (ext_alloc w3 _)) d0, cell_ext (ext_trans HC3.out (ext_alloc w3 _)) d1, cell_ext (ext_trans HC3.out (ext_alloc w3 _)) d2⟩
                  clear hK K
                  (try dsimp only [Act.put, List.setIfInBounds_toArray, List.set_cons_zero, List.set_cons_succ])
                  refine wpAnyH_done (by kernel_rfl) ?_ _
                  go_wp2_with fail
                  go_ret
                  exact ⟨congrArg (fun x => Ending.returned (.string x)) (tt_app l (wd u) 1 ⟨#[44, 32, 110, 101, 120, 116]⟩ rfl), ext_trans HB1.out (ext_trans HC3.out (ext_alloc w3 _))⟩
                exact AllReadyH.nil
              exact AllReadyH.nil
            exact AllReadyH.nil
          exact AllReadyH.nil
        exact AllReadyH.nil
      refine AllReadyH.cons rfl (fun K hK => ?_) ?_
      · go_simp
        refine hK.out _ _ ?_ (fun hHeld => ?_)
        · exact ⟨cell_ext (ext_trans HC2.out (ext_alloc w2 _)) d0, cell_ext (ext_trans HC2.out (ext_alloc w2 _)) d1, cell_ext (ext_trans HC2.out (ext_alloc w2 _)) d2⟩
        clear hK K
        (try dsimp only [Act.put, List.setIfInBounds_toArray, List.set_cons_zero, List.set_cons_succ])
        refine wpAnyH_take (i := 13) (v := ?_) rfl (by kernel_rfl) (by kernel_rfl) (by kernel_rfl) (fun _ _ _ h => h) (Or.inl ⟨by rfl, ?_⟩) (by assumption) ?_
        rotate_left
        · intro w hSw; (try dsimp only at hSw); go_simp; try with_reducible rfl
        (try dsimp only [Act.put, List.setIfInBounds_toArray, List.set_cons_zero, List.set_cons_succ])
        refine wpAnyH_ready (rs := [4, 14]) (by kernel_rfl) (by simp) ?_
        refine AllReadyH.cons rfl (fun K hK => ?_) ?_
        · go_simp
          go_at_call 79
          refine (units_any _).mono ?_
          rintro e w3 ⟨B, rfl, hU, hb3⟩
          have HC3 := Lib.hid (ext_trans (ext_trans HC2.out (ext_alloc w2 _)) hb3)
          have r0 := hU u (by omega)
          unfold strV at r0
          have q3 := cell_ext hb3 (show (w2.alloc (.cells #[.string ⟨#[]⟩, .string ⟨#[44, 32, 110, 101, 120, 116]⟩, .string ⟨#[44, 32, 98, 101, 102, 111, 114, 101]⟩] 9)).cell? ⟨w2.heap.size, 1, none⟩ = some (.string ⟨#[44, 32, 110, 101, 120, 116]⟩) from World.cell?_alloc_at _ _ _ _ rfl)
          clear hU hb3
          go_wp2_with fail
          refine hK.out _ _ ?_ (fun hHeld => ?_)
          · exact ⟨cell_ext HC3.out d0, cell_ext HC3.out d1, cell_ext HC3.out d2⟩
          clear hK K
          (try dsimp only [Act.put, List.setIfInBounds_toArray, List.set_cons_zero, List.set_cons_succ])
          refine wpAnyH_take (i := 7) (v := ?_) rfl (by kernel_rfl) (by kernel_rfl) (by kernel_rfl) (fun _ _ _ h => h) (Or.inl ⟨by rfl, ?_⟩) (by assumption) ?_
          rotate_left
          · intro w hSw; (try dsimp only at hSw); go_simp; try with_reducible rfl
          (try dsimp only [Act.put, List.setIfInBounds_toArray, List.set_cons_zero, List.set_cons_succ])
          refine wpAnyH_ready (rs := [8, 14]) (by kernel_rfl) (by simp) ?_
          refine AllReadyH.cons rfl (fun K hK => ?_) ?_
          · go_simp
            refine hK.out _ _ ?_ (fun hHeld => ?_)
            · exact ⟨cell_ext HC3.out d0, cell_ext HC3.out d1, cell_ext HC3.out d2⟩
            clear hK K
            (try dsimp only [Act.put, List.setIfInBounds_toArray, List.set_cons_zero, List.set_cons_succ])
            refine wpAnyH_take (i := 9) (v := ?_) rfl (by kernel_rfl) (by kernel_rfl) (by kernel_rfl) (fun _ _ _ h => h) (Or.inl ⟨by rfl, ?_⟩) (by assumption) ?_
            rotate_left
            · intro w hSw; (try dsimp only at hSw); go_simp; try with_reducible rfl
            (try dsimp only [Act.put, List.setIfInBounds_toArray, List.set_cons_zero, List.set_cons_succ])
            refine wpAnyH_ready (rs := [14]) (by kernel_rfl) (by simp) ?_
            refine AllReadyH.cons rfl (fun K hK => ?_) ?_
            · go_simp
              refine hK.out _ _ ?_ (fun hHeld => ?_)
              · exact ⟨cell_ext HC3.out d0, cell_ext HC3.out d1, cell_ext HC3.out d2⟩
              clear hK K
              (try dsimp only [Act.put, List.setIfInBounds_toArray, List.set_cons_zero, List.set_cons_succ])
              refine wpAnyH_ready (rs := [15]) (by kernel_rfl) (by simp) ?_
              refine AllReadyH.cons rfl (fun K hK => ?_) ?_
              · go_simp
                refine hK.out _ _ ?_ (fun hHeld => ?_)
                · exact ⟨cell_ext HC3.out d0, cell_ext HC3.out d1, cell_ext HC3.out d2⟩
                clear hK K
                (try dsimp only [Act.put, List.setIfInBounds_toArray, List.set_cons_zero, List.set_cons_succ])
                refine wpAnyH_ready (rs := [16]) (by kernel_rfl) (by simp) ?_
                refine AllReadyH.cons rfl (fun K hK => ?_) ?_
                · go_simp
                  refine hK.out _ _ ?_ (fun hHeld => ?_)
                  · exact ⟨cell_ext HC3.out d0, cell_ext HC3.out d1, cell_ext HC3.out d2⟩
                  clear hK K
                  (try dsimp only [Act.put, List.setIfInBounds_toArray, List.set_cons_zero, List.set_cons_succ])
                  refine wpAnyH_done (by kernel_rfl) ?_ _
                  go_wp2_with fail
                  go_ret
                  exact ⟨congrArg (fun x => Ending.returned (.string x)) (tt_app l (wd u) 1 ⟨#[44, 32, 110, 101, 120, 116]⟩ rfl), ext_trans HB1.out HC3.out⟩
                exact AllReadyH.nil
              exact AllReadyH.nil
            exact AllReadyH.nil
          refine AllReadyH.cons rfl (fun K hK => ?_) ?_
          · go_simp
            refine hK.out _ _ ?_ (fun hHeld => ?_)
            · exact ⟨cell_ext HC3.out d0, cell_ext HC3.out d1, cell_ext HC3.out d2⟩
            clear hK K
            (try dsimp only [Act.put, List.setIfInBounds_toArray, List.set_cons_zero, List.set_cons_succ])
            refine wpAnyH_ready (rs := [8]) (by kernel_rfl) (by simp) ?_
            refine AllReadyH.cons rfl (fun K hK => ?_) ?_
            · go_simp
              refine hK.out _ _ ?_ (fun hHeld => ?_)
              · exact ⟨cell_ext HC3.out d0, cell_ext HC3.out d1, cell_ext HC3.out d2⟩
              clear hK K
              (try dsimp only [Act.put, List.setIfInBounds_toArray, List.set_cons_zero, List.set_cons_succ])
              refine wpAnyH_take (i := 9) (v := ?_) rfl (by kernel_rfl) (by kernel_rfl) (by kernel_rfl) (fun _ _ _ h => h) (Or.inl ⟨by rfl, ?_⟩) (by assumption) ?_
              rotate_left
              · intro w hSw; (try dsimp only at hSw); go_simp; try with_reducible rfl
              (try dsimp only [Act.put, List.setIfInBounds_toArray, List.set_cons_zero, List.set_cons_succ])
              refine wpAnyH_ready (rs := [15]) (by kernel_rfl) (by simp) ?_
              refine AllReadyH.cons rfl (fun K hK => ?_) ?_
              · go_simp
                refine hK.out _ _ ?_ (fun hHeld => ?_)
                · exact ⟨cell_ext HC3.out d0, cell_ext HC3.out d1, cell_ext HC3.out d2⟩
                clear hK K
                (try dsimp only [Act.put, List.setIfInBounds_toArray, List.set_cons_zero, List.set_cons_succ])
                refine wpAnyH_ready (rs := [16]) (by kernel_rfl) (by simp) ?_
                refine AllReadyH.cons rfl (fun K hK => ?_) ?_
                · go_simp
                  refine hK.out _ _ ?_ (fun hHeld => ?_)
                  · exact ⟨cell_ext HC3.out d0, cell_ext HC3.out d1, cell_ext HC3.out d2⟩
                  clear hK K
                  (try dsimp only [Act.put, List.setIfInBounds_toArray, List.set_cons_zero, List.set_cons_succ])
                  refine wpAnyH_done (by kernel_rfl) ?_ _
                  go_wp2_with fail
                  go_ret
                  exact ⟨congrArg (fun x => Ending.returned (.string x)) (tt_app l (wd u) 1 ⟨#[44, 32, 110, 101, 120, 116]⟩ rfl), ext_trans HB1.out HC3.out⟩
                exact AllReadyH.nil
              exact AllReadyH.nil
            exact AllReadyH.nil
          exact AllReadyH.nil
        refine AllReadyH.cons rfl (fun K hK => ?_) ?_
        · go_simp
          refine hK.out _ _ ?_ (fun hHeld => ?_)
          · exact ⟨cell_ext (ext_trans HC2.out (ext_alloc w2 _)) d0, cell_ext (ext_trans HC2.out (ext_alloc w2 _)) d1, cell_ext (ext_trans HC2.out (ext_alloc w2 _)) d2⟩
          clear hK K
          (try dsimp only [Act.put, List.setIfInBounds_toArray, List.set_cons_zero, List.set_cons_succ])
          refine wpAnyH_ready (rs := [4]) (by kernel_rfl) (by simp) ?_
          refine AllReadyH.cons rfl (fun K hK => ?_) ?_
          · go_simp
            go_at_call 79
            refine (units_any _).mono ?_
            rintro e w3 ⟨B, rfl, hU, hb3⟩
            have HC3 := Lib.hid (ext_trans (ext_trans HC2.out (ext_alloc w2 _)) hb3)
            have r0 := hU u (by omega)
            unfold strV at r0
            have q3 := cell_ext hb3 (show (w2.alloc (.cells #[.string ⟨#[]⟩, .string ⟨#[44, 32, 110, 101, 120, 116]⟩, .string ⟨#[44, 32, 98, 101, 102, 111, 114, 101]⟩] 9)).cell? ⟨w2.heap.size, 1, none⟩ = some (.string ⟨#[44, 32, 110, 101, 120, 116]⟩) from World.cell?_alloc_at _ _ _ _ rfl)
            clear hU hb3
            go_wp2_with fail
            refine hK.out _ _ ?_ (fun hHeld => ?_)
            · exact ⟨cell_ext HC3.out d0, cell_ext HC3.out d1, cell_ext HC3.out d2⟩
            clear hK K
            (try dsimp only [Act.put, List.setIfInBounds_toArray, List.set_cons_zero, List.set_cons_succ])
            refine wpAnyH_take (i := 7) (v := ?_) rfl (by kernel_rfl) (by kernel_rfl) (by kernel_rfl) (fun _ _ _ h => h) (Or.inl ⟨by rfl, ?_⟩) (by assumption) ?_
            rotate_left
            · intro w hSw; (try dsimp only at hSw); go_simp; try with_reducible rfl
            (try dsimp only [Act.put, List.setIfInBounds_toArray, List.set_cons_zero, List.set_cons_succ])
            refine wpAnyH_ready (rs := [8]) (by kernel_rfl) (by simp) ?_
            refine AllReadyH.cons rfl (fun K hK => ?_) ?_
            · go_simp
              refine hK.out _ _ ?_ (fun hHeld => ?_)
              · exact ⟨cell_ext HC3.out d0, cell_ext HC3.out d1, cell_ext HC3.out d2⟩
              clear hK K
              (try dsimp only [Act.put, List.setIfInBounds_toArray, List.set_cons_zero, List.set_cons_succ])
              refine wpAnyH_take (i := 9) (v := ?_) rfl (by kernel_rfl) (by kernel_rfl) (by kernel_rfl) (fun _ _ _ h => h) (Or.inl ⟨by rfl, ?_⟩) (by assumption) ?_
              rotate_left
              · intro w hSw; (try dsimp only at hSw); go_simp; try with_reducible rfl
              (try dsimp only [Act.put, List.setIfInBounds_toArray, List.set_cons_zero, List.set_cons_succ])
              refine wpAnyH_ready (rs := [15]) (by kernel_rfl) (by simp) ?_
              refine AllReadyH.cons rfl (fun K hK => ?_) ?_
              · go_simp
                refine hK.out _ _ ?_ (fun hHeld => ?_)
                · exact ⟨cell_ext HC3.out d0, cell_ext HC3.out d1, cell_ext HC3.out d2⟩
                clear hK K
                (try dsimp only [Act.put, List.setIfInBounds_toArray, List.set_cons_zero, List.set_cons_succ])
                refine wpAnyH_ready (rs := [16]) (by kernel_rfl) (by simp) ?_
                refine AllReadyH.cons rfl (fun K hK => ?_) ?_
                · go_simp
                  refine hK.out _ _ ?_ (fun hHeld => ?_)
                  · exact ⟨cell_ext HC3.out d0, cell_ext HC3.out d1, cell_ext HC3.out d2⟩
                  clear hK K
                  (try dsimp only [Act.put, List.setIfInBounds_toArray, List.set_cons_zero, List.set_cons_succ])
                  refine wpAnyH_done (by kernel_rfl) ?_ _
                  go_wp2_with fail
                  go_ret
                  exact ⟨congrArg (fun x => Ending.returned (.string x)) (tt_app l (wd u) 1 ⟨#[44, 32, 110, 101, 120, 116]⟩ rfl), ext_trans HB1.out HC3.out⟩
                exact AllReadyH.nil
              exact AllReadyH.nil
            exact AllReadyH.nil
          exact AllReadyH.nil
        exact AllReadyH.nil
      exact AllReadyH.nil
    refine AllReadyH.cons rfl (fun K hK => ?_) ?_
    · go_simp
      refine hK.out _ _ ?_ (fun hHeld => ?_)
      · exact ⟨cell_ext (ext_trans (show Below w1.heap.size w1 w1.drew from ext_drewN w1 1) (ext_alloc w1.drew _)) d0, cell_ext (ext_trans (show Below w1.heap.size w1 w1.drew from ext_drewN w1 1) (ext_alloc w1.drew _)) d1, cell_ext (ext_trans (show Below w1.heap.size w1 w1.drew from ext_drewN w1 1) (ext_alloc w1.drew _)) d2⟩
      clear hK K
      (try dsimp only [Act.put, List.setIfInBounds_toArray, List.set_cons_zero, List.set_cons_succ])
      refine wpAnyH_take (i := 13) (v := ?_) rfl (by kernel_rfl) (by kernel_rfl) (by kernel_rfl) (fun _ _ _ h => h) (Or.inl ⟨by rfl, ?_⟩) (by assumption) ?_
      rotate_left
      · intro w hSw; (try dsimp only at hSw); go_simp; try with_reducible rfl
      (try dsimp only [Act.put, List.setIfInBounds_toArray, List.set_cons_zero, List.set_cons_succ])
      refine wpAnyH_ready (rs := [2, 14]) (by kernel_rfl) (by simp) ?_
      refine AllReadyH.cons rfl (fun K hK => ?_) ?_
      · go_simp
        go_at_call 85
        refine (HI.out _ (HP1.out.ext (ext_trans (show Below w1.heap.size w1 w1.drew from ext_drewN w1 1) (ext_alloc w1.drew _)))).mono ?_
        rintro e w2 ⟨rfl, hb2⟩
        have HC2 := Lib.hid (ext_trans (ext_trans (show Below w1.heap.size w1 w1.drew from ext_drewN w1 1) (ext_alloc w1.drew _)) hb2)
        have q2 := cell_ext hb2 (show (w1.drew.alloc (.cells #[.string ⟨#[]⟩, .string ⟨#[44, 32, 110, 101, 120, 116]⟩, .string ⟨#[44, 32, 98, 101, 102, 111, 114, 101]⟩] 9)).cell? ⟨w1.heap.size, 1, none⟩ = some (.string ⟨#[44, 32, 110, 101, 120, 116]⟩) from World.cell?_alloc_at _ _ _ _ rfl)
        clear hb2
        go_wp2_with fail
        refine hK.out _ _ ?_ (fun hHeld => ?_)
        · exact ⟨cell_ext HC2.out d0, cell_ext HC2.out d1, cell_ext HC2.out d2⟩
        clear hK K
        (try dsimp only [Act.put, List.setIfInBounds_toArray, List.set_cons_zero, List.set_cons_succ])
        refine wpAnyH_take (i := 3) (v := ?_) rfl (by kernel_rfl) (by kernel_rfl) (by kernel_rfl) (fun _ _ _ h => h) (Or.inl ⟨by rfl, ?_⟩) (by assumption) ?_
        rotate_left
        · intro w hSw; (try dsimp only at hSw); go_simp; try with_reducible rfl
        (try dsimp only [Act.put, List.setIfInBounds_toArray, List.set_cons_zero, List.set_cons_succ])
        refine wpAnyH_ready (rs := [4, 14]) (by kernel_rfl) (by simp) ?_
        refine AllReadyH.cons rfl (fun K hK => ?_) ?_
        · go_simp
          go_at_call 79
          refine (units_any _).mono ?_
          rintro e w3 ⟨B, rfl, hU, hb3⟩
          have HC3 := Lib.hid (ext_trans HC2.out hb3)
          have r0 := hU u (by omega)
          unfold strV at r0
          have q3 := cell_ext hb3 q2
          clear hU hb3
          go_wp2_with fail
          refine hK.out _ _ ?_ (fun hHeld => ?_)
          · exact ⟨cell_ext HC3.out d0, cell_ext HC3.out d1, cell_ext HC3.out d2⟩
          clear hK K
          (try dsimp only [Act.put, List.setIfInBounds_toArray, List.set_cons_zero, List.set_cons_succ])
          refine wpAnyH_take (i := 7) (v := ?_) rfl (by kernel_rfl) (by kernel_rfl) (by kernel_rfl) (fun _ _ _ h => h) (Or.inl ⟨by rfl, ?_⟩) (by assumption) ?_
          rotate_left
          · intro w hSw; (try dsimp only at hSw); go_simp; try with_reducible rfl
          (try dsimp only [Act.put, List.setIfInBounds_toArray, List.set_cons_zero, List.set_cons_succ])
          refine wpAnyH_ready (rs := [8, 14]) (by kernel_rfl) (by simp) ?_
          refine AllReadyH.cons rfl (fun K hK => ?_) ?_
          · go_simp
            refine hK.out _ _ ?_ (fun hHeld => ?_)
            · exact ⟨cell_ext HC3.out d0, cell_ext HC3.out d1, cell_ext HC3.out d2⟩
            clear hK K
            (try dsimp only [Act.put, List.setIfInBounds_toArray, List.set_cons_zero, List.set_cons_succ])
            refine wpAnyH_take (i := 9) (v := ?_) rfl (by kernel_rfl) (by kernel_rfl) (by kernel_rfl) (fun _ _ _ h => h) (Or.inl ⟨by rfl, ?_⟩) (by assumption) ?_
            rotate_left
            · intro w hSw; (try dsimp only at hSw); go_simp; try with_reducible rfl
            (try dsimp only [Act.put, List.setIfInBounds_toArray, List.set_cons_zero, List.set_cons_succ])
            refine wpAnyH_ready (rs := [14]) (by kernel_rfl) (by simp) ?_
            refine AllReadyH.cons rfl (fun K hK => ?_) ?_
            · go_simp
              refine hK.out _ _ ?_ (fun hHeld => ?_)
              · exact ⟨cell_ext HC3.out d0, cell_ext HC3.out d1, cell_ext HC3.out d2⟩
              clear hK K
              (try dsimp only [Act.put, List.setIfInBounds_toArray, List.set_cons_zero, List.set_cons_succ])
              refine wpAnyH_ready (rs := [15]) (by kernel_rfl) (by simp) ?_
              refine AllReadyH.cons rfl (fun K hK => ?_) ?_
              · go_simp
                refine hK.out _ _ ?_ (fun hHeld => ?_)
                · exact ⟨cell_ext HC3.out d0, cell_ext HC3.out d1, cell_ext HC3.out d2⟩
                clear hK K
                (try dsimp only [Act.put, List.setIfInBounds_toArray, List.set_cons_zero, List.set_cons_succ])
                refine wpAnyH_ready (rs := [16]) (by kernel_rfl) (by simp) ?_
                refine AllReadyH.cons rfl (fun K hK => ?_) ?_
                · go_simp
                  refine hK.out _ _ ?_ (fun hHeld => ?_)
                  · exact ⟨cell_ext HC3.out d0, cell_ext HC3.out d1, cell_ext HC3.out d2⟩
                  clear hK K
                  (try dsimp only [Act.put, List.setIfInBounds_toArray, List.set_cons_zero, List.set_cons_succ])
                  refine wpAnyH_done (by kernel_rfl) ?_ _
                  go_wp2_with fail
                  go_ret
                  exact ⟨congrArg (fun x => Ending.returned (.string x)) (tt_app l (wd u) 1 ⟨#[44, 32, 110, 101, 120, 116]⟩ rfl), ext_trans HB1.out HC3.out⟩
                exact AllReadyH.nil
              exact AllReadyH.nil
            exact AllReadyH.nil
          refine AllReadyH.cons rfl (fun K hK => ?_) ?_
          · go_simp
            refine hK.out _ _ ?_ (fun hHeld => ?_)
            · exact ⟨cell_ext HC3.out d0, cell_ext HC3.out d1, cell_ext HC3.out d2⟩
            clear hK K
            (try dsimp only [Act.put, List.setIfInBounds_toArray, List.set_cons_zero, List.set_cons_succ])
            refine wpAnyH_ready (rs := [8]) (by kernel_rfl) (by simp) ?_
            refine AllReadyH.cons rfl (fun K hK => ?_) ?_
            · go_simp
              refine hK.out _ _ ?_ (fun hHeld => ?_)
              · exact ⟨cell_ext HC3.out d0, cell_ext HC3.out d1, cell_ext HC3.out d2⟩
              clear hK K
              (try dsimp only [Act.put, List.setIfInBounds_toArray, List.set_cons_zero, List.set_cons_succ])
              refine wpAnyH_take (i := 9) (v := ?_) rfl (by kernel_rfl) (by kernel_rfl) (by kernel_rfl) (fun _ _ _ h => h) (Or.inl ⟨by rfl, ?_⟩) (by assumption) ?_
              rotate_left
              · intro w hSw; (try dsimp only at hSw); go_simp; try with_reducible rfl
              (try dsimp only [Act.put, List.setIfInBounds_toArray, List.set_cons_zero, List.set_cons_succ])
              refine wpAnyH_ready (rs := [15]) (by kernel_rfl) (by simp) ?_
              refine AllReadyH.cons rfl (fun K hK => ?_) ?_
              · go_simp
                refine hK.out _ _ ?_ (fun hHeld => ?_)
                · exact ⟨cell_ext HC3.out d0, cell_ext HC3.out d1, cell_ext HC3.out d2⟩
                clear hK K
                (try dsimp only [Act.put, List.setIfInBounds_toArray, List.set_cons_zero, List.set_cons_succ])
                refine wpAnyH_ready (rs := [16]) (by kernel_rfl) (by simp) ?_
                refine AllReadyH.cons rfl (fun K hK => ?_) ?_
                · go_simp
                  refine hK.out _ _ ?_ (fun hHeld => ?_)
                  · exact ⟨cell_ext HC3.out d0, cell_ext HC3.out d1, cell_ext HC3.out d2⟩
                  clear hK K
                  (try dsimp only [Act.put, List.setIfInBounds_toArray, List.set_cons_zero, List.set_cons_succ])
                  refine wpAnyH_done (by kernel_rfl) ?_ _
                  go_wp2_with fail
                  go_ret
                  exact ⟨congrArg (fun x => Ending.returned (.string x)) (tt_app l (wd u) 1 ⟨#[44, 32, 110, 101, 120, 116]⟩ rfl), ext_trans HB1.out HC3.out⟩
                exact AllReadyH.nil
              exact AllReadyH.nil
            exact AllReadyH.nil
          exact AllReadyH.nil
        refine AllReadyH.cons rfl (fun K hK => ?_) ?_
        · go_simp
          refine hK.out _ _ ?_ (fun hHeld => ?_)
          · exact ⟨cell_ext HC2.out d0, cell_ext HC2.out d1, cell_ext HC2.out d2⟩
          clear hK K
          (try dsimp only [Act.put, List.setIfInBounds_toArray, List.set_cons_zero, List.set_cons_succ])
          refine wpAnyH_ready (rs := [4]) (by kernel_rfl) (by simp) ?_
          refine AllReadyH.cons rfl (fun K hK => ?_) ?_
          · go_simp
            go_at_call 79
            refine (units_any _).mono ?_
            rintro e w3 ⟨B, rfl, hU, hb3⟩
            have HC3 := Lib.hid (ext_trans HC2.out hb3)
            have r0 := hU u (by omega)
            unfold strV at r0
            have q3 := cell_ext hb3 q2
            clear hU hb3
            go_wp2_with fail
            refine hK.out _ _ ?_ (fun hHeld => ?_)
            · exact ⟨cell_ext HC3.out d0, cell_ext HC3.out d1, cell_ext HC3.out d2⟩
            clear hK K
            (try dsimp only [Act.put, List.setIfInBounds_toArray, List.set_cons_zero, List.set_cons_succ])
            refine wpAnyH_take (i := 7) (v := ?_) rfl (by kernel_rfl) (by kernel_rfl) (by kernel_rfl) (fun _ _ _ h => h) (Or.inl ⟨by rfl, ?_⟩) (by assumption) ?_
            rotate_left
            · intro w hSw; (try dsimp only at hSw); go_simp; try with_reducible rfl
            (try dsimp only [Act.put, List.setIfInBounds_toArray, List.set_cons_zero, List.set_cons_succ])
            refine wpAnyH_ready (rs := [8]) (by kernel_rfl) (by simp) ?_
            refine AllReadyH.cons rfl (fun K hK => ?_) ?_
            · go_simp
              refine hK.out _ _ ?_ (fun hHeld => ?_)
              · exact ⟨cell_ext HC3.out d0, cell_ext HC3.out d1, cell_ext HC3.out d2⟩
              clear hK K
              (try dsimp only [Act.put, List.setIfInBounds_toArray, List.set_cons_zero, List.set_cons_succ])
              refine wpAnyH_take (i := 9) (v := ?_) rfl (by kernel_rfl) (by kernel_rfl) (by kernel_rfl) (fun _ _ _ h => h) (Or.inl ⟨by rfl, ?_⟩) (by assumption) ?_
              rotate_left
              · intro w hSw; (try dsimp only at hSw); go_simp; try with_reducible rfl
              (try dsimp only [Act.put, List.setIfInBounds_toArray, List.set_cons_zero, List.set_cons_succ])
              refine wpAnyH_ready (rs := [15]) (by kernel_rfl) (by simp) ?_
              refine AllReadyH.cons rfl (fun K hK => ?_) ?_
              · go_simp
                refine hK.out _ _ ?_ (fun hHeld => ?_)
                · exact ⟨cell_ext HC3.out d0, cell_ext HC3.out d1, cell_ext HC3.out d2⟩
                clear hK K
                (try dsimp only [Act.put, List.setIfInBounds_toArray, List.set_cons_zero, List.set_cons_succ])
                refine wpAnyH_ready (rs := [16]) (by kernel_rfl) (by simp) ?_
                refine AllReadyH.cons rfl (fun K hK => ?_) ?_
                · go_simp
                  refine hK.out _ _ ?_ (fun hHeld => ?_)
                  · exact ⟨cell_ext HC3.out d0, cell_ext HC3.out d1, cell_ext HC3.out d2⟩
                  clear hK K
                  (try dsimp only [Act.put, List.setIfInBounds_toArray, List.set_cons_zero, List.set_cons_succ])
                  refine wpAnyH_done (by kernel_rfl) ?_ _
                  go_wp2_with fail
                  go_ret
                  exact ⟨congrArg (fun x => Ending.returned (.string x)) (tt_app l (wd u) 1 ⟨#[44, 32, 110, 101, 120, 116]⟩ rfl), ext_trans HB1.out HC3.out⟩
                exact AllReadyH.nil
              exact AllReadyH.nil
            exact AllReadyH.nil
          exact AllReadyH.nil
        exact AllReadyH.nil
      refine AllReadyH.cons rfl (fun K hK => ?_) ?_
      · go_simp
        refine hK.out _ _ ?_ (fun hHeld => ?_)
        · exact ⟨cell_ext (ext_trans (show Below w1.heap.size w1 w1.drew from ext_drewN w1 1) (ext_alloc w1.drew _)) d0, cell_ext (ext_trans (show Below w1.heap.size w1 w1.drew from ext_drewN w1 1) (ext_alloc w1.drew _)) d1, cell_ext (ext_trans (show Below w1.heap.size w1 w1.drew from ext_drewN w1 1) (ext_alloc w1.drew _)) d2⟩
        clear hK K
        (try dsimp only [Act.put, List.setIfInBounds_toArray, List.set_cons_zero, List.set_cons_succ])
        refine wpAnyH_ready (rs := [2]) (by kernel_rfl) (by simp) ?_
        refine AllReadyH.cons rfl (fun K hK => ?_) ?_
        · go_simp
          go_at_call 85
          refine (HI.out _ (HP1.out.ext (ext_trans (show Below w1.heap.size w1 w1.drew from ext_drewN w1 1) (ext_alloc w1.drew _)))).mono ?_
          rintro e w2 ⟨rfl, hb2⟩
          have HC2 := Lib.hid (ext_trans (ext_trans (show Below w1.heap.size w1 w1.drew from ext_drewN w1 1) (ext_alloc w1.drew _)) hb2)
          have q2 := cell_ext hb2 (show (w1.drew.alloc (.cells #[.string ⟨#[]⟩, .string ⟨#[44, 32, 110, 101, 120, 116]⟩, .string ⟨#[44, 32, 98, 101, 102, 111, 114, 101]⟩] 9)).cell? ⟨w1.heap.size, 1, none⟩ = some (.string ⟨#[44, 32, 110, 101, 120, 116]⟩) from World.cell?_alloc_at _ _ _ _ rfl)
          clear hb2
          go_wp2_with fail
          refine hK.out _ _ ?_ (fun hHeld => ?_)
          · exact ⟨cell_ext HC2.out d0, cell_ext HC2.out d1, cell_ext HC2.out d2⟩
          clear hK K
          (try dsimp only [Act.put, List.setIfInBounds_toArray, List.set_cons_zero, List.set_cons_succ])
          refine wpAnyH_take (i := 3) (v := ?_) rfl (by kernel_rfl) (by kernel_rfl) (by kernel_rfl) (fun _ _ _ h => h) (Or.inl ⟨by rfl, ?_⟩) (by assumption) ?_
          rotate_left
          · intro w hSw; (try dsimp only at hSw); go_simp; try with_reducible rfl
          (try dsimp only [Act.put, List.setIfInBounds_toArray, List.set_cons_zero, List.set_cons_succ])
          refine wpAnyH_ready (rs := [4]) (by kernel_rfl) (by simp) ?_
          refine AllReadyH.cons rfl (fun K hK => ?_) ?_
          · go_simp
            go_at_call 79
            refine (units_any _).mono ?_
            rintro e w3 ⟨B, rfl, hU, hb3⟩
            have HC3 := Lib.hid (ext_trans HC2.out hb3)
            have r0 := hU u (by omega)
            unfold strV at r0
            have q3 := cell_ext hb3 q2
            clear hU hb3
            go_wp2_with fail
            refine hK.out _ _ ?_ (fun hHeld => ?_)
            · exact ⟨cell_ext HC3.out d0, cell_ext HC3.out d1, cell_ext HC3.out d2⟩
            clear hK K
            (try dsimp only [Act.put, List.setIfInBounds_toArray, List.set_cons_zero, List.set_cons_succ])
            refine wpAnyH_take (i := 7) (v := ?_) rfl (by kernel_rfl) (by kernel_rfl) (by kernel_rfl) (fun _ _ _ h => h) (Or.inl ⟨by rfl, ?_⟩) (by assumption) ?_
            rotate_left
            · intro w hSw; (try dsimp only at hSw); go_simp; try with_reducible rfl
            (try dsimp only [Act.put, List.setIfInBounds_toArray, List.set_cons_zero, List.set_cons_succ])
            refine wpAnyH_ready (rs := [8]) (by kernel_rfl) (by simp) ?_
            refine AllReadyH.cons rfl (fun K hK => ?_) ?_
            · go_simp
              refine hK.out _ _ ?_ (fun hHeld => ?_)
              · exact ⟨cell_ext HC3.out d0, cell_ext HC3.out d1, cell_ext HC3.out d2⟩
              clear hK K
              (try dsimp only [Act.put, List.setIfInBounds_toArray, List.set_cons_zero, List.set_cons_succ])
              refine wpAnyH_take (i := 9) (v := ?_) rfl (by kernel_rfl) (by kernel_rfl) (by kernel_rfl) (fun _ _ _ h => h) (Or.inl ⟨by rfl, ?_⟩) (by assumption) ?_
              rotate_left
              · intro w hSw; (try dsimp only at hSw); go_simp; try with_reducible rfl
              (try dsimp only [Act.put, List.setIfInBounds_toArray, List.set_cons_zero, List.set_cons_succ])
              refine wpAnyH_ready (rs := [15]) (by kernel_rfl) (by simp) ?_
              refine AllReadyH.cons rfl (fun K hK => ?_) ?_
              · go_simp
                refine hK.out _ _ ?_ (fun hHeld => ?_)
                · exact ⟨cell_ext HC3.out d0, cell_ext HC3.out d1, cell_ext HC3.out d2⟩
                clear hK K
                (try dsimp only [Act.put, List.setIfInBounds_toArray, List.set_cons_zero, List.set_cons_succ])
                refine wpAnyH_ready (rs := [16]) (by kernel_rfl) (by simp) ?_
                refine AllReadyH.cons rfl (fun K hK => ?_) ?_
                · go_simp
                  refine hK.out _ _ ?_ (fun hHeld => ?_)
                  · exact ⟨cell_ext HC3.out d0, cell_ext HC3.out d1, cell_ext HC3.out d2⟩
                  clear hK K
                  (try dsimp only [Act.put, List.setIfInBounds_toArray, List.set_cons_zero, List.set_cons_succ])
                  refine wpAnyH_done (by kernel_rfl) ?_ _
                  go_wp2_with fail
                  go_ret
                  exact ⟨congrArg (fun x => Ending.returned (.string x)) (tt_app l (wd u) 1 ⟨#[44, 32, 110, 101, 120, 116]⟩ rfl), ext_trans HB1.out HC3.out⟩
                exact AllReadyH.nil
              exact AllReadyH.nil
            exact AllReadyH.nil
          exact AllReadyH.nil
        exact AllReadyH.nil
      exact AllReadyH.nil
    exact AllReadyH.nil
  · skip
    refine wp_region_held_drew (S := (fun w' => w'.cell? ⟨w.heap.size, 0, none⟩ = some (.int .i64 (n : Int)) ∧ w'.cell? ⟨w.heap.size, 1, none⟩ = some (.int .i64 (u : Int)) ∧ w'.cell? ⟨w.heap.size, 2, none⟩ = some (.int .i64 2))) (by kernel_rfl) ?_ (fun hHeld => ?_)
    · exact ⟨cell_ext (show Below w1.heap.size w1 w1.drew from ext_drewN w1 1) d0, cell_ext (show Below w1.heap.size w1 w1.drew from ext_drewN w1 1) d1, cell_ext (show Below w1.heap.size w1 w1.drew from ext_drewN w1 1) d2⟩
    refine wpAnyH_take (i := 0) (v := ?_) rfl (by kernel_rfl) (by kernel_rfl) (by kernel_rfl) (fun _ _ _ h => h) (Or.inl ⟨by rfl, ?_⟩) (by assumption) ?_
    rotate_left
    · intro w hSw; (try dsimp only at hSw); go_simp; try with_reducible rfl
    (try dsimp only [Act.put, List.setIfInBounds_toArray, List.set_cons_zero, List.set_cons_succ])
    refine wpAnyH_take (i := 1) (v := ?_) rfl (by kernel_rfl) (by kernel_rfl) (by kernel_rfl) (fun _ _ _ h => h) (Or.inl ⟨by rfl, ?_⟩) (by assumption) ?_
    rotate_left
    · intro w hSw; (try dsimp only at hSw); go_simp; try with_reducible rfl
    (try dsimp only [Act.put, List.setIfInBounds_toArray, List.set_cons_zero, List.set_cons_succ])
    refine wpAnyH_take (i := 5) (v := ?_) rfl (by kernel_rfl) (by kernel_rfl) (by kernel_rfl) (fun _ _ _ h => h) (Or.inl ⟨by rfl, ?_⟩) (by assumption) ?_
    rotate_left
    · intro w hSw; (try dsimp only at hSw); go_simp; try with_reducible rfl
    (try dsimp only [Act.put, List.setIfInBounds_toArray, List.set_cons_zero, List.set_cons_succ])
    refine wpAnyH_take (i := 6) (v := ?_) rfl (by kernel_rfl) (by kernel_rfl) (by kernel_rfl) (fun _ _ _ h => h) (Or.inl ⟨by rfl, ?_⟩) (by assumption) ?_
    rotate_left
    · intro w hSw; (try dsimp only at hSw); go_simp; try with_reducible rfl
    (try dsimp only [Act.put, List.setIfInBounds_toArray, List.set_cons_zero, List.set_cons_succ])
    refine wpAnyH_take (i := 11) (v := ?_) rfl (by kernel_rfl) (by kernel_rfl) (by kernel_rfl) (fun _ _ _ h => h) (Or.inl ⟨by rfl, ?_⟩) (by assumption) ?_
    rotate_left
    · intro w hSw; (try dsimp only at hSw); go_simp; try with_reducible rfl
    (try dsimp only [Act.put, List.setIfInBounds_toArray, List.set_cons_zero, List.set_cons_succ])
    refine wpAnyH_take (i := 12) (v := ?_) rfl (by kernel_rfl) (by kernel_rfl) (by kernel_rfl) (fun _ _ _ h => h) (Or.inl ⟨by rfl, ?_⟩) (by assumption) ?_
    rotate_left
    · intro w hSw; (try dsimp only at hSw); go_simp; try with_reducible rfl
    (try dsimp only [Act.put, List.setIfInBounds_toArray, List.set_cons_zero, List.set_cons_succ])
    refine wpAnyH_ready (rs := [2, 10]) (by kernel_rfl) (by simp) ?_
    refine AllReadyH.cons rfl (fun K hK => ?_) ?_
    · go_simp
      go_at_call 85
      refine (HI.out _ (HP1.out.ext (show Below w1.heap.size w1 w1.drew from ext_drewN w1 1))).mono ?_
      rintro e w2 ⟨rfl, hb2⟩
      have HC2 := Lib.hid (ext_trans (show Below w1.heap.size w1 w1.drew from ext_drewN w1 1) hb2)
      clear hb2
      go_wp2_with fail
      refine hK.out _ _ ?_ (fun hHeld => ?_)
      · exact ⟨cell_ext HC2.out d0, cell_ext HC2.out d1, cell_ext HC2.out d2⟩
      clear hK K
      (try dsimp only [Act.put, List.setIfInBounds_toArray, List.set_cons_zero, List.set_cons_succ])
      refine wpAnyH_take (i := 3) (v := ?_) rfl (by kernel_rfl) (by kernel_rfl) (by kernel_rfl) (fun _ _ _ h => h) (Or.inl ⟨by rfl, ?_⟩) (by assumption) ?_
      rotate_left
      · intro w hSw; (try dsimp only at hSw); go_simp; try with_reducible rfl
      (try dsimp only [Act.put, List.setIfInBounds_toArray, List.set_cons_zero, List.set_cons_succ])
      refine wpAnyH_ready (rs := [4, 10]) (by kernel_rfl) (by simp) ?_
      refine AllReadyH.cons rfl (fun K hK => ?_) ?_
      · go_simp
        go_at_call 79
        refine (units_any _).mono ?_
        rintro e w3 ⟨B, rfl, hU, hb3⟩
        have HC3 := Lib.hid (ext_trans HC2.out hb3)
        have r0 := hU u (by omega)
        unfold strV at r0
        clear hU hb3
        go_wp2_with fail
        refine hK.out _ _ ?_ (fun hHeld => ?_)
        · exact ⟨cell_ext HC3.out d0, cell_ext HC3.out d1, cell_ext HC3.out d2⟩
        clear hK K
        (try dsimp only [Act.put, List.setIfInBounds_toArray, List.set_cons_zero, List.set_cons_succ])
        refine wpAnyH_take (i := 7) (v := ?_) rfl (by kernel_rfl) (by kernel_rfl) (by kernel_rfl) (fun _ _ _ h => h) (Or.inl ⟨by rfl, ?_⟩) (by assumption) ?_
        rotate_left
        · intro w hSw; (try dsimp only at hSw); go_simp; try with_reducible rfl
        (try dsimp only [Act.put, List.setIfInBounds_toArray, List.set_cons_zero, List.set_cons_succ])
        refine wpAnyH_ready (rs := [8, 10]) (by kernel_rfl) (by simp) ?_
        refine AllReadyH.cons rfl (fun K hK => ?_) ?_
        · go_simp
          refine hK.out _ _ ?_ (fun hHeld => ?_)
          · exact ⟨cell_ext HC3.out d0, cell_ext HC3.out d1, cell_ext HC3.out d2⟩
          clear hK K
          (try dsimp only [Act.put, List.setIfInBounds_toArray, List.set_cons_zero, List.set_cons_succ])
          refine wpAnyH_take (i := 9) (v := ?_) rfl (by kernel_rfl) (by kernel_rfl) (by kernel_rfl) (fun _ _ _ h => h) (Or.inl ⟨by rfl, ?_⟩) (by assumption) ?_
          rotate_left
          · intro w hSw; (try dsimp only at hSw); go_simp; try with_reducible rfl
          (try dsimp only [Act.put, List.setIfInBounds_toArray, List.set_cons_zero, List.set_cons_succ])
          refine wpAnyH_ready (rs := [10]) (by kernel_rfl) (by simp) ?_
          refine AllReadyH.cons rfl (fun K hK => ?_) ?_
          · go_simp
            refine hK.out _ _ ?_ (fun hHeld => ?_)
            · exact ⟨cell_ext (ext_trans HC3.out (ext_alloc w3 _)) d0, cell_ext (ext_trans HC3.out (ext_alloc w3 _)) d1, cell_ext (ext_trans HC3.out (ext_alloc w3 _)) d2⟩
            clear hK K
            (try dsimp only [Act.put, List.setIfInBounds_toArray, List.set_cons_zero, List.set_cons_succ])
            have r1 := cell_ext (ext_alloc w3 (.cells #[.string ⟨#[]⟩, .string ⟨#[44, 32, 110, 101, 120, 116]⟩, .string ⟨#[44, 32, 98, 101, 102, 111, 114, 101]⟩] 9)) r0
            refine wpAnyH_take (i := 13) (v := ?_) rfl (by kernel_rfl) (by kernel_rfl) (by kernel_rfl) (fun _ _ _ h => h) (Or.inl ⟨by rfl, ?_⟩) (by assumption) ?_
            rotate_left
            · intro w hSw; (try dsimp only at hSw); go_simp; try with_reducible rfl
            (try dsimp only [Act.put, List.setIfInBounds_toArray, List.set_cons_zero, List.set_cons_succ])
            refine wpAnyH_ready (rs := [14]) (by kernel_rfl) (by simp) ?_
            refine AllReadyH.cons rfl (fun K hK => ?_) ?_
            · go_simp
              refine hK.out _ _ ?_ (fun hHeld => ?_)
              · exact ⟨cell_ext (ext_trans HC3.out (ext_alloc w3 _)) d0, cell_ext (ext_trans HC3.out (ext_alloc w3 _)) d1, cell_ext (ext_trans HC3.out (ext_alloc w3 _)) d2⟩
              clear hK K
              (try dsimp only [Act.put, List.setIfInBounds_toArray, List.set_cons_zero, List.set_cons_succ])
              refine wpAnyH_ready (rs := [15]) (by kernel_rfl) (by simp) ?_
              refine AllReadyH.cons rfl (fun K hK => ?_) ?_
              · go_simp
                refine hK.out _ _ ?_ (fun hHeld => ?_)
                · exact ⟨cell_ext (ext_trans HC3.out (ext_alloc w3 _)) d0, cell_ext (ext_trans HC3.out (ext_alloc w3 _)) d1, cell_ext (ext_trans HC3.out (ext_alloc w3 _)) d2⟩
                clear hK K
                (try dsimp only [Act.put, List.setIfInBounds_toArray, List.set_cons_zero, List.set_cons_succ])
                refine wpAnyH_ready (rs := [16]) (by kernel_rfl) (by simp) ?_
                refine AllReadyH.cons rfl (fun K hK => ?_) ?_
                · go_simp
                  refine hK.out _ _ ?_ (fun hHeld => ?_)
                  · exact ⟨cell_ext (ext_trans HC3.out (ext_alloc w3 _)) d0, cell_ext (ext_trans HC3.out (ext_alloc w3 _)) d1, cell_ext (ext_trans HC3.out (ext_alloc w3 _)) d2⟩
                  clear hK K
                  (try dsimp only [Act.put, List.setIfInBounds_toArray, List.set_cons_zero, List.set_cons_succ])
                  refine wpAnyH_done (by kernel_rfl) ?_ _
                  go_wp2_with fail
                  go_ret
                  exact ⟨congrArg (fun x => Ending.returned (.string x)) (tt_app l (wd u) 2 ⟨#[44, 32, 98, 101, 102, 111, 114, 101]⟩ rfl), ext_trans HB1.out (ext_trans HC3.out (ext_alloc w3 _))⟩
                exact AllReadyH.nil
              exact AllReadyH.nil
            exact AllReadyH.nil
          exact AllReadyH.nil
        refine AllReadyH.cons rfl (fun K hK => ?_) ?_
        · go_simp
          refine hK.out _ _ ?_ (fun hHeld => ?_)
          · exact ⟨cell_ext (ext_trans HC3.out (ext_alloc w3 _)) d0, cell_ext (ext_trans HC3.out (ext_alloc w3 _)) d1, cell_ext (ext_trans HC3.out (ext_alloc w3 _)) d2⟩
          clear hK K
          (try dsimp only [Act.put, List.setIfInBounds_toArray, List.set_cons_zero, List.set_cons_succ])
          have r1 := cell_ext (ext_alloc w3 (.cells #[.string ⟨#[]⟩, .string ⟨#[44, 32, 110, 101, 120, 116]⟩, .string ⟨#[44, 32, 98, 101, 102, 111, 114, 101]⟩] 9)) r0
          refine wpAnyH_take (i := 13) (v := ?_) rfl (by kernel_rfl) (by kernel_rfl) (by kernel_rfl) (fun _ _ _ h => h) (Or.inl ⟨by rfl, ?_⟩) (by assumption) ?_
          rotate_left
          · intro w hSw; (try dsimp only at hSw); go_simp; try with_reducible rfl
          (try dsimp only [Act.put, List.setIfInBounds_toArray, List.set_cons_zero, List.set_cons_succ])
          refine wpAnyH_ready (rs := [8, 14]) (by kernel_rfl) (by simp) ?_
          refine AllReadyH.cons rfl (fun K hK => ?_) ?_
          · go_simp
            refine hK.out _ _ ?_ (fun hHeld => ?_)
            · exact ⟨cell_ext (ext_trans HC3.out (ext_alloc w3 _)) d0, cell_ext (ext_trans HC3.out (ext_alloc w3 _)) d1, cell_ext (ext_trans HC3.out (ext_alloc w3 _)) d2⟩
            clear hK K
            (try dsimp only [Act.put, List.setIfInBounds_toArray, List.set_cons_zero, List.set_cons_succ])
            refine wpAnyH_take (i := 9) (v := ?_) rfl (by kernel_rfl) (by kernel_rfl) (by kernel_rfl) (fun _ _ _ h => h) (Or.inl ⟨by rfl, ?_⟩) (by assumption) ?_
            rotate_left
            · intro w hSw; (try dsimp only at hSw); go_simp; try with_reducible rfl
            (try dsimp only [Act.put, List.setIfInBounds_toArray, List.set_cons_zero, List.set_cons_succ])
            refine wpAnyH_ready (rs := [14]) (by kernel_rfl) (by simp) ?_
            refine AllReadyH.cons rfl (fun K hK => ?_) ?_
            · go_simp
              refine hK.out _ _ ?_ (fun hHeld => ?_)
              · exact ⟨cell_ext (ext_trans HC3.out (ext_alloc w3 _)) d0, cell_ext (ext_trans HC3.out (ext_alloc w3 _)) d1, cell_ext (ext_trans HC3.out (ext_alloc w3 _)) d2⟩
              clear hK K
              (try dsimp only [Act.put, List.setIfInBounds_toArray, List.set_cons_zero, List.set_cons_succ])
              refine wpAnyH_ready (rs := [15]) (by kernel_rfl) (by simp) ?_
              refine AllReadyH.cons rfl (fun K hK => ?_) ?_
              · go_simp
                refine hK.out _ _ ?_ (fun hHeld => ?_)
                · exact ⟨cell_ext (ext_trans HC3.out (ext_alloc w3 _)) d0, cell_ext (ext_trans HC3.out (ext_alloc w3 _)) d1, cell_ext (ext_trans HC3.out (ext_alloc w3 _)) d2⟩
                clear hK K
                (try dsimp only [Act.put, List.setIfInBounds_toArray, List.set_cons_zero, List.set_cons_succ])
                refine wpAnyH_ready (rs := [16]) (by kernel_rfl) (by simp) ?_
                refine AllReadyH.cons rfl (fun K hK => ?_) ?_
                · go_simp
                  refine hK.out _ _ ?_ (fun hHeld => ?_)
                  · exact ⟨cell_ext (ext_trans HC3.out (ext_alloc w3 _)) d0, cell_ext (ext_trans HC3.out (ext_alloc w3 _)) d1, cell_ext (ext_trans HC3.out (ext_alloc w3 _)) d2⟩
                  clear hK K
                  (try dsimp only [Act.put, List.setIfInBounds_toArray, List.set_cons_zero, List.set_cons_succ])
                  refine wpAnyH_done (by kernel_rfl) ?_ _
                  go_wp2_with fail
                  go_ret
                  exact ⟨congrArg (fun x => Ending.returned (.string x)) (tt_app l (wd u) 2 ⟨#[44, 32, 98, 101, 102, 111, 114, 101]⟩ rfl), ext_trans HB1.out (ext_trans HC3.out (ext_alloc w3 _))⟩
                exact AllReadyH.nil
              exact AllReadyH.nil
            exact AllReadyH.nil
          refine AllReadyH.cons rfl (fun K hK => ?_) ?_
          · go_simp
            refine hK.out _ _ ?_ (fun hHeld => ?_)
            · exact ⟨cell_ext (ext_trans HC3.out (ext_alloc w3 _)) d0, cell_ext (ext_trans HC3.out (ext_alloc w3 _)) d1, cell_ext (ext_trans HC3.out (ext_alloc w3 _)) d2⟩
            clear hK K
            (try dsimp only [Act.put, List.setIfInBounds_toArray, List.set_cons_zero, List.set_cons_succ])
            refine wpAnyH_ready (rs := [8]) (by kernel_rfl) (by simp) ?_
            refine AllReadyH.cons rfl (fun K hK => ?_) ?_
            · go_simp
              refine hK.out _ _ ?_ (fun hHeld => ?_)
              · exact ⟨cell_ext (ext_trans HC3.out (ext_alloc w3 _)) d0, cell_ext (ext_trans HC3.out (ext_alloc w3 _)) d1, cell_ext (ext_trans HC3.out (ext_alloc w3 _)) d2⟩
              clear hK K
              (try dsimp only [Act.put, List.setIfInBounds_toArray, List.set_cons_zero, List.set_cons_succ])
              refine wpAnyH_take (i := 9) (v := ?_) rfl (by kernel_rfl) (by kernel_rfl) (by kernel_rfl) (fun _ _ _ h => h) (Or.inl ⟨by rfl, ?_⟩) (by assumption) ?_
              rotate_left
              · intro w hSw; (try dsimp only at hSw); go_simp; try with_reducible rfl
              (try dsimp only [Act.put, List.setIfInBounds_toArray, List.set_cons_zero, List.set_cons_succ])
              refine wpAnyH_ready (rs := [15]) (by kernel_rfl) (by simp) ?_
              refine AllReadyH.cons rfl (fun K hK => ?_) ?_
              · go_simp
                refine hK.out _ _ ?_ (fun hHeld => ?_)
                · exact ⟨cell_ext (ext_trans HC3.out (ext_alloc w3 _)) d0, cell_ext (ext_trans HC3.out (ext_alloc w3 _)) d1, cell_ext (ext_trans HC3.out (ext_alloc w3 _)) d2⟩
                clear hK K
                (try dsimp only [Act.put, List.setIfInBounds_toArray, List.set_cons_zero, List.set_cons_succ])
                refine wpAnyH_ready (rs := [16]) (by kernel_rfl) (by simp) ?_
                refine AllReadyH.cons rfl (fun K hK => ?_) ?_
                · go_simp
                  refine hK.out _ _ ?_ (fun hHeld => ?_)
                  · exact ⟨cell_ext (ext_trans HC3.out (ext_alloc w3 _)) d0, cell_ext (ext_trans HC3.out (ext_alloc w3 _)) d1, cell_ext (ext_trans HC3.out (ext_alloc w3 _)) d2⟩
                  clear hK K
                  (try dsimp only [Act.put, List.setIfInBounds_toArray, List.set_cons_zero, List.set_cons_succ])
                  refine wpAnyH_done (by kernel_rfl) ?_ _
                  go_wp2_with fail
                  go_ret
                  exact ⟨congrArg (fun x => Ending.returned (.string x)) (tt_app l (wd u) 2 ⟨#[44, 32, 98, 101, 102, 111, 114, 101]⟩ rfl), ext_trans HB1.out (ext_trans HC3.out (ext_alloc w3 _))⟩
                exact AllReadyH.nil
              exact AllReadyH.nil
            exact AllReadyH.nil
          exact AllReadyH.nil
        exact AllReadyH.nil
      refine AllReadyH.cons rfl (fun K hK => ?_) ?_
      · go_simp
        refine hK.out _ _ ?_ (fun hHeld => ?_)
        · exact ⟨cell_ext (ext_trans HC2.out (ext_alloc w2 _)) d0, cell_ext (ext_trans HC2.out (ext_alloc w2 _)) d1, cell_ext (ext_trans HC2.out (ext_alloc w2 _)) d2⟩
        clear hK K
        (try dsimp only [Act.put, List.setIfInBounds_toArray, List.set_cons_zero, List.set_cons_succ])
        refine wpAnyH_take (i := 13) (v := ?_) rfl (by kernel_rfl) (by kernel_rfl) (by kernel_rfl) (fun _ _ _ h => h) (Or.inl ⟨by rfl, ?_⟩) (by assumption) ?_
        rotate_left
        · intro w hSw; (try dsimp only at hSw); go_simp; try with_reducible rfl
        (try dsimp only [Act.put, List.setIfInBounds_toArray, List.set_cons_zero, List.set_cons_succ])
        refine wpAnyH_ready (rs := [4, 14]) (by kernel_rfl) (by simp) ?_
        refine AllReadyH.cons rfl (fun K hK => ?_) ?_
        · go_simp
          go_at_call 79
          refine (units_any _).mono ?_
          rintro e w3 ⟨B, rfl, hU, hb3⟩
          have HC3 := Lib.hid (ext_trans (ext_trans HC2.out (ext_alloc w2 _)) hb3)
          have r0 := hU u (by omega)
          unfold strV at r0
          have q3 := cell_ext hb3 (show (w2.alloc (.cells #[.string ⟨#[]⟩, .string ⟨#[44, 32, 110, 101, 120, 116]⟩, .string ⟨#[44, 32, 98, 101, 102, 111, 114, 101]⟩] 9)).cell? ⟨w2.heap.size, 2, none⟩ = some (.string ⟨#[44, 32, 98, 101, 102, 111, 114, 101]⟩) from World.cell?_alloc_at _ _ _ _ rfl)
          clear hU hb3
          go_wp2_with fail
          refine hK.out _ _ ?_ (fun hHeld => ?_)
          · exact ⟨cell_ext HC3.out d0, cell_ext HC3.out d1, cell_ext HC3.out d2⟩
          clear hK K
          (try dsimp only [Act.put, List.setIfInBounds_toArray, List.set_cons_zero, List.set_cons_succ])
          refine wpAnyH_take (i := 7) (v := ?_) rfl (by kernel_rfl) (by kernel_rfl) (by kernel_rfl) (fun _ _ _ h => h) (Or.inl ⟨by rfl, ?_⟩) (by assumption) ?_
          rotate_left
          · intro w hSw; (try dsimp only at hSw); go_simp; try with_reducible rfl
          (try dsimp only [Act.put, List.setIfInBounds_toArray, List.set_cons_zero, List.set_cons_succ])
          refine wpAnyH_ready (rs := [8, 14]) (by kernel_rfl) (by simp) ?_
          refine AllReadyH.cons rfl (fun K hK => ?_) ?_
          · go_simp
            refine hK.out _ _ ?_ (fun hHeld => ?_)
            · exact ⟨cell_ext HC3.out d0, cell_ext HC3.out d1, cell_ext HC3.out d2⟩
            clear hK K
            (try dsimp only [Act.put, List.setIfInBounds_toArray, List.set_cons_zero, List.set_cons_succ])
            refine wpAnyH_take (i := 9) (v := ?_) rfl (by kernel_rfl) (by kernel_rfl) (by kernel_rfl) (fun _ _ _ h => h) (Or.inl ⟨by rfl, ?_⟩) (by assumption) ?_
            rotate_left
            · intro w hSw; (try dsimp only at hSw); go_simp; try with_reducible rfl
            (try dsimp only [Act.put, List.setIfInBounds_toArray, List.set_cons_zero, List.set_cons_succ])
            refine wpAnyH_ready (rs := [14]) (by kernel_rfl) (by simp) ?_
            refine AllReadyH.cons rfl (fun K hK => ?_) ?_
            · go_simp
              refine hK.out _ _ ?_ (fun hHeld => ?_)
              · exact ⟨cell_ext HC3.out d0, cell_ext HC3.out d1, cell_ext HC3.out d2⟩
              clear hK K
              (try dsimp only [Act.put, List.setIfInBounds_toArray, List.set_cons_zero, List.set_cons_succ])
              refine wpAnyH_ready (rs := [15]) (by kernel_rfl) (by simp) ?_
              refine AllReadyH.cons rfl (fun K hK => ?_) ?_
              · go_simp
                refine hK.out _ _ ?_ (fun hHeld => ?_)
                · exact ⟨cell_ext HC3.out d0, cell_ext HC3.out d1, cell_ext HC3.out d2⟩
                clear hK K
                (try dsimp only [Act.put, List.setIfInBounds_toArray, List.set_cons_zero, List.set_cons_succ])
                refine wpAnyH_ready (rs := [16]) (by kernel_rfl) (by simp) ?_
                refine AllReadyH.cons rfl (fun K hK => ?_) ?_
                · go_simp
                  refine hK.out _ _ ?_ (fun hHeld => ?_)
                  · exact ⟨cell_ext HC3.out d0, cell_ext HC3.out d1, cell_ext HC3.out d2⟩
                  clear hK K
                  (try dsimp only [Act.put, List.setIfInBounds_toArray, List.set_cons_zero, List.set_cons_succ])
                  refine wpAnyH_done (by kernel_rfl) ?_ _
                  go_wp2_with fail
                  go_ret
                  exact ⟨congrArg (fun x => Ending.returned (.string x)) (tt_app l (wd u) 2 ⟨#[44, 32, 98, 101, 102, 111, 114, 101]⟩ rfl), ext_trans HB1.out HC3.out⟩
                exact AllReadyH.nil
              exact AllReadyH.nil
            exact AllReadyH.nil
          refine AllReadyH.cons rfl (fun K hK => ?_) ?_
          · go_simp
            refine hK.out _ _ ?_ (fun hHeld => ?_)
            · exact ⟨cell_ext HC3.out d0, cell_ext HC3.out d1, cell_ext HC3.out d2⟩
            clear hK K
            (try dsimp only [Act.put, List.setIfInBounds_toArray, List.set_cons_zero, List.set_cons_succ])
            refine wpAnyH_ready (rs := [8]) (by kernel_rfl) (by simp) ?_
            refine AllReadyH.cons rfl (fun K hK => ?_) ?_
            · go_simp
              refine hK.out _ _ ?_ (fun hHeld => ?_)
              · exact ⟨cell_ext HC3.out d0, cell_ext HC3.out d1, cell_ext HC3.out d2⟩
              clear hK K
              (try dsimp only [Act.put, List.setIfInBounds_toArray, List.set_cons_zero, List.set_cons_succ])
              refine wpAnyH_take (i := 9) (v := ?_) rfl (by kernel_rfl) (by kernel_rfl) (by kernel_rfl) (fun _ _ _ h => h) (Or.inl ⟨by rfl, ?_⟩) (by assumption) ?_
              rotate_left
              · intro w hSw; (try dsimp only at hSw); go_simp; try with_reducible rfl
              (try dsimp only [Act.put, List.setIfInBounds_toArray, List.set_cons_zero, List.set_cons_succ])
              refine wpAnyH_ready (rs := [15]) (by kernel_rfl) (by simp) ?_
              refine AllReadyH.cons rfl (fun K hK => ?_) ?_
              · go_simp
                refine hK.out _ _ ?_ (fun hHeld => ?_)
                · exact ⟨cell_ext HC3.out d0, cell_ext HC3.out d1, cell_ext HC3.out d2⟩
                clear hK K
                (try dsimp only [Act.put, List.setIfInBounds_toArray, List.set_cons_zero, List.set_cons_succ])
                refine wpAnyH_ready (rs := [16]) (by kernel_rfl) (by simp) ?_
                refine AllReadyH.cons rfl (fun K hK => ?_) ?_
                · go_simp
                  refine hK.out _ _ ?_ (fun hHeld => ?_)
                  · exact ⟨cell_ext HC3.out d0, cell_ext HC3.out d1, cell_ext HC3.out d2⟩
                  clear hK K
                  (try dsimp only [Act.put, List.setIfInBounds_toArray, List.set_cons_zero, List.set_cons_succ])
                  refine wpAnyH_done (by kernel_rfl) ?_ _
                  go_wp2_with fail
                  go_ret
                  exact ⟨congrArg (fun x => Ending.returned (.string x)) (tt_app l (wd u) 2 ⟨#[44, 32, 98, 101, 102, 111, 114, 101]⟩ rfl), ext_trans HB1.out HC3.out⟩
                exact AllReadyH.nil
              exact AllReadyH.nil
            exact AllReadyH.nil
          exact AllReadyH.nil
        refine AllReadyH.cons rfl (fun K hK => ?_) ?_
        · go_simp
          refine hK.out _ _ ?_ (fun hHeld => ?_)
          · exact ⟨cell_ext (ext_trans HC2.out (ext_alloc w2 _)) d0, cell_ext (ext_trans HC2.out (ext_alloc w2 _)) d1, cell_ext (ext_trans HC2.out (ext_alloc w2 _)) d2⟩
          clear hK K
          (try dsimp only [Act.put, List.setIfInBounds_toArray, List.set_cons_zero, List.set_cons_succ])
          refine wpAnyH_ready (rs := [4]) (by kernel_rfl) (by simp) ?_
          refine AllReadyH.cons rfl (fun K hK => ?_) ?_
          · go_simp
            go_at_call 79
            refine (units_any _).mono ?_
            rintro e w3 ⟨B, rfl, hU, hb3⟩
            have HC3 := Lib.hid (ext_trans (ext_trans HC2.out (ext_alloc w2 _)) hb3)
            have r0 := hU u (by omega)
            unfold strV at r0
            have q3 := cell_ext hb3 (show (w2.alloc (.cells #[.string ⟨#[]⟩, .string ⟨#[44, 32, 110, 101, 120, 116]⟩, .string ⟨#[44, 32, 98, 101, 102, 111, 114, 101]⟩] 9)).cell? ⟨w2.heap.size, 2, none⟩ = some (.string ⟨#[44, 32, 98, 101, 102, 111, 114, 101]⟩) from World.cell?_alloc_at _ _ _ _ rfl)
            clear hU hb3
            go_wp2_with fail
            refine hK.out _ _ ?_ (fun hHeld => ?_)
            · exact ⟨cell_ext HC3.out d0, cell_ext HC3.out d1, cell_ext HC3.out d2⟩
            clear hK K
            (try dsimp only [Act.put, List.setIfInBounds_toArray, List.set_cons_zero, List.set_cons_succ])
            refine wpAnyH_take (i := 7) (v := ?_) rfl (by kernel_rfl) (by kernel_rfl) (by kernel_rfl) (fun _ _ _ h => h) (Or.inl ⟨by rfl, ?_⟩) (by assumption) ?_
            rotate_left
            · intro w hSw; (try dsimp only at hSw); go_simp; try with_reducible rfl
            (try dsimp only [Act.put, List.setIfInBounds_toArray, List.set_cons_zero, List.set_cons_succ])
            refine wpAnyH_ready (rs := [8]) (by kernel_rfl) (by simp) ?_
            refine AllReadyH.cons rfl (fun K hK => ?_) ?_
            · go_simp
              refine hK.out _ _ ?_ (fun hHeld => ?_)
              · exact ⟨cell_ext HC3.out d0, cell_ext HC3.out d1, cell_ext HC3.out d2⟩
              clear hK K
              (try dsimp only [Act.put, List.setIfInBounds_toArray, List.set_cons_zero, List.set_cons_succ])
              refine wpAnyH_take (i := 9) (v := ?_) rfl (by kernel_rfl) (by kernel_rfl) (by kernel_rfl) (fun _ _ _ h => h) (Or.inl ⟨by rfl, ?_⟩) (by assumption) ?_
              rotate_left
              · intro w hSw; (try dsimp only at hSw); go_simp; try with_reducible rfl
              (try dsimp only [Act.put, List.setIfInBounds_toArray, List.set_cons_zero, List.set_cons_succ])
              refine wpAnyH_ready (rs := [15]) (by kernel_rfl) (by simp) ?_
              refine AllReadyH.cons rfl (fun K hK => ?_) ?_
              · go_simp
                refine hK.out _ _ ?_ (fun hHeld => ?_)
                · exact ⟨cell_ext HC3.out d0, cell_ext HC3.out d1, cell_ext HC3.out d2⟩
                clear hK K
                (try dsimp only [Act.put, List.setIfInBounds_toArray, List.set_cons_zero, List.set_cons_succ])
                refine wpAnyH_ready (rs := [16]) (by kernel_rfl) (by simp) ?_
                refine AllReadyH.cons rfl (fun K hK => ?_) ?_
                · go_simp
                  refine hK.out _ _ ?_ (fun hHeld => ?_)
                  · exact ⟨cell_ext HC3.out d0, cell_ext HC3.out d1, cell_ext HC3.out d2⟩
                  clear hK K
                  (try dsimp only [Act.put, List.setIfInBounds_toArray, List.set_cons_zero, List.set_cons_succ])
                  refine wpAnyH_done (by kernel_rfl) ?_ _
                  go_wp2_with fail
                  go_ret
                  exact ⟨congrArg (fun x => Ending.returned (.string x)) (tt_app l (wd u) 2 ⟨#[44, 32, 98, 101, 102, 111, 114, 101]⟩ rfl), ext_trans HB1.out HC3.out⟩
                exact AllReadyH.nil
              exact AllReadyH.nil
            exact AllReadyH.nil
          exact AllReadyH.nil
        exact AllReadyH.nil
      exact AllReadyH.nil
    refine AllReadyH.cons rfl (fun K hK => ?_) ?_
    · go_simp
      refine hK.out _ _ ?_ (fun hHeld => ?_)
      · exact ⟨cell_ext (ext_trans (show Below w1.heap.size w1 w1.drew from ext_drewN w1 1) (ext_alloc w1.drew _)) d0, cell_ext (ext_trans (show Below w1.heap.size w1 w1.drew from ext_drewN w1 1) (ext_alloc w1.drew _)) d1, cell_ext (ext_trans (show Below w1.heap.size w1 w1.drew from ext_drewN w1 1) (ext_alloc w1.drew _)) d2⟩
      clear hK K
      (try dsimp only [Act.put, List.setIfInBounds_toArray, List.set_cons_zero, List.set_cons_succ])
      refine wpAnyH_take (i := 13) (v := ?_) rfl (by kernel_rfl) (by kernel_rfl) (by kernel_rfl) (fun _ _ _ h => h) (Or.inl ⟨by rfl, ?_⟩) (by assumption) ?_
      rotate_left
      · intro w hSw; (try dsimp only at hSw); go_simp; try with_reducible rfl
      (try dsimp only [Act.put, List.setIfInBounds_toArray, List.set_cons_zero, List.set_cons_succ])
      refine wpAnyH_ready (rs := [2, 14]) (by kernel_rfl) (by simp) ?_
      refine AllReadyH.cons rfl (fun K hK => ?_) ?_
      · go_simp
        go_at_call 85
        refine (HI.out _ (HP1.out.ext (ext_trans (show Below w1.heap.size w1 w1.drew from ext_drewN w1 1) (ext_alloc w1.drew _)))).mono ?_
        rintro e w2 ⟨rfl, hb2⟩
        have HC2 := Lib.hid (ext_trans (ext_trans (show Below w1.heap.size w1 w1.drew from ext_drewN w1 1) (ext_alloc w1.drew _)) hb2)
        have q2 := cell_ext hb2 (show (w1.drew.alloc (.cells #[.string ⟨#[]⟩, .string ⟨#[44, 32, 110, 101, 120, 116]⟩, .string ⟨#[44, 32, 98, 101, 102, 111, 114, 101]⟩] 9)).cell? ⟨w1.heap.size, 2, none⟩ = some (.string ⟨#[44, 32, 98, 101, 102, 111, 114, 101]⟩) from World.cell?_alloc_at _ _ _ _ rfl)
        clear hb2
        go_wp2_with fail
        refine hK.out _ _ ?_ (fun hHeld => ?_)
        · exact ⟨cell_ext HC2.out d0, cell_ext HC2.out d1, cell_ext HC2.out d2⟩
        clear hK K
        (try dsimp only [Act.put, List.setIfInBounds_toArray, List.set_cons_zero, List.set_cons_succ])
        refine wpAnyH_take (i := 3) (v := ?_) rfl (by kernel_rfl) (by kernel_rfl) (by kernel_rfl) (fun _ _ _ h => h) (Or.inl ⟨by rfl, ?_⟩) (by assumption) ?_
        rotate_left
        · intro w hSw; (try dsimp only at hSw); go_simp; try with_reducible rfl
        (try dsimp only [Act.put, List.setIfInBounds_toArray, List.set_cons_zero, List.set_cons_succ])
        refine wpAnyH_ready (rs := [4, 14]) (by kernel_rfl) (by simp) ?_
        refine AllReadyH.cons rfl (fun K hK => ?_) ?_
        · go_simp
          go_at_call 79
          refine (units_any _).mono ?_
          rintro e w3 ⟨B, rfl, hU, hb3⟩
          have HC3 := Lib.hid (ext_trans HC2.out hb3)
          have r0 := hU u (by omega)
          unfold strV at r0
          have q3 := cell_ext hb3 q2
          clear hU hb3
          go_wp2_with fail
          refine hK.out _ _ ?_ (fun hHeld => ?_)
          · exact ⟨cell_ext HC3.out d0, cell_ext HC3.out d1, cell_ext HC3.out d2⟩
          clear hK K
          (try dsimp only [Act.put, List.setIfInBounds_toArray, List.set_cons_zero, List.set_cons_succ])
          refine wpAnyH_take (i := 7) (v := ?_) rfl (by kernel_rfl) (by kernel_rfl) (by kernel_rfl) (fun _ _ _ h => h) (Or.inl ⟨by rfl, ?_⟩) (by assumption) ?_
          rotate_left
          · intro w hSw; (try dsimp only at hSw); go_simp; try with_reducible rfl
          (try dsimp only [Act.put, List.setIfInBounds_toArray, List.set_cons_zero, List.set_cons_succ])
          refine wpAnyH_ready (rs := [8, 14]) (by kernel_rfl) (by simp) ?_
          refine AllReadyH.cons rfl (fun K hK => ?_) ?_
          · go_simp
            refine hK.out _ _ ?_ (fun hHeld => ?_)
            · exact ⟨cell_ext HC3.out d0, cell_ext HC3.out d1, cell_ext HC3.out d2⟩
            clear hK K
            (try dsimp only [Act.put, List.setIfInBounds_toArray, List.set_cons_zero, List.set_cons_succ])
            refine wpAnyH_take (i := 9) (v := ?_) rfl (by kernel_rfl) (by kernel_rfl) (by kernel_rfl) (fun _ _ _ h => h) (Or.inl ⟨by rfl, ?_⟩) (by assumption) ?_
            rotate_left
            · intro w hSw; (try dsimp only at hSw); go_simp; try with_reducible rfl
            (try dsimp only [Act.put, List.setIfInBounds_toArray, List.set_cons_zero, List.set_cons_succ])
            refine wpAnyH_ready (rs := [14]) (by kernel_rfl) (by simp) ?_
            refine AllReadyH.cons rfl (fun K hK => ?_) ?_
            · go_simp
              refine hK.out _ _ ?_ (fun hHeld => ?_)
              · exact ⟨cell_ext HC3.out d0, cell_ext HC3.out d1, cell_ext HC3.out d2⟩
              clear hK K
              (try dsimp only [Act.put, List.setIfInBounds_toArray, List.set_cons_zero, List.set_cons_succ])
              refine wpAnyH_ready (rs := [15]) (by kernel_rfl) (by simp) ?_
              refine AllReadyH.cons rfl (fun K hK => ?_) ?_
              · go_simp
                refine hK.out _ _ ?_ (fun hHeld => ?_)
                · exact ⟨cell_ext HC3.out d0, cell_ext HC3.out d1, cell_ext HC3.out d2⟩
                clear hK K
                (try dsimp only [Act.put, List.setIfInBounds_toArray, List.set_cons_zero, List.set_cons_succ])
                refine wpAnyH_ready (rs := [16]) (by kernel_rfl) (by simp) ?_
                refine AllReadyH.cons rfl (fun K hK => ?_) ?_
                · go_simp
                  refine hK.out _ _ ?_ (fun hHeld => ?_)
                  · exact ⟨cell_ext HC3.out d0, cell_ext HC3.out d1, cell_ext HC3.out d2⟩
                  clear hK K
                  (try dsimp only [Act.put, List.setIfInBounds_toArray, List.set_cons_zero, List.set_cons_succ])
                  refine wpAnyH_done (by kernel_rfl) ?_ _
                  go_wp2_with fail
                  go_ret
                  exact ⟨congrArg (fun x => Ending.returned (.string x)) (tt_app l (wd u) 2 ⟨#[44, 32, 98, 101, 102, 111, 114, 101]⟩ rfl), ext_trans HB1.out HC3.out⟩
                exact AllReadyH.nil
              exact AllReadyH.nil
            exact AllReadyH.nil
          refine AllReadyH.cons rfl (fun K hK => ?_) ?_
          · go_simp
            refine hK.out _ _ ?_ (fun hHeld => ?_)
            · exact ⟨cell_ext HC3.out d0, cell_ext HC3.out d1, cell_ext HC3.out d2⟩
            clear hK K
            (try dsimp only [Act.put, List.setIfInBounds_toArray, List.set_cons_zero, List.set_cons_succ])
            refine wpAnyH_ready (rs := [8]) (by kernel_rfl) (by simp) ?_
            refine AllReadyH.cons rfl (fun K hK => ?_) ?_
            · go_simp
              refine hK.out _ _ ?_ (fun hHeld => ?_)
              · exact ⟨cell_ext HC3.out d0, cell_ext HC3.out d1, cell_ext HC3.out d2⟩
              clear hK K
              (try dsimp only [Act.put, List.setIfInBounds_toArray, List.set_cons_zero, List.set_cons_succ])
              refine wpAnyH_take (i := 9) (v := ?_) rfl (by kernel_rfl) (by kernel_rfl) (by kernel_rfl) (fun _ _ _ h => h) (Or.inl ⟨by rfl, ?_⟩) (by assumption) ?_
              rotate_left
              · intro w hSw; (try dsimp only at hSw); go_simp; try with_reducible rfl
              (try dsimp only [Act.put, List.setIfInBounds_toArray, List.set_cons_zero, List.set_cons_succ])
              refine wpAnyH_ready (rs := [15]) (by kernel_rfl) (by simp) ?_
              refine AllReadyH.cons rfl (fun K hK => ?_) ?_
              · go_simp
                refine hK.out _ _ ?_ (fun hHeld => ?_)
                · exact ⟨cell_ext HC3.out d0, cell_ext HC3.out d1, cell_ext HC3.out d2⟩
                clear hK K
                (try dsimp only [Act.put, List.setIfInBounds_toArray, List.set_cons_zero, List.set_cons_succ])
                refine wpAnyH_ready (rs := [16]) (by kernel_rfl) (by simp) ?_
                refine AllReadyH.cons rfl (fun K hK => ?_) ?_
                · go_simp
                  refine hK.out _ _ ?_ (fun hHeld => ?_)
                  · exact ⟨cell_ext HC3.out d0, cell_ext HC3.out d1, cell_ext HC3.out d2⟩
                  clear hK K
                  (try dsimp only [Act.put, List.setIfInBounds_toArray, List.set_cons_zero, List.set_cons_succ])
                  refine wpAnyH_done (by kernel_rfl) ?_ _
                  go_wp2_with fail
                  go_ret
                  exact ⟨congrArg (fun x => Ending.returned (.string x)) (tt_app l (wd u) 2 ⟨#[44, 32, 98, 101, 102, 111, 114, 101]⟩ rfl), ext_trans HB1.out HC3.out⟩
                exact AllReadyH.nil
              exact AllReadyH.nil
            exact AllReadyH.nil
          exact AllReadyH.nil
        refine AllReadyH.cons rfl (fun K hK => ?_) ?_
        · go_simp
          refine hK.out _ _ ?_ (fun hHeld => ?_)
          · exact ⟨cell_ext HC2.out d0, cell_ext HC2.out d1, cell_ext HC2.out d2⟩
          clear hK K
          (try dsimp only [Act.put, List.setIfInBounds_toArray, List.set_cons_zero, List.set_cons_succ])
          refine wpAnyH_ready (rs := [4]) (by kernel_rfl) (by simp) ?_
          refine AllReadyH.cons rfl (fun K hK => ?_) ?_
          · go_simp
            go_at_call 79
            refine (units_any _).mono ?_
            rintro e w3 ⟨B, rfl, hU, hb3⟩
            have HC3 := Lib.hid (ext_trans HC2.out hb3)
            have r0 := hU u (by omega)
            unfold strV at r0
            have q3 := cell_ext hb3 q2
            clear hU hb3
            go_wp2_with fail
            refine hK.out _ _ ?_ (fun hHeld => ?_)
            · exact ⟨cell_ext HC3.out d0, cell_ext HC3.out d1, cell_ext HC3.out d2⟩
            clear hK K
            (try dsimp only [Act.put, List.setIfInBounds_toArray, List.set_cons_zero, List.set_cons_succ])
            refine wpAnyH_take (i := 7) (v := ?_) rfl (by kernel_rfl) (by kernel_rfl) (by kernel_rfl) (fun _ _ _ h => h) (Or.inl ⟨by rfl, ?_⟩) (by assumption) ?_
            rotate_left
            · intro w hSw; (try dsimp only at hSw); go_simp; try with_reducible rfl
            (try dsimp only [Act.put, List.setIfInBounds_toArray, List.set_cons_zero, List.set_cons_succ])
            refine wpAnyH_ready (rs := [8]) (by kernel_rfl) (by simp) ?_
            refine AllReadyH.cons rfl (fun K hK => ?_) ?_
            · go_simp
              refine hK.out _ _ ?_ (fun hHeld => ?_)
              · exact ⟨cell_ext HC3.out d0, cell_ext HC3.out d1, cell_ext HC3.out d2⟩
              clear hK K
              (try dsimp only [Act.put, List.setIfInBounds_toArray, List.set_cons_zero, List.set_cons_succ])
              refine wpAnyH_take (i := 9) (v := ?_) rfl (by kernel_rfl) (by kernel_rfl) (by kernel_rfl) (fun _ _ _ h => h) (Or.inl ⟨by rfl, ?_⟩) (by assumption) ?_
              rotate_left
              · intro w hSw; (try dsimp only at hSw); go_simp; try with_reducible rfl
              (try dsimp only [Act.put, List.setIfInBounds_toArray, List.set_cons_zero, List.set_cons_succ])
              refine wpAnyH_ready (rs := [15]) (by kernel_rfl) (by simp) ?_
              refine AllReadyH.cons rfl (fun K hK => ?_) ?_
              · go_simp
                refine hK.out _ _ ?_ (fun hHeld => ?_)
                · exact ⟨cell_ext HC3.out d0, cell_ext HC3.out d1, cell_ext HC3.out d2⟩
                clear hK K
                (try dsimp only [Act.put, List.setIfInBounds_toArray, List.set_cons_zero, List.set_cons_succ])
                refine wpAnyH_ready (rs := [16]) (by kernel_rfl) (by simp) ?_
                refine AllReadyH.cons rfl (fun K hK => ?_) ?_
                · go_simp
                  refine hK.out _ _ ?_ (fun hHeld => ?_)
                  · exact ⟨cell_ext HC3.out d0, cell_ext HC3.out d1, cell_ext HC3.out d2⟩
                  clear hK K
                  (try dsimp only [Act.put, List.setIfInBounds_toArray, List.set_cons_zero, List.set_cons_succ])
                  refine wpAnyH_done (by kernel_rfl) ?_ _
                  go_wp2_with fail
                  go_ret
                  exact ⟨congrArg (fun x => Ending.returned (.string x)) (tt_app l (wd u) 2 ⟨#[44, 32, 98, 101, 102, 111, 114, 101]⟩ rfl), ext_trans HB1.out HC3.out⟩
                exact AllReadyH.nil
              exact AllReadyH.nil
            exact AllReadyH.nil
          exact AllReadyH.nil
        exact AllReadyH.nil
      refine AllReadyH.cons rfl (fun K hK => ?_) ?_
      · go_simp
        refine hK.out _ _ ?_ (fun hHeld => ?_)
        · exact ⟨cell_ext (ext_trans (show Below w1.heap.size w1 w1.drew from ext_drewN w1 1) (ext_alloc w1.drew _)) d0, cell_ext (ext_trans (show Below w1.heap.size w1 w1.drew from ext_drewN w1 1) (ext_alloc w1.drew _)) d1, cell_ext (ext_trans (show Below w1.heap.size w1 w1.drew from ext_drewN w1 1) (ext_alloc w1.drew _)) d2⟩
        clear hK K
        (try dsimp only [Act.put, List.setIfInBounds_toArray, List.set_cons_zero, List.set_cons_succ])
        refine wpAnyH_ready (rs := [2]) (by kernel_rfl) (by simp) ?_
        refine AllReadyH.cons rfl (fun K hK => ?_) ?_
        · go_simp
          go_at_call 85
          refine (HI.out _ (HP1.out.ext (ext_trans (show Below w1.heap.size w1 w1.drew from ext_drewN w1 1) (ext_alloc w1.drew _)))).mono ?_
          rintro e w2 ⟨rfl, hb2⟩
          have HC2 := Lib.hid (ext_trans (ext_trans (show Below w1.heap.size w1 w1.drew from ext_drewN w1 1) (ext_alloc w1.drew _)) hb2)
          have q2 := cell_ext hb2 (show (w1.drew.alloc (.cells #[.string ⟨#[]⟩, .string ⟨#[44, 32, 110, 101, 120, 116]⟩, .string ⟨#[44, 32, 98, 101, 102, 111, 114, 101]⟩] 9)).cell? ⟨w1.heap.size, 2, none⟩ = some (.string ⟨#[44, 32, 98, 101, 102, 111, 114, 101]⟩) from World.cell?_alloc_at _ _ _ _ rfl)
          clear hb2
          go_wp2_with fail
          refine hK.out _ _ ?_ (fun hHeld => ?_)
          · exact ⟨cell_ext HC2.out d0, cell_ext HC2.out d1, cell_ext HC2.out d2⟩
          clear hK K
          (try dsimp only [Act.put, List.setIfInBounds_toArray, List.set_cons_zero, List.set_cons_succ])
          refine wpAnyH_take (i := 3) (v := ?_) rfl (by kernel_rfl) (by kernel_rfl) (by kernel_rfl) (fun _ _ _ h => h) (Or.inl ⟨by rfl, ?_⟩) (by assumption) ?_
          rotate_left
          · intro w hSw; (try dsimp only at hSw); go_simp; try with_reducible rfl
          (try dsimp only [Act.put, List.setIfInBounds_toArray, List.set_cons_zero, List.set_cons_succ])
          refine wpAnyH_ready (rs := [4]) (by kernel_rfl) (by simp) ?_
          refine AllReadyH.cons rfl (fun K hK => ?_) ?_
          · go_simp
            go_at_call 79
            refine (units_any _).mono ?_
            rintro e w3 ⟨B, rfl, hU, hb3⟩
            have HC3 := Lib.hid (ext_trans HC2.out hb3)
            have r0 := hU u (by omega)
            unfold strV at r0
            have q3 := cell_ext hb3 q2
            clear hU hb3
            go_wp2_with fail
            refine hK.out _ _ ?_ (fun hHeld => ?_)
            · exact ⟨cell_ext HC3.out d0, cell_ext HC3.out d1, cell_ext HC3.out d2⟩
            clear hK K
            (try dsimp only [Act.put, List.setIfInBounds_toArray, List.set_cons_zero, List.set_cons_succ])
            refine wpAnyH_take (i := 7) (v := ?_) rfl (by kernel_rfl) (by kernel_rfl) (by kernel_rfl) (fun _ _ _ h => h) (Or.inl ⟨by rfl, ?_⟩) (by assumption) ?_
            rotate_left
            · intro w hSw; (try dsimp only at hSw); go_simp; try with_reducible rfl
            (try dsimp only [Act.put, List.setIfInBounds_toArray, List.set_cons_zero, List.set_cons_succ])
            refine wpAnyH_ready (rs := [8]) (by kernel_rfl) (by simp) ?_
            refine AllReadyH.cons rfl (fun K hK => ?_) ?_
            · go_simp
              refine hK.out _ _ ?_ (fun hHeld => ?_)
              · exact ⟨cell_ext HC3.out d0, cell_ext HC3.out d1, cell_ext HC3.out d2⟩
              clear hK K
              (try dsimp only [Act.put, List.setIfInBounds_toArray, List.set_cons_zero, List.set_cons_succ])
              refine wpAnyH_take (i := 9) (v := ?_) rfl (by kernel_rfl) (by kernel_rfl) (by kernel_rfl) (fun _ _ _ h => h) (Or.inl ⟨by rfl, ?_⟩) (by assumption) ?_
              rotate_left
              · intro w hSw; (try dsimp only at hSw); go_simp; try with_reducible rfl
              (try dsimp only [Act.put, List.setIfInBounds_toArray, List.set_cons_zero, List.set_cons_succ])
              refine wpAnyH_ready (rs := [15]) (by kernel_rfl) (by simp) ?_
              refine AllReadyH.cons rfl (fun K hK => ?_) ?_
              · go_simp
                refine hK.out _ _ ?_ (fun hHeld => ?_)
                · exact ⟨cell_ext HC3.out d0, cell_ext HC3.out d1, cell_ext HC3.out d2⟩
                clear hK K
                (try dsimp only [Act.put, List.setIfInBounds_toArray, List.set_cons_zero, List.set_cons_succ])
                refine wpAnyH_ready (rs := [16]) (by kernel_rfl) (by simp) ?_
                refine AllReadyH.cons rfl (fun K hK => ?_) ?_
                · go_simp
                  refine hK.out _ _ ?_ (fun hHeld => ?_)
                  · exact ⟨cell_ext HC3.out d0, cell_ext HC3.out d1, cell_ext HC3.out d2⟩
                  clear hK K
                  (try dsimp only [Act.put, List.setIfInBounds_toArray, List.set_cons_zero, List.set_cons_succ])
                  refine wpAnyH_done (by kernel_rfl) ?_ _
                  go_wp2_with fail
                  go_ret
                  exact ⟨congrArg (fun x => Ending.returned (.string x)) (tt_app l (wd u) 2 ⟨#[44, 32, 98, 101, 102, 111, 114, 101]⟩ rfl), ext_trans HB1.out HC3.out⟩
                exact AllReadyH.nil
              exact AllReadyH.nil
            exact AllReadyH.nil
          exact AllReadyH.nil
        exact AllReadyH.nil
      exact AllReadyH.nil
    exact AllReadyH.nil
end Go.Proofs.YtpbmamcmmogidaaDoor.Tm

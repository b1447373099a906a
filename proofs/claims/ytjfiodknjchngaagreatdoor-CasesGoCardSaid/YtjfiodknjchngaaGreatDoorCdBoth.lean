/- statutelaw1.both: the two calendars of plain data. statutelaw5.both: the two calendars of plain data. The law DayWorks answers true: the walk of the law. -/
import Derived.Test.YtjfiodknjchngaaGreatDoorCdCount
import Derived.Test.YtjfiodknjchngaaGreatDoorApp
import Derived.Test.YtjfiodknjchngaaGreatDoorLawT
import Derived.Deep.RegionHeld3
import Derived.StillTailTactics
namespace Go.Proofs.YtjfiodknjchngaaGreatDoor.CdM
open Go.RowKit Mem CdP MapSet Solve CdR Day Nest RefDay App Thm

theorem int_info : (Tryz.prog.info? 3).map (fun i => (i.zero, i.size, i.bytes)) = some (some (.int .i64 0), 1, 8) := by kernel_rfl
theorem ints_one (zs : List Int) : ∀ u ∈ ints zs, u.oneCell' = true := fun u hu => by
  obtain ⟨z, _, rfl⟩ := List.mem_map.1 hu
  rfl
def pad (offs : List Bool) : List Bool := [offs.getD 0 false, offs.getD 1 false, offs.getD 2 false, offs.getD 3 false, offs.getD 4 false, offs.getD 5 false, offs.getD 6 false]
def cdOf (offs : List Bool) (hol : List Int) : Cd := ⟨pad offs, hol, rfl⟩
/-- truth values' cells -/
def bls (G : List Bool) : List Value := G.map Value.bool
/-- the flags that have been copied -/
def flag (offs : List Bool) (i j : Nat) : Value := .bool (if j < i then offs.getD j false else false)
def boxCells (offs : List Bool) (i : Nat) (L : Value) : List Value := [flag offs i 0, flag offs i 1, flag offs i 2, flag offs i 3, flag offs i 4, flag offs i 5, flag offs i 6, L]
theorem box_zero (offs : List Bool) : boxCells offs 0 (.slice none 0 0) = [.bool false, .bool false, .bool false, .bool false, .bool false, .bool false, .bool false, .slice none 0 0] := by simp [boxCells, flag]
theorem box_set (offs : List Bool) (i : Nat) (hi : i < 7) (L : Value) : (boxCells offs i L).set i (.bool (offs.getD i false)) = boxCells offs (i + 1) L := by
  have h : i = 0 ∨ i = 1 ∨ i = 2 ∨ i = 3 ∨ i = 4 ∨ i = 5 ∨ i = 6 := by omega
  rcases h with rfl | rfl | rfl | rfl | rfl | rfl | rfl <;> simp [boxCells, flag]
theorem box_get (offs : List Bool) (i j : Nat) (hj : j < 7) (L : Value) : (boxCells offs i L)[j]? = some (flag offs i j) := by
  have h : j = 0 ∨ j = 1 ∨ j = 2 ∨ j = 3 ∨ j = 4 ∨ j = 5 ∨ j = 6 := by omega
  rcases h with rfl | rfl | rfl | rfl | rfl | rfl | rfl <;> rfl
theorem box_cd {w : World} {B : Nat} {T : TypeId} {offs : List Bool} {i : Nat} {hol : List Int} {A : Option Addr} {c : Nat} (h : Blk w B T (boxCells offs i (.slice A hol.length c))) (hi : 7 ≤ i ∨ offs.length ≤ i) (hr : Rd w A (ints hol)) : CdA w B 0 (cdOf offs hol) A c := by
  have hf : ∀ j, j < 7 → flag offs i j = .bool (offs.getD j false) := fun j hj => by
    unfold flag
    by_cases c : j < i
    · rw [if_pos c]
    · rw [if_neg c]
      have : offs.length ≤ j := by omega
      simp [List.getD, this]
  refine ⟨fun j hj => ?_, ?_, hr⟩
  · have hc := h.cell j (box_get offs i j hj _)
    rw [hf j hj] at hc
    rw [Nat.zero_add, hc]
    have h : j = 0 ∨ j = 1 ∨ j = 2 ∨ j = 3 ∨ j = 4 ∨ j = 5 ∨ j = 6 := by omega
    rcases h with rfl | rfl | rfl | rfl | rfl | rfl | rfl <;> rfl
  · exact h.cell 7 rfl
def BothPost (c : Cd) (w : World) (e : Ending) (w' : World) : Prop :=
  ∃ (x y : Nat) (Ax : Option Addr) (cx : Nat) (Ay : Option Addr) (cy : Nat), e = .returned (.tuple #[.pointer (some ⟨x, 0, none⟩), .pointer (some ⟨y, 0, none⟩)]) ∧ CdA w' x 0 c Ax cx ∧ CdA w' y 0 c Ay cy ∧ Below w.heap.size w w'
end Go.Proofs.YtjfiodknjchngaaGreatDoor.CdM
namespace Go.Proofs.YtjfiodknjchngaaGreatDoor.CdM
open Go.RowKit Mem CdP MapSet Solve CdR Day Nest RefDay App Thm
set_option maxRecDepth 100000 in
set_option maxHeartbeats 4000000 in
theorem both5_any (offs : List Bool) (hol : List Int) (ho : offs.length ≤ 9223372036854775807) (hh : hol.length ≤ 1048576) (AO : Option Addr) (co : Nat) (AH : Option Addr) (ch : Nat) (hnil : AH = none → ch = 0) (w : World) (hO : Rd w AO (bls offs)) (hH : Rd w AH (ints hol)) :
    Calls Tryz.prog 7 #[.agg #[.slice AO offs.length co, .slice AH hol.length ch]] w (BothPost (cdOf offs hol) w) := by
  have x1 := ext_alloc w (.cells #[.slice AO offs.length co, .slice AH hol.length ch] 26)
  have x2 := ext_alloc (w.alloc (.cells #[.slice AO offs.length co, .slice AH hol.length ch] 26)) (.cells #[.bool false, .bool false, .bool false, .bool false, .bool false, .bool false, .bool false, .slice none 0 0] 99)
  have x3 := ext_alloc ((w.alloc (.cells #[.slice AO offs.length co, .slice AH hol.length ch] 26)).alloc (.cells #[.bool false, .bool false, .bool false, .bool false, .bool false, .bool false, .bool false, .slice none 0 0] 99)) (.cells #[.bool false, .bool false, .bool false, .bool false, .bool false, .bool false, .bool false, .slice none 0 0] 100)
  have HX := Lib.hid (ext_trans x1 (ext_trans x2 x3))
  have HA0 := Lib.hid (Sol.blk_ext (Blk.new w 26 [.slice AO offs.length co, .slice AH hol.length ch]) (ext_trans x2 x3))
  have HB0 := Lib.hid (show Blk _ (w.heap.size + 1) 99 (boxCells offs 0 (.slice none 0 0)) by
    rw [box_zero]
    have := Sol.blk_ext (Blk.new (w.alloc (.cells #[.slice AO offs.length co, .slice AH hol.length ch] 26)) 99 [.bool false, .bool false, .bool false, .bool false, .bool false, .bool false, .bool false, .slice none 0 0]) x3
    simpa using this)
  have HC0 := Lib.hid (show Blk (((w.alloc (.cells #[.slice AO offs.length co, .slice AH hol.length ch] 26)).alloc (.cells #[.bool false, .bool false, .bool false, .bool false, .bool false, .bool false, .bool false, .slice none 0 0] 99)).alloc (.cells #[.bool false, .bool false, .bool false, .bool false, .bool false, .bool false, .bool false, .slice none 0 0] 100)) (w.heap.size + 1 + 1) 100 (boxCells offs 0 (.slice none 0 0)) by
    rw [box_zero]
    have := Blk.new ((w.alloc (.cells #[.slice AO offs.length co, .slice AH hol.length ch] 26)).alloc (.cells #[.bool false, .bool false, .bool false, .bool false, .bool false, .bool false, .bool false, .slice none 0 0] 99)) 100 [.bool false, .bool false, .bool false, .bool false, .bool false, .bool false, .bool false, .slice none 0 0]
    simpa using this)
  have HOr := Lib.hid hO
  have HHr := Lib.hid hH
  have HNil := Lib.hid hnil
  obtain ⟨i0, hi, hz0, hz1, hz2⟩ := info_parts int_info
  have HI := Lib.hid hi
  have HI0 := Lib.hid hz0
  have HI1 := Lib.hid hz1
  have HI2 := Lib.hid hz2
  clear hi hz0 hz1 hz2 hO hH hnil x1 x2 x3
  go_enter Tryz.func7, Tryz.ntmps7
  go_wp2_with fail
  go_loopw [6] (fun t6 wr => ∃ i : Nat, t6 = .int .i64 i ∧ i ≤ 7 ∧ i ≤ offs.length ∧ Hid (Below w.heap.size w wr) ∧ Hid (Blk wr w.heap.size 26 [.slice AO offs.length co, .slice AH hol.length ch]) ∧ Hid (Blk wr (w.heap.size + 1) 99 (boxCells offs i (.slice none 0 0))) ∧ Hid (Blk wr (w.heap.size + 1 + 1) 100 (boxCells offs i (.slice none 0 0)))) (fun t6 _ => 7 - (intOf t6).toNat)
  case atStart => exact ⟨0, rfl, by omega, by omega, HX.out, HA0.out, HB0.out, HC0.out⟩
  case round =>
    clear HX HA0 HB0 HC0
    obtain ⟨i, rfl, hi, hil, HB, HA, HX, HY⟩ := hrel
    have a0 := HA.out.cell 0 rfl
    by_cases h7 : i < 7
    · have h7' : decide ((i : Int) < 7) = true := by simp; omega
      by_cases hlt : i < offs.length
      · have hlt' : decide ((i : Int) < (offs.length : Int)) = true := by simp; omega
        obtain ⟨b', o', rfl, hc⟩ := (HOr.out.ext HB.out).at_ (k := i) (by simpa [bls] using hlt)
        have hbl : b' < w.heap.size := by
          obtain ⟨b2, o2, e2, hc2⟩ := HOr.out.at_ (k := i) (by simpa [bls] using hlt)
          cases e2
          exact cell_lt hc2
        have hc2 : wr.cell? ⟨b', o' + i, none⟩ = some (.bool (offs.getD i false)) := by rw [hc]; simp [bls, List.getD, hlt]
        have HSet := Lib.hid (box_set offs i h7 (.slice none 0 0))
        have cx : wr.cell? ⟨w.heap.size + 1, i, none⟩ = some (flag offs i i) := HX.out.cell i (box_get offs i i h7 _)
        have cy : wr.cell? ⟨w.heap.size + 1 + 1, i, none⟩ = some (flag offs i i) := HY.out.cell i (box_get offs i i h7 _)
        have fx := HX.out.free i
        have fy := HY.out.free i
        have hne1 : b' ≠ w.heap.size + 1 := by omega
        have hne2 : b' ≠ w.heap.size + 1 + 1 := by omega
        have hne3 : w.heap.size ≠ w.heap.size + 1 := by omega
        have hne4 : w.heap.size ≠ w.heap.size + 1 + 1 := by omega
        have hne5 : w.heap.size + 1 + 1 ≠ w.heap.size + 1 := by omega
        clear hc
        generalize offs.getD i false = v at *
        generalize flag offs i i = u at *
        have hi7 : (i : Int) < 7 := by omega
        have hi0 : (0 : Int) ≤ i := by omega
        go_upto_region 6 with fail
        go_cut [] (fun wx => Hid (Below w.heap.size w wx) ∧ Hid (Blk wx w.heap.size 26 [.slice (some ⟨b', o', none⟩) offs.length co, .slice AH hol.length ch]) ∧ Hid (Blk wx (w.heap.size + 1) 99 (boxCells offs (i + 1) (.slice none 0 0))) ∧ Hid (Blk wx (w.heap.size + 1 + 1) 100 (boxCells offs i (.slice none 0 0))) ∧ Hid (wx.cell? ⟨b', o' + i, none⟩ = some (.bool v)))
        case first =>
          go_region_held3 (fun w' => w'.cell? ⟨w.heap.size, 0, none⟩ = some (.slice (some ⟨b', o', none⟩) offs.length co) ∧ w'.cell? ⟨b', o' + i, none⟩ = some (.bool v))
            ((first | exact ⟨a0, hc2⟩ | exact ⟨cell_set_other (show _ = _ from a0) hne3 _, cell_set_other (show _ = _ from hc2) hne1 _⟩))
            (fail)
          all_goals
            go_wp2_with fail
            go_meet
            exact ⟨((ext_trans HB.out (Below.refl _ _)).setCell (by simp) _).trans ((ext_drewN _ 1).mono (by simp only [World.size_setCell]; exact HB.out.size)), Sol.blk_ext (blk_set HA.out hne3 _) (ext_drewN _ 1), by show Blk _ _ _ _; rw [← HSet.out]; exact Sol.blk_ext (HX.out.set i _) (ext_drewN _ 1), Sol.blk_ext (blk_set HY.out hne5 _) (ext_drewN _ 1), cell_ext (ext_drewN _ 1) (cell_set_other hc2 hne1 _)⟩
        case rest =>
          clear HB HX HY HA a0 hc2 cx cy fx fy
          obtain ⟨HB, HA, HX, HY, HCe⟩ := hcut
          have a0 := HA.out.cell 0 rfl
          have hc2 := HCe.out
          have cy := HY.out.cell i (box_get offs i i h7 _)
          have fy := HY.out.free i
          go_upto_region 7 with fail
          go_region_held3 (fun w' => w'.cell? ⟨w.heap.size, 0, none⟩ = some (.slice (some ⟨b', o', none⟩) offs.length co) ∧ w'.cell? ⟨b', o' + i, none⟩ = some (.bool v))
            ((first | exact ⟨a0, hc2⟩ | exact ⟨cell_set_other (show _ = _ from a0) hne4 _, cell_set_other (show _ = _ from hc2) hne2 _⟩))
            (fail)
          all_goals
            go_wp2_with fail
            go_roundw
            case rel => exact ⟨i + 1, by go_num, by omega, by omega, ((ext_trans HB.out (Below.refl _ _)).setCell (by simp; omega) _).trans ((ext_drewN _ 1).mono (by simp only [World.size_setCell]; exact HB.out.size)), Sol.blk_ext (blk_set HA.out hne4 _) (ext_drewN _ 1), Sol.blk_ext (blk_set HX.out (Ne.symm hne5) _) (ext_drewN _ 1), by show Blk _ _ _ _; rw [← HSet.out]; exact Sol.blk_ext (HY.out.set i _) (ext_drewN _ 1)⟩
            case measure => simp [intOf]; omega
      · have hlt' : decide ((i : Int) < (offs.length : Int)) = false := by simp; omega
        have HEnd := Lib.hid (show 7 ≤ i ∨ offs.length ≤ i by omega)
        have a1 := HA.out.cell 1 rfl
        have x7 := HX.out.cell 7 rfl
        have x7f := HX.out.free 7
        have hsz : w.heap.size + 1 + 1 < wr.heap.size := HY.out.lt
        go_upto_region 8 with fail
        go_cut [] (fun wx => ∃ (A1 : Option Addr) (c1 : Nat), Hid (Below w.heap.size w wx) ∧ Hid (Blk wx w.heap.size 26 [.slice AO offs.length co, .slice AH hol.length ch]) ∧ Hid (Blk wx (w.heap.size + 1) 99 (boxCells offs i (.slice A1 hol.length c1))) ∧ Hid (Blk wx (w.heap.size + 1 + 1) 100 (boxCells offs i (.slice none 0 0))) ∧ Hid (wx.ownsRow wr.heap.size 3 1 (.slice A1 hol.length c1) hol.length (ints hol)))
        case first =>
          refine wp_region_held_drew (S := (fun w' => w'.cell? ⟨w.heap.size, 1, none⟩ = some (.slice AH hol.length ch))) (by kernel_rfl) ?_ (fun hHeld => ?_)
          · exact a1
          refine wpAnyH_take (i := 0) (v := ?_) rfl (by kernel_rfl) (by kernel_rfl) (by kernel_rfl) (fun _ _ _ h => h) (Or.inl ⟨by rfl, ?_⟩) (by assumption) ?_
          rotate_left
          · intro w hSw; (try dsimp only at hSw); go_simp; try with_reducible rfl
          (try dsimp only [Act.put, List.setIfInBounds_toArray, List.set_cons_zero, List.set_cons_succ])
          refine wpAnyH_take (i := 1) (v := ?_) rfl (by kernel_rfl) (by kernel_rfl) (by kernel_rfl) (fun _ _ _ h => h) (Or.inl ⟨by rfl, ?_⟩) (by assumption) ?_
          rotate_left
          · intro w hSw; (try dsimp only at hSw); go_simp; try with_reducible rfl
          (try dsimp only [Act.put, List.setIfInBounds_toArray, List.set_cons_zero, List.set_cons_succ])
          refine wpAnyH_take (i := 2) (v := ?_) rfl (by kernel_rfl) (by kernel_rfl) (by kernel_rfl) (fun _ _ _ h => h) (Or.inl ⟨by rfl, ?_⟩) (by assumption) ?_
          rotate_left
          · intro w hSw; (try dsimp only at hSw); go_simp; try with_reducible rfl
          (try dsimp only [Act.put, List.setIfInBounds_toArray, List.set_cons_zero, List.set_cons_succ])
          refine wpAnyH_take (i := 3) (v := ?_) rfl (by kernel_rfl) (by kernel_rfl) (by kernel_rfl) (fun _ _ _ h => h) (Or.inl ⟨by rfl, ?_⟩) (by assumption) ?_
          rotate_left
          · intro w hSw; (try dsimp only at hSw); go_simp; try with_reducible rfl
          (try dsimp only [Act.put, List.setIfInBounds_toArray, List.set_cons_zero, List.set_cons_succ])
          refine wpAnyH_take (i := 5) (v := ?_) rfl (by kernel_rfl) (by kernel_rfl) (by kernel_rfl) (fun _ _ _ h => h) (Or.inl ⟨by rfl, ?_⟩) (by assumption) ?_
          rotate_left
          · intro w hSw; (try dsimp only at hSw); go_simp; try with_reducible rfl
          (try dsimp only [Act.put, List.setIfInBounds_toArray, List.set_cons_zero, List.set_cons_succ])
          refine wpAnyH_take (i := 6) (v := ?_) rfl (by kernel_rfl) (by kernel_rfl) (by kernel_rfl) (fun _ _ _ h => h) (Or.inl ⟨by rfl, ?_⟩) (by assumption) ?_
          rotate_left
          · intro w hSw; (try dsimp only at hSw); go_simp; try with_reducible rfl
          (try dsimp only [Act.put, List.setIfInBounds_toArray, List.set_cons_zero, List.set_cons_succ])
          refine wpAnyH_ready (rs := [4]) (by kernel_rfl) (by simp) ?_
          refine AllReadyH.cons rfl (fun K hK => ?_) ?_
          · go_simp
            refine hK.out _ _ ?_ (fun hHeld => ?_)
            · exact a1
            clear hK K
            (try dsimp only [Act.put, List.setIfInBounds_toArray, List.set_cons_zero, List.set_cons_succ])
            refine wpAnyH_ready (rs := [7]) (by kernel_rfl) (by simp) ?_
            refine AllReadyH.cons rfl (fun K hK => ?_) ?_
            · refine step_append_rd _ (by rfl) _ _ _ (by rfl) wr.heap.size 3 i0 _ 1 8 Tryz.underlying24 HI.out HI0.out HI1.out HI2.out rfl (by omega) (.slice none 0 0) 0 [] (by rfl) (World.ownsRow_nil _ _ _ _) AH hol.length ch (ints hol) (by rfl) HNil.out (by simp [ints]) ((HHr.out.ext HB.out).ext (ext_drewN wr 1)) (ints_one hol) (by unfold maxLen; omega) (by omega) (Nat.le_refl _) ?_
              intro v1 w1 hown1 hg1
              obtain ⟨A1, c1, hv1, hc1⟩ := own_slice hown1
              subst hv1
              have HO1 := Lib.hid hown1
              have HBw := Lib.hid (ext_trans (ext_drewN wr 1) (LawT.ext_grown_nil hg1))
              have HZ1 := Lib.hid (Sol.blk_ext HX.out HBw.out)
              have z1 := HZ1.out.cell 7 rfl
              have z2 := HZ1.out.free 7
              have a2 := cell_ext HBw.out a1
              clear hown1 hg1
              refine hK.out _ _ ?_ (fun hHeld => ?_)
              · exact a2
              clear hK K
              (try dsimp only [Act.put, List.setIfInBounds_toArray, List.set_cons_zero, List.set_cons_succ])
              refine wpAnyH_take (i := 8) (v := ?_) rfl (by kernel_rfl) (by kernel_rfl) (by kernel_rfl) (fun _ _ _ h => h) (Or.inl ⟨by rfl, ?_⟩) (by assumption) ?_
              rotate_left
              · intro w hSw; (try dsimp only at hSw); go_simp; try with_reducible rfl
              (try dsimp only [Act.put, List.setIfInBounds_toArray, List.set_cons_zero, List.set_cons_succ])
              refine wpAnyH_take (i := 9) (v := ?_) rfl (by kernel_rfl) (by kernel_rfl) (by kernel_rfl) (fun _ _ _ h => h) (Or.inl ⟨by rfl, ?_⟩) (by assumption) ?_
              rotate_left
              · intro w hSw; (try dsimp only at hSw); go_simp; try with_reducible rfl
              (try dsimp only [Act.put, List.setIfInBounds_toArray, List.set_cons_zero, List.set_cons_succ])
              refine wpAnyH_ready (rs := [10]) (by kernel_rfl) (by simp) ?_
              refine AllReadyH.cons rfl (fun K hK => ?_) ?_
              · go_simp
                refine hK.out _ _ ?_ (fun hHeld => ?_)
                · exact cell_set_other a2 (by simp; try omega) _
                clear hK K
                (try dsimp only [Act.put, List.setIfInBounds_toArray, List.set_cons_zero, List.set_cons_succ])
                refine wpAnyH_done (by kernel_rfl) ?_ _
                go_wp2_with fail
                go_meet
                refine ⟨A1, c1, (ext_trans HB.out HBw.out).setCell (by simp) _, blk_set (Sol.blk_ext HA.out HBw.out) (by simp) _, ?_, blk_set (Sol.blk_ext HY.out HBw.out) (by simp) _, ?_⟩
                · have := HZ1.out.set 7 (.slice A1 (0 + hol.length) c1)
                  rw [Nat.zero_add] at this
                  exact this
                · have ho := ownsRow_setCell_below HO1.out (a := ⟨w.heap.size + 1, 7, none⟩) (by simp; omega) (.slice A1 (0 + hol.length) c1)
                  show World.ownsRow _ _ _ _ _ _ _
                  simpa using ho
              exact AllReadyH.nil
            exact AllReadyH.nil
          exact AllReadyH.nil
        case rest =>
          obtain ⟨w0, hw0⟩ : ∃ w0, w0 = wr := ⟨_, rfl⟩
          rw [← hw0] at hcut
          have HSz := Lib.hid (show w.heap.size + 1 + 1 < w0.heap.size from hw0 ▸ hsz)
          clear HB HX HY HA a1 x7 x7f hsz hw0
          obtain ⟨AX, cX, HB, HA, HX, HY, HO⟩ := hcut
          have a1 := HA.out.cell 1 rfl
          have x7 := HY.out.cell 7 rfl
          have x7f := HY.out.free 7
          have hsz : w.heap.size + 1 + 1 < wc.heap.size := HY.out.lt
          go_upto_region 9 with fail
          refine wp_region_held_drew (S := (fun w' => w'.cell? ⟨w.heap.size, 1, none⟩ = some (.slice AH hol.length ch))) (by kernel_rfl) ?_ (fun hHeld => ?_)
          · exact a1
          refine wpAnyH_take (i := 0) (v := ?_) rfl (by kernel_rfl) (by kernel_rfl) (by kernel_rfl) (fun _ _ _ h => h) (Or.inl ⟨by rfl, ?_⟩) (by assumption) ?_
          rotate_left
          · intro w hSw; (try dsimp only at hSw); go_simp; try with_reducible rfl
          (try dsimp only [Act.put, List.setIfInBounds_toArray, List.set_cons_zero, List.set_cons_succ])
          refine wpAnyH_take (i := 1) (v := ?_) rfl (by kernel_rfl) (by kernel_rfl) (by kernel_rfl) (fun _ _ _ h => h) (Or.inl ⟨by rfl, ?_⟩) (by assumption) ?_
          rotate_left
          · intro w hSw; (try dsimp only at hSw); go_simp; try with_reducible rfl
          (try dsimp only [Act.put, List.setIfInBounds_toArray, List.set_cons_zero, List.set_cons_succ])
          refine wpAnyH_take (i := 2) (v := ?_) rfl (by kernel_rfl) (by kernel_rfl) (by kernel_rfl) (fun _ _ _ h => h) (Or.inl ⟨by rfl, ?_⟩) (by assumption) ?_
          rotate_left
          · intro w hSw; (try dsimp only at hSw); go_simp; try with_reducible rfl
          (try dsimp only [Act.put, List.setIfInBounds_toArray, List.set_cons_zero, List.set_cons_succ])
          refine wpAnyH_take (i := 3) (v := ?_) rfl (by kernel_rfl) (by kernel_rfl) (by kernel_rfl) (fun _ _ _ h => h) (Or.inl ⟨by rfl, ?_⟩) (by assumption) ?_
          rotate_left
          · intro w hSw; (try dsimp only at hSw); go_simp; try with_reducible rfl
          (try dsimp only [Act.put, List.setIfInBounds_toArray, List.set_cons_zero, List.set_cons_succ])
          refine wpAnyH_take (i := 5) (v := ?_) rfl (by kernel_rfl) (by kernel_rfl) (by kernel_rfl) (fun _ _ _ h => h) (Or.inl ⟨by rfl, ?_⟩) (by assumption) ?_
          rotate_left
          · intro w hSw; (try dsimp only at hSw); go_simp; try with_reducible rfl
          (try dsimp only [Act.put, List.setIfInBounds_toArray, List.set_cons_zero, List.set_cons_succ])
          refine wpAnyH_take (i := 6) (v := ?_) rfl (by kernel_rfl) (by kernel_rfl) (by kernel_rfl) (fun _ _ _ h => h) (Or.inl ⟨by rfl, ?_⟩) (by assumption) ?_
          rotate_left
          · intro w hSw; (try dsimp only at hSw); go_simp; try with_reducible rfl
          (try dsimp only [Act.put, List.setIfInBounds_toArray, List.set_cons_zero, List.set_cons_succ])
          refine wpAnyH_ready (rs := [4]) (by kernel_rfl) (by simp) ?_
          refine AllReadyH.cons rfl (fun K hK => ?_) ?_
          · go_simp
            refine hK.out _ _ ?_ (fun hHeld => ?_)
            · exact a1
            clear hK K
            (try dsimp only [Act.put, List.setIfInBounds_toArray, List.set_cons_zero, List.set_cons_succ])
            refine wpAnyH_ready (rs := [7]) (by kernel_rfl) (by simp) ?_
            refine AllReadyH.cons rfl (fun K hK => ?_) ?_
            · refine step_append_rd _ (by rfl) _ _ _ (by rfl) wc.heap.size 3 i0 _ 1 8 Tryz.underlying24 HI.out HI0.out HI1.out HI2.out rfl (by omega) (.slice none 0 0) 0 [] (by rfl) (World.ownsRow_nil _ _ _ _) AH hol.length ch (ints hol) (by rfl) HNil.out (by simp [ints]) ((HHr.out.ext HB.out).ext (ext_drewN wc 1)) (ints_one hol) (by unfold maxLen; omega) (by omega) (Nat.le_refl _) ?_
              intro v1 w1 hown1 hg1
              obtain ⟨A1, c1, hv1, hc1⟩ := own_slice hown1
              subst hv1
              have HO1 := Lib.hid hown1
              have HBw := Lib.hid (ext_trans (ext_drewN wc 1) (LawT.ext_grown_nil hg1))
              have HZ1 := Lib.hid (Sol.blk_ext HY.out HBw.out)
              have z1 := HZ1.out.cell 7 rfl
              have z2 := HZ1.out.free 7
              have a2 := cell_ext HBw.out a1
              clear hown1 hg1
              refine hK.out _ _ ?_ (fun hHeld => ?_)
              · exact a2
              clear hK K
              (try dsimp only [Act.put, List.setIfInBounds_toArray, List.set_cons_zero, List.set_cons_succ])
              refine wpAnyH_take (i := 8) (v := ?_) rfl (by kernel_rfl) (by kernel_rfl) (by kernel_rfl) (fun _ _ _ h => h) (Or.inl ⟨by rfl, ?_⟩) (by assumption) ?_
              rotate_left
              · intro w hSw; (try dsimp only at hSw); go_simp; try with_reducible rfl
              (try dsimp only [Act.put, List.setIfInBounds_toArray, List.set_cons_zero, List.set_cons_succ])
              refine wpAnyH_take (i := 9) (v := ?_) rfl (by kernel_rfl) (by kernel_rfl) (by kernel_rfl) (fun _ _ _ h => h) (Or.inl ⟨by rfl, ?_⟩) (by assumption) ?_
              rotate_left
              · intro w hSw; (try dsimp only at hSw); go_simp; try with_reducible rfl
              (try dsimp only [Act.put, List.setIfInBounds_toArray, List.set_cons_zero, List.set_cons_succ])
              refine wpAnyH_ready (rs := [10]) (by kernel_rfl) (by simp) ?_
              refine AllReadyH.cons rfl (fun K hK => ?_) ?_
              · go_simp
                refine hK.out _ _ ?_ (fun hHeld => ?_)
                · exact cell_set_other a2 (by simp; try omega) _
                clear hK K
                (try dsimp only [Act.put, List.setIfInBounds_toArray, List.set_cons_zero, List.set_cons_succ])
                refine wpAnyH_done (by kernel_rfl) ?_ _
                go_wp2_with fail
                go_ret2
                have hX2 := blk_set (Sol.blk_ext HX.out HBw.out) (a := ⟨w.heap.size + 1 + 1, 7, none⟩) (by simp) (.slice A1 (0 + hol.length) c1)
                have hY2 := HZ1.out.set 7 (.slice A1 (0 + hol.length) c1)
                have ho1 := ownsRow_setCell_below (own_ext HO.out HBw.out) (a := ⟨w.heap.size + 1 + 1, 7, none⟩) HSz.out (.slice A1 (0 + hol.length) c1)
                have ho2 := ownsRow_setCell_below HO1.out (a := ⟨w.heap.size + 1 + 1, 7, none⟩) (by simp; omega) (.slice A1 (0 + hol.length) c1)
                rw [Nat.zero_add] at hX2 hY2 ho1 ho2
                exact ⟨_, _, AX, cX, A1, c1, rfl, box_cd hX2 HEnd.out (Rd.of_own ho1), box_cd hY2 HEnd.out (Rd.of_own ho2), (ext_trans HB.out HBw.out).setCell (by simp; omega) _⟩
              exact AllReadyH.nil
            exact AllReadyH.nil
          exact AllReadyH.nil
    · have h7' : decide ((i : Int) < 7) = false := by simp; omega
      have HEnd := Lib.hid (show 7 ≤ i ∨ offs.length ≤ i by omega)
      have a1 := HA.out.cell 1 rfl
      have x7 := HX.out.cell 7 rfl
      have x7f := HX.out.free 7
      have hsz : w.heap.size + 1 + 1 < wr.heap.size := HY.out.lt
      go_upto_region 8 with fail
      go_cut [] (fun wx => ∃ (A1 : Option Addr) (c1 : Nat), Hid (Below w.heap.size w wx) ∧ Hid (Blk wx w.heap.size 26 [.slice AO offs.length co, .slice AH hol.length ch]) ∧ Hid (Blk wx (w.heap.size + 1) 99 (boxCells offs i (.slice A1 hol.length c1))) ∧ Hid (Blk wx (w.heap.size + 1 + 1) 100 (boxCells offs i (.slice none 0 0))) ∧ Hid (wx.ownsRow wr.heap.size 3 1 (.slice A1 hol.length c1) hol.length (ints hol)))
      case first =>
        refine wp_region_held_drew (S := (fun w' => w'.cell? ⟨w.heap.size, 1, none⟩ = some (.slice AH hol.length ch))) (by kernel_rfl) ?_ (fun hHeld => ?_)
        · exact a1
        refine wpAnyH_take (i := 0) (v := ?_) rfl (by kernel_rfl) (by kernel_rfl) (by kernel_rfl) (fun _ _ _ h => h) (Or.inl ⟨by rfl, ?_⟩) (by assumption) ?_
        rotate_left
        · intro w hSw; (try dsimp only at hSw); go_simp; try with_reducible rfl
        (try dsimp only [Act.put, List.setIfInBounds_toArray, List.set_cons_zero, List.set_cons_succ])
        refine wpAnyH_take (i := 1) (v := ?_) rfl (by kernel_rfl) (by kernel_rfl) (by kernel_rfl) (fun _ _ _ h => h) (Or.inl ⟨by rfl, ?_⟩) (by assumption) ?_
        rotate_left
        · intro w hSw; (try dsimp only at hSw); go_simp; try with_reducible rfl
        (try dsimp only [Act.put, List.setIfInBounds_toArray, List.set_cons_zero, List.set_cons_succ])
        refine wpAnyH_take (i := 2) (v := ?_) rfl (by kernel_rfl) (by kernel_rfl) (by kernel_rfl) (fun _ _ _ h => h) (Or.inl ⟨by rfl, ?_⟩) (by assumption) ?_
        rotate_left
        · intro w hSw; (try dsimp only at hSw); go_simp; try with_reducible rfl
        (try dsimp only [Act.put, List.setIfInBounds_toArray, List.set_cons_zero, List.set_cons_succ])
        refine wpAnyH_take (i := 3) (v := ?_) rfl (by kernel_rfl) (by kernel_rfl) (by kernel_rfl) (fun _ _ _ h => h) (Or.inl ⟨by rfl, ?_⟩) (by assumption) ?_
        rotate_left
        · intro w hSw; (try dsimp only at hSw); go_simp; try with_reducible rfl
        (try dsimp only [Act.put, List.setIfInBounds_toArray, List.set_cons_zero, List.set_cons_succ])
        refine wpAnyH_take (i := 5) (v := ?_) rfl (by kernel_rfl) (by kernel_rfl) (by kernel_rfl) (fun _ _ _ h => h) (Or.inl ⟨by rfl, ?_⟩) (by assumption) ?_
        rotate_left
        · intro w hSw; (try dsimp only at hSw); go_simp; try with_reducible rfl
        (try dsimp only [Act.put, List.setIfInBounds_toArray, List.set_cons_zero, List.set_cons_succ])
        refine wpAnyH_take (i := 6) (v := ?_) rfl (by kernel_rfl) (by kernel_rfl) (by kernel_rfl) (fun _ _ _ h => h) (Or.inl ⟨by rfl, ?_⟩) (by assumption) ?_
        rotate_left
        · intro w hSw; (try dsimp only at hSw); go_simp; try with_reducible rfl
        (try dsimp only [Act.put, List.setIfInBounds_toArray, List.set_cons_zero, List.set_cons_succ])
        refine wpAnyH_ready (rs := [4]) (by kernel_rfl) (by simp) ?_
        refine AllReadyH.cons rfl (fun K hK => ?_) ?_
        · go_simp
          refine hK.out _ _ ?_ (fun hHeld => ?_)
          · exact a1
          clear hK K
          (try dsimp only [Act.put, List.setIfInBounds_toArray, List.set_cons_zero, List.set_cons_succ])
          refine wpAnyH_ready (rs := [7]) (by kernel_rfl) (by simp) ?_
          refine AllReadyH.cons rfl (fun K hK => ?_) ?_
          · refine step_append_rd _ (by rfl) _ _ _ (by rfl) wr.heap.size 3 i0 _ 1 8 Tryz.underlying24 HI.out HI0.out HI1.out HI2.out rfl (by omega) (.slice none 0 0) 0 [] (by rfl) (World.ownsRow_nil _ _ _ _) AH hol.length ch (ints hol) (by rfl) HNil.out (by simp [ints]) ((HHr.out.ext HB.out).ext (ext_drewN wr 1)) (ints_one hol) (by unfold maxLen; omega) (by omega) (Nat.le_refl _) ?_
            intro v1 w1 hown1 hg1
            obtain ⟨A1, c1, hv1, hc1⟩ := own_slice hown1
            subst hv1
            have HO1 := Lib.hid hown1
            have HBw := Lib.hid (ext_trans (ext_drewN wr 1) (LawT.ext_grown_nil hg1))
            have HZ1 := Lib.hid (Sol.blk_ext HX.out HBw.out)
            have z1 := HZ1.out.cell 7 rfl
            have z2 := HZ1.out.free 7
            have a2 := cell_ext HBw.out a1
            clear hown1 hg1
            refine hK.out _ _ ?_ (fun hHeld => ?_)
            · exact a2
            clear hK K
            (try dsimp only [Act.put, List.setIfInBounds_toArray, List.set_cons_zero, List.set_cons_succ])
            refine wpAnyH_take (i := 8) (v := ?_) rfl (by kernel_rfl) (by kernel_rfl) (by kernel_rfl) (fun _ _ _ h => h) (Or.inl ⟨by rfl, ?_⟩) (by assumption) ?_
            rotate_left
            · intro w hSw; (try dsimp only at hSw); go_simp; try with_reducible rfl
            (try dsimp only [Act.put, List.setIfInBounds_toArray, List.set_cons_zero, List.set_cons_succ])
            refine wpAnyH_take (i := 9) (v := ?_) rfl (by kernel_rfl) (by kernel_rfl) (by kernel_rfl) (fun _ _ _ h => h) (Or.inl ⟨by rfl, ?_⟩) (by assumption) ?_
            rotate_left
            · intro w hSw; (try dsimp only at hSw); go_simp; try with_reducible rfl
            (try dsimp only [Act.put, List.setIfInBounds_toArray, List.set_cons_zero, List.set_cons_succ])
            refine wpAnyH_ready (rs := [10]) (by kernel_rfl) (by simp) ?_
            refine AllReadyH.cons rfl (fun K hK => ?_) ?_
            · go_simp
              refine hK.out _ _ ?_ (fun hHeld => ?_)
              · exact cell_set_other a2 (by simp; try omega) _
              clear hK K
              (try dsimp only [Act.put, List.setIfInBounds_toArray, List.set_cons_zero, List.set_cons_succ])
              refine wpAnyH_done (by kernel_rfl) ?_ _
              go_wp2_with fail
              go_meet
              refine ⟨A1, c1, (ext_trans HB.out HBw.out).setCell (by simp) _, blk_set (Sol.blk_ext HA.out HBw.out) (by simp) _, ?_, blk_set (Sol.blk_ext HY.out HBw.out) (by simp) _, ?_⟩
              · have := HZ1.out.set 7 (.slice A1 (0 + hol.length) c1)
                rw [Nat.zero_add] at this
                exact this
              · have ho := ownsRow_setCell_below HO1.out (a := ⟨w.heap.size + 1, 7, none⟩) (by simp; omega) (.slice A1 (0 + hol.length) c1)
                show World.ownsRow _ _ _ _ _ _ _
                simpa using ho
            exact AllReadyH.nil
          exact AllReadyH.nil
        exact AllReadyH.nil
      case rest =>
        obtain ⟨w0, hw0⟩ : ∃ w0, w0 = wr := ⟨_, rfl⟩
        rw [← hw0] at hcut
        have HSz := Lib.hid (show w.heap.size + 1 + 1 < w0.heap.size from hw0 ▸ hsz)
        clear HB HX HY HA a1 x7 x7f hsz hw0
        obtain ⟨AX, cX, HB, HA, HX, HY, HO⟩ := hcut
        have a1 := HA.out.cell 1 rfl
        have x7 := HY.out.cell 7 rfl
        have x7f := HY.out.free 7
        have hsz : w.heap.size + 1 + 1 < wc.heap.size := HY.out.lt
        go_upto_region 9 with fail
        refine wp_region_held_drew (S := (fun w' => w'.cell? ⟨w.heap.size, 1, none⟩ = some (.slice AH hol.length ch))) (by kernel_rfl) ?_ (fun hHeld => ?_)
        · exact a1
        refine wpAnyH_take (i := 0) (v := ?_) rfl (by kernel_rfl) (by kernel_rfl) (by kernel_rfl) (fun _ _ _ h => h) (Or.inl ⟨by rfl, ?_⟩) (by assumption) ?_
        rotate_left
        · intro w hSw; (try dsimp only at hSw); go_simp; try with_reducible rfl
        (try dsimp only [Act.put, List.setIfInBounds_toArray, List.set_cons_zero, List.set_cons_succ])
        refine wpAnyH_take (i := 1) (v := ?_) rfl (by kernel_rfl) (by kernel_rfl) (by kernel_rfl) (fun _ _ _ h => h) (Or.inl ⟨by rfl, ?_⟩) (by assumption) ?_
        rotate_left
        · intro w hSw; (try dsimp only at hSw); go_simp; try with_reducible rfl
        (try dsimp only [Act.put, List.setIfInBounds_toArray, List.set_cons_zero, List.set_cons_succ])
        refine wpAnyH_take (i := 2) (v := ?_) rfl (by kernel_rfl) (by kernel_rfl) (by kernel_rfl) (fun _ _ _ h => h) (Or.inl ⟨by rfl, ?_⟩) (by assumption) ?_
        rotate_left
        · intro w hSw; (try dsimp only at hSw); go_simp; try with_reducible rfl
        (try dsimp only [Act.put, List.setIfInBounds_toArray, List.set_cons_zero, List.set_cons_succ])
        refine wpAnyH_take (i := 3) (v := ?_) rfl (by kernel_rfl) (by kernel_rfl) (by kernel_rfl) (fun _ _ _ h => h) (Or.inl ⟨by rfl, ?_⟩) (by assumption) ?_
        rotate_left
        · intro w hSw; (try dsimp only at hSw); go_simp; try with_reducible rfl
        (try dsimp only [Act.put, List.setIfInBounds_toArray, List.set_cons_zero, List.set_cons_succ])
        refine wpAnyH_take (i := 5) (v := ?_) rfl (by kernel_rfl) (by kernel_rfl) (by kernel_rfl) (fun _ _ _ h => h) (Or.inl ⟨by rfl, ?_⟩) (by assumption) ?_
        rotate_left
        · intro w hSw; (try dsimp only at hSw); go_simp; try with_reducible rfl
        (try dsimp only [Act.put, List.setIfInBounds_toArray, List.set_cons_zero, List.set_cons_succ])
        refine wpAnyH_take (i := 6) (v := ?_) rfl (by kernel_rfl) (by kernel_rfl) (by kernel_rfl) (fun _ _ _ h => h) (Or.inl ⟨by rfl, ?_⟩) (by assumption) ?_
        rotate_left
        · intro w hSw; (try dsimp only at hSw); go_simp; try with_reducible rfl
        (try dsimp only [Act.put, List.setIfInBounds_toArray, List.set_cons_zero, List.set_cons_succ])
        refine wpAnyH_ready (rs := [4]) (by kernel_rfl) (by simp) ?_
        refine AllReadyH.cons rfl (fun K hK => ?_) ?_
        · go_simp
          refine hK.out _ _ ?_ (fun hHeld => ?_)
          · exact a1
          clear hK K
          (try dsimp only [Act.put, List.setIfInBounds_toArray, List.set_cons_zero, List.set_cons_succ])
          refine wpAnyH_ready (rs := [7]) (by kernel_rfl) (by simp) ?_
          refine AllReadyH.cons rfl (fun K hK => ?_) ?_
          · refine step_append_rd _ (by rfl) _ _ _ (by rfl) wc.heap.size 3 i0 _ 1 8 Tryz.underlying24 HI.out HI0.out HI1.out HI2.out rfl (by omega) (.slice none 0 0) 0 [] (by rfl) (World.ownsRow_nil _ _ _ _) AH hol.length ch (ints hol) (by rfl) HNil.out (by simp [ints]) ((HHr.out.ext HB.out).ext (ext_drewN wc 1)) (ints_one hol) (by unfold maxLen; omega) (by omega) (Nat.le_refl _) ?_
            intro v1 w1 hown1 hg1
            obtain ⟨A1, c1, hv1, hc1⟩ := own_slice hown1
            subst hv1
            have HO1 := Lib.hid hown1
            have HBw := Lib.hid (ext_trans (ext_drewN wc 1) (LawT.ext_grown_nil hg1))
            have HZ1 := Lib.hid (Sol.blk_ext HY.out HBw.out)
            have z1 := HZ1.out.cell 7 rfl
            have z2 := HZ1.out.free 7
            have a2 := cell_ext HBw.out a1
            clear hown1 hg1
            refine hK.out _ _ ?_ (fun hHeld => ?_)
            · exact a2
            clear hK K
            (try dsimp only [Act.put, List.setIfInBounds_toArray, List.set_cons_zero, List.set_cons_succ])
            refine wpAnyH_take (i := 8) (v := ?_) rfl (by kernel_rfl) (by kernel_rfl) (by kernel_rfl) (fun _ _ _ h => h) (Or.inl ⟨by rfl, ?_⟩) (by assumption) ?_
            rotate_left
            · intro w hSw; (try dsimp only at hSw); go_simp; try with_reducible rfl
            (try dsimp only [Act.put, List.setIfInBounds_toArray, List.set_cons_zero, List.set_cons_succ])
            refine wpAnyH_take (i := 9) (v := ?_) rfl (by kernel_rfl) (by kernel_rfl) (by kernel_rfl) (fun _ _ _ h => h) (Or.inl ⟨by rfl, ?_⟩) (by assumption) ?_
            rotate_left
            · intro w hSw; (try dsimp only at hSw); go_simp; try with_reducible rfl
            (try dsimp only [Act.put, List.setIfInBounds_toArray, List.set_cons_zero, List.set_cons_succ])
            refine wpAnyH_ready (rs := [10]) (by kernel_rfl) (by simp) ?_
            refine AllReadyH.cons rfl (fun K hK => ?_) ?_
            · go_simp
              refine hK.out _ _ ?_ (fun hHeld => ?_)
              · exact cell_set_other a2 (by simp; try omega) _
              clear hK K
              (try dsimp only [Act.put, List.setIfInBounds_toArray, List.set_cons_zero, List.set_cons_succ])
              refine wpAnyH_done (by kernel_rfl) ?_ _
              go_wp2_with fail
              go_ret2
              have hX2 := blk_set (Sol.blk_ext HX.out HBw.out) (a := ⟨w.heap.size + 1 + 1, 7, none⟩) (by simp) (.slice A1 (0 + hol.length) c1)
              have hY2 := HZ1.out.set 7 (.slice A1 (0 + hol.length) c1)
              have ho1 := ownsRow_setCell_below (own_ext HO.out HBw.out) (a := ⟨w.heap.size + 1 + 1, 7, none⟩) HSz.out (.slice A1 (0 + hol.length) c1)
              have ho2 := ownsRow_setCell_below HO1.out (a := ⟨w.heap.size + 1 + 1, 7, none⟩) (by simp; omega) (.slice A1 (0 + hol.length) c1)
              rw [Nat.zero_add] at hX2 hY2 ho1 ho2
              exact ⟨_, _, AX, cX, A1, c1, rfl, box_cd hX2 HEnd.out (Rd.of_own ho1), box_cd hY2 HEnd.out (Rd.of_own ho2), (ext_trans HB.out HBw.out).setCell (by simp; omega) _⟩
            exact AllReadyH.nil
          exact AllReadyH.nil
        exact AllReadyH.nil
end Go.Proofs.YtjfiodknjchngaaGreatDoor.CdM
namespace Go.Proofs.YtjfiodknjchngaaGreatDoor.DayWorks
open Go.RowKit Mem CdP MapSet Solve CdR CdM Day Nest RefDay App Thm Err

def BoolT (w : World) (e : Ending) (w' : World) : Prop := e = .returned (.bool true) ∧ Below w.heap.size w w'
/-- a calendar of nothing -/
theorem zero_cal (w : World) : CdA (w.alloc (.cells #[.bool false, .bool false, .bool false, .bool false, .bool false, .bool false, .bool false, .slice none 0 0] 99)) w.heap.size 0 (cdOf [] []) none 0 :=
  box_cd (offs := []) (i := 0) (hol := []) (T := 99) (by show Blk _ _ _ (boxCells [] 0 (.slice none 0 0)); rw [box_zero]; exact Blk.new w _ [_, _, _, _, _, _, _, _]) (.inr (by simp)) Rd.nil
theorem zero_ok : CdOk (cdOf [] []) := ⟨by simp [cdOf], by simp [cdOf]⟩
theorem zero_works : worksB (cdOf [] []) 5 = true := by decide
/-- plain data of a calendar, as it lies -/
structure Dat (w : World) (offs : List Bool) (hol : List Int) (AO : Option Addr) (co : Nat) (AH : Option Addr) (ch : Nat) : Prop where
  rO : Rd w AO (bls offs)
  rH : Rd w AH (ints hol)
  nil : AH = none → ch = 0
  ol : offs.length ≤ 9223372036854775807
  hl : hol.length ≤ 9223372036854775807
  wf : ∀ x ∈ hol, (Lit.int .i64 x).wf = true
theorem cd_ok {w : World} {offs : List Bool} {hol : List Int} {AO : Option Addr} {co : Nat} {AH : Option Addr} {ch : Nat} (h : Dat w offs hol AO co AH ch) (hl : hol.length ≤ 100) : CdOk (cdOf offs hol) := ⟨by show hol.length ≤ _; omega, h.wf⟩
end Go.Proofs.YtjfiodknjchngaaGreatDoor.DayWorks

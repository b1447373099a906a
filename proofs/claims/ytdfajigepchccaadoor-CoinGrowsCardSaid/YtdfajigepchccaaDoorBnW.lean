/- What bands come to: the rows handed on, the test, the program's Bands. -/
import Derived.Test.YtdfajigepchccaaDoorBnP
import Derived.Test.YtdfajigepchccaaDoorPart3
import Derived.Test.YtdfajigepchccaaDoorErr
import Derived.Test.YtdfajigepchccaaDoorMem
import Derived.Test.YtdfajigepchccaaDoorNest
import Derived.Test.YtdfajigepchccaaDoorFlt
import Derived.Deep.AppendLies
import Derived.Laws.Pointers
import Derived.OwnWalk
import Derived.Deep.RegionHeld3
import Derived.Deep.DeepCutAuto
namespace Go.Proofs.YtdfajigepchccaaDoor.Bn
open Go.RowKit Mem Rnd Nest Flt

def bdCells (p : Bd) : List Value := [.int .i64 p.1, .int .i64 p.2]
theorem bdCells_len (p : Bd) : (bdCells p).length = 2 := rfl
theorem band_at {w : World} {A : Option Addr} {ps : List Bd} (h : Rd w A (ps.flatMap bdCells)) {k : Nat} (hk : k < ps.length) :
    ∃ b o, A = some ⟨b, o, none⟩ ∧ w.cell? ⟨b, o + k * 2, none⟩ = some (.int .i64 ps[k].1) ∧ w.cell? ⟨b, o + k * 2 + 1, none⟩ = some (.int .i64 ps[k].2) := by
  obtain ⟨b, o, e, hc⟩ := h.row bdCells_len hk (by omega)
  exact ⟨b, o, e, by simpa using hc 0 _ rfl, by simpa [Nat.add_assoc] using hc 1 _ rfl⟩
theorem band_info : (Tryd.prog.info? 113).map (fun i => (i.zero, i.size, i.bytes)) = some (some (.agg #[.int .i64 0, .int .i64 0]), 2, 16) := by kernel_rfl
def CopyPost (l : List Bd) (w : World) (e : Ending) (w' : World) : Prop :=
  ∃ (A' : Option Addr) (c' : Nat), e = .returned (.slice A' l.length c') ∧ Rd w' A' (l.flatMap bdCells) ∧ Below w.heap.size w w'
set_option maxRecDepth 100000 in
set_option maxHeartbeats 2000000 in
theorem copy_any (l : List Bd) (A : Option Addr) (c : Nat) (hl : l.length ≤ 1048576) (w : World) (hr : Rd w A (l.flatMap bdCells)) :
    Calls Tryd.prog 32 #[.slice A l.length c] w (CopyPost l w) := by
  have HR := Lib.hid hr
  obtain ⟨i0, hi, hz0, hz1, hz2⟩ := info_parts band_info
  have HI := Lib.hid hi
  have HZ0 := Lib.hid hz0
  have HZ1 := Lib.hid hz1
  have HZ2 := Lib.hid hz2
  clear hr hi hz0 hz1 hz2
  go_enter Tryd.func32, Tryd.ntmps32
  go_wp2_with fail
  go_loopw [3, 4] (fun v i wr => Hid (Below w.heap.size w wr) ∧ ∃ k : Nat, i = .int .i64 k ∧ k ≤ l.length ∧ Hid (wr.ownsRow w.heap.size 113 2 v k ((l.take k).flatMap bdCells))) (fun _ i _ => l.length - (intOf i).toNat)
  case atStart => exact ⟨Below.refl _ _, 0, rfl, Nat.zero_le _, World.ownsRow_nil _ _ _ _⟩
  case round =>
    obtain ⟨HB, k, rfl, hk, HO⟩ := hrel
    by_cases hlt : k < l.length
    · obtain ⟨b, o, hA, q0, _⟩ := band_at HR.out hlt
      have hbl := cell_lt q0
      subst hA
      clear q0
      obtain ⟨b', o', hA, r0, r1⟩ := band_at (HR.out.ext HB.out) hlt
      cases hA
      obtain ⟨bx, hbx⟩ : ∃ bx, bx = l[k] := ⟨_, rfl⟩
      rw [← hbx] at r0 r1
      have HX := Lib.hid hbx
      clear hbx
      obtain ⟨x0, x1⟩ := bx
      simp only at r0 r1
      have hs0 := HB.out.size
      simp only at hbl
      have ag : u3.ownBlock ≠ some b := fun hg => by have := (HO.out.lt b hg).1; omega
      go_wp2_with fail
      go_region_held3 (fun w' => w'.cell? ⟨b, o + k * 2, none⟩ = some (.int .i64 x0) ∧ w'.cell? ⟨b, o + k * 2 + 1, none⟩ = some (.int .i64 x1))
        (first
          | go_keep
          | exact ⟨r0, r1⟩
          | exact ⟨cell_ext (ext_alloc _ _) r0, cell_ext (ext_alloc _ _) r1⟩
          | (go_split_ands
             refine ⟨?_, ?_⟩
             · (rw [hgrow.cell_far _ (by simp; omega) (Ne.symm ag)]; assumption)
             · (rw [hgrow.cell_far _ (by simp; omega) (Ne.symm ag)]; assumption)))
        ((refine step_append_lies _ (by rfl) _ _ _ (by rfl) w.heap.size 113 i0 _ 2 16 Tryd.underlying65 HI.out HZ0.out HZ1.out HZ2.out rfl (by omega) u3 k _ (by rfl) ((World.ownsRow.alloc HO.out _).drew)
            ⟨wr.heap.size, 0, none⟩ 1 1 [.int .i64 x0, .int .i64 x1] (by rfl) (by rfl) (World.news_of_block (cs := #[.int .i64 x0, .int .i64 x1]) (t := 113) (fr := (0, 0)) (heap_alloc_new wr _)) (by simp [Value.oneCell'])
            (by omega) (by simp only [maxLen]; omega) (by omega) (by simp; omega) (wr.heap.size + 1) (by simp) ?_; intro gg cap w1 hown1 hgrow hat hlt2))
      have HO1 := Lib.hid hown1
      have HB1 := Lib.hid (grown_ext (HB.out.trans ((ext_trans (ext_alloc wr _) (ext_drewN _ 1)).mono HB.out.size)) rfl ((World.ownsRow.alloc HO.out _).drew) hgrow)
      clear hown1 hgrow hat
      go_wp2_with fail
      go_roundw
      case rel =>
        refine ⟨HB1.out, k + 1, by go_num, by omega, ?_⟩
        have ho := HO1.out
        show World.ownsRow _ _ _ _ _ _ _
        rw [List.take_succ_eq_append_getElem hlt, ← HX.out]
        simpa [List.flatMap_append, bdCells] using ho
      case measure => simp [intOf]; omega
    · obtain rfl : l.length = k := by omega
      go_wp2_with fail
      rcases HO.out.2 with ⟨rfl, h0⟩ | ⟨g, cap, cur, rfl, _, _, hcap, _⟩
      · have HP0 := Lib.hid h0
        clear h0
        go_ret
        have e0 := List.eq_nil_of_length_eq_zero HP0.out
        subst e0
        exact ⟨none, 0, rfl, Rd.nil, HB.out⟩
      · go_ret
        have ho := HO.out
        rw [List.take_length] at ho
        exact ⟨_, cap, rfl, Rd.of_own ho, HB.out⟩
def BadB (b : Bd) (w : World) (e : Ending) (w' : World) : Prop := e = .returned (.bool (badB b)) ∧ Below w.heap.size w w'
set_option maxHeartbeats 1000000 in
theorem badb_any (x0 x1 : Int) (w : World) : Calls Tryd.prog 72 #[.agg #[.int .i64 x0, .int .i64 x1]] w (BadB (x0, x1) w) := by
  have hx := Blk.new w 113 [.int .i64 x0, .int .i64 x1]
  have HBx := Lib.hid (ext_alloc w (.cells #[.int .i64 x0, .int .i64 x1] 113))
  have c0 := hx.cell 0 rfl
  have c1 := hx.cell 1 rfl
  clear hx
  by_cases h1 : x0 < 0
  · have HV := Lib.hid (show badB (x0, x1) = true by unfold badB; simp [h1])
    go_enter Tryd.func72, Tryd.ntmps72
    go_wp2_with fail
    go_ret
    exact ⟨ret_bool (by simp [HV.out]), HBx.out⟩
  · by_cases h2 : 1000000000000 < x0
    · have HV := Lib.hid (show badB (x0, x1) = true by unfold badB; simp [h2])
      go_enter Tryd.func72, Tryd.ntmps72
      go_wp2_with fail
      refine (Coin.good_no _ (.inr h2) _).mono ?_
      rintro e w' ⟨rfl, rfl⟩
      go_wp2_with fail
      go_ret
      exact ⟨ret_bool (by simp [HV.out]), HBx.out⟩
    · by_cases h3 : x1 < 0
      · have HV := Lib.hid (show badB (x0, x1) = true by unfold badB; simp [h3])
        go_enter Tryd.func72, Tryd.ntmps72
        go_wp2_with fail
        refine (Coin.good_yes _ (by omega) (by omega) _).mono ?_
        rintro e w' ⟨rfl, rfl⟩
        go_wp2_with fail
        go_ret
        exact ⟨ret_bool (by simp [HV.out]), HBx.out⟩
      · have HV := Lib.hid (show badB (x0, x1) = decide (1000000 < x1) by unfold badB; simp [h1, h2, h3])
        go_enter Tryd.func72, Tryd.ntmps72
        go_wp2_with fail
        refine (Coin.good_yes _ (by omega) (by omega) _).mono ?_
        rintro e w' ⟨rfl, rfl⟩
        go_wp2_with fail
        go_ret
        exact ⟨ret_bool (by rw [HV.out]; simp; omega), HBx.out⟩
def FoundB (l : List Bd) (w : World) (e : Ending) (w' : World) : Prop := ∃ r : Int, e = .returned (.int .i64 r) ∧ (0 ≤ r ↔ l.any badB = true) ∧ Below w.heap.size w w'
set_option maxHeartbeats 1000000 in
theorem bindex_any (l : List Bd) (A : Option Addr) (c : Nat) (hl : l.length ≤ 1048576) (w : World) (hr : Rd w A (l.flatMap bdCells)) :
    Calls Tryd.prog 104 #[.slice A l.length c, .func (.func 72) #[] #[]] w (FoundB l w) := by
  have HR := Lib.hid hr
  clear hr
  go_enter Tryd.func104, Tryd.ntmps104
  go_wp2_with fail
  go_loopw [8] (fun i wr => Hid (Below w.heap.size w wr) ∧ ∃ k : Nat, k ≤ l.length ∧ i = .int .i64 k ∧ Hid (∀ j (h : j < l.length), j < k → badB l[j] = false)) (fun i _ => l.length - (intOf i).toNat)
  case atStart => exact ⟨Below.refl _ _, 0, Nat.zero_le _, rfl, fun j _ hj => absurd hj (by omega)⟩
  case round =>
    obtain ⟨HB, k, hk, rfl, hno⟩ := hrel
    by_cases hlt : k < l.length
    · obtain ⟨b, o, rfl, r0, r1⟩ := band_at (HR.out.ext HB.out) hlt
      obtain ⟨bx, hbx⟩ : ∃ bx, bx = l[k] := ⟨_, rfl⟩
      rw [← hbx] at r0 r1
      have HX := Lib.hid hbx
      clear hbx
      obtain ⟨x0, x1⟩ := bx
      simp only at r0 r1
      go_wp2_with fail
      refine (badb_any _ _ _).mono ?_
      rintro e w' ⟨rfl, hb⟩
      have HB1 := Lib.hid hb
      clear hb
      cases hpx : badB (x0, x1) with
      | true =>
        have Hpx := Lib.hid hpx
        clear hpx
        go_wp2_with fail
        go_ret
        exact ⟨_, rfl, ⟨fun _ => List.any_eq_true.2 ⟨_, List.getElem_mem hlt, by rw [← HX.out]; exact Hpx.out⟩, fun _ => by omega⟩, HB.out.trans (HB1.out.mono HB.out.size)⟩
      | false =>
        have Hpx := Lib.hid hpx
        clear hpx
        go_wp2_with fail
        go_roundw
        case rel =>
          refine ⟨HB.out.trans (HB1.out.mono HB.out.size), k + 1, by omega, by go_num, fun j h hj => ?_⟩
          by_cases e : j = k
          · subst e; rw [← HX.out]; exact Hpx.out
          · exact hno.out j h (by omega)
        case measure => simp [intOf]; omega
    · go_wp2_with fail
      go_ret
      refine ⟨_, rfl, ⟨fun h => absurd h (by omega), fun h => ?_⟩, HB.out⟩
      obtain ⟨x, hx, hpx⟩ := List.any_eq_true.1 h
      obtain ⟨j, hj, rfl⟩ := List.mem_iff_getElem.1 hx
      rw [hno.out j hj (by omega)] at hpx
      cases hpx
def AnyB (l : List Bd) (w : World) (e : Ending) (w' : World) : Prop := e = .returned (.bool (l.any badB)) ∧ Below w.heap.size w w'
set_option maxHeartbeats 400000 in
theorem bcontains_any (l : List Bd) (A : Option Addr) (c : Nat) (hl : l.length ≤ 1048576) (w : World) (hr : Rd w A (l.flatMap bdCells)) :
    Calls Tryd.prog 71 #[.slice A l.length c, .func (.func 72) #[] #[]] w (AnyB l w) := by
  have HI := Lib.hid (bindex_any l A c hl w hr)
  clear hr
  go_enter Tryd.func71, Tryd.ntmps71
  go_wp2_with fail
  refine HI.out.mono ?_
  rintro e w' ⟨r, rfl, hf, hb⟩
  have HF := Lib.hid hf
  have HB := Lib.hid hb
  clear hf hb
  go_wp2_with fail
  go_ret
  refine ⟨ret_bool ?_, HB.out⟩
  have := HF.out
  rw [Bool.eq_iff_iff]
  simpa using this
end Go.Proofs.YtdfajigepchccaaDoor.Bn

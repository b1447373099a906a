/- sums.Months: the walk. -/
import Derived.Test.YtnbpdknmbjkfeaaDoorSums
import Derived.Test.YtnbpdknmbjkfeaaDoorPays
namespace Go.Proofs.YtnbpdknmbjkfeaaDoor.Sums
open Go.RowKit Cal Day Mem Pays Rnd

theorem pay_info : (Tryd.prog.info? 143).map (fun i => (i.zero, i.size, i.bytes)) = some (some (.agg #[.int .i64 0, .int .i64 0, .int .i64 0]), 3, 24) := by kernel_rfl
/-- days that Months takes -/
structure Fine (xs : List Int) (f way : Int) : Prop where
  way0 : 0 ≤ way
  way5 : way ≤ 5
  len : xs.length ≤ 4000
  f1 : 1 ≤ f
  last : f + xs.length ≤ 3652060
  coins : ∀ x ∈ xs, -1000000000000 ≤ x ∧ x ≤ 1000000000000
set_option maxRecDepth 100000 in
set_option maxHeartbeats 2000000 in
theorem months_ok (xs : List Int) (f way : Int) (A : Option Addr) (c : Nat) (hc : xs.length ≤ c) (hx : xs ≠ []) (hF : Fine xs f way) (w : World) (hr : Rd w A (ints xs)) :
    Calls Tryd.prog 28 #[.slice A xs.length c, .int .i64 f, .int .i64 way] w fun e w' =>
      ∃ (ps : List Pay) (A' : Option Addr) (c' : Nat), e = .returned (.tuple #[.slice A' ps.length c', .nilIface]) ∧ MonthsR ps xs f way ∧ Rd w' A' (ps.flatMap payCells) ∧ ps.length ≤ c' ∧ Below w.heap.size w w' := by
  have hpos : 0 < xs.length := List.length_pos_iff.2 hx
  obtain ⟨w0, w5, hl, f1, hlast, hco⟩ := hF
  have hbad : xs.any bad = false := by
    rw [List.any_eq_false]
    intro x hx
    have := hco x hx
    unfold bad
    simp
    omega
  obtain ⟨b, o, rfl, _⟩ := hr.int hpos
  have HR := Lib.hid hr
  have HC := Lib.hid hco
  have HN := Lib.hid hbad
  clear hr hco hbad hx
  have l0 : ((xs.length : Int) == 0) = false := by rw [beq_eq_false_iff_ne]; omega
  have l0' : decide (4000 < (xs.length : Int)) = false := by simp; omega
  obtain ⟨i0, hi, hz0, hz1, hz2⟩ := info_parts pay_info
  have HI := Lib.hid hi
  have HZ0 := Lib.hid hz0
  have HZ1 := Lib.hid hz1
  have HZ2 := Lib.hid hz2
  clear hi hz0 hz1 hz2
  go_enter Tryd.func28, Tryd.ntmps28
  go_wp2_with fail
  refine (Coin.way_yes _ w0 w5 _).mono ?_
  rintro e w' ⟨rfl, rfl⟩
  go_wp2_with fail
  refine (good_yes _ (by omega) (by omega) _).mono ?_
  rintro e w' ⟨rfl, rfl⟩
  go_wp2_with fail
  refine (good_yes _ (by omega) (by omega) _).mono ?_
  rintro e w' ⟨rfl, rfl⟩
  go_wp2_with fail
  refine (containsfunc_any xs _ c (by omega) w HR.out).mono ?_
  rw [HN.out]
  rintro e w' ⟨rfl, rfl⟩
  go_wp2_with fail
  go_loopw [8, 9] (fun o i wr => Hid (Below w.heap.size w wr) ∧ ∃ (k : Nat) (ps : List Pay), k ≤ xs.length ∧ i = .int .i64 k ∧ Hid (Pre ps xs f way k) ∧ Hid (wr.ownsRow w.heap.size 143 3 o ps.length (ps.flatMap payCells)) ∧ ps.length ≤ k) (fun _ i _ => xs.length - (intOf i).toNat)
  case atStart => exact ⟨Below.refl _ _, 0, [], by omega, rfl, Pre.start _ _ _, World.ownsRow_nil _ _ _ _, by simp⟩
  case round =>
    obtain ⟨hB, k, ps, hk, rfl, hP, hO, hpl⟩ := hrel
    by_cases hlt : k < xs.length
    · go_wp2_with fail
      refine (parts_yes _ (by omega) (by omega) _).mono ?_
      rintro e w' ⟨y, m, d, rfl, hv, hn, rfl⟩
      have HV := Lib.hid hv
      have HNm := Lib.hid hn
      have d1 : 1 ≤ d := by unfold Vld at hv; omega
      have d2 : d ≤ dim y m := by unfold Vld at hv; omega
      have d3 := dim_bd y m
      obtain ⟨d4, d5⟩ := d3
      clear hv hn
      go_wp2_with fail
      refine (HNm.out ▸ daylong_yes y m d HV.out wr).mono ?_
      rintro e w' ⟨rfl, rfl⟩
      by_cases hmin : (k : Int) + dim y m - d + 1 < xs.length
      · obtain ⟨s, hs⟩ : ∃ s, s = span (xs.drop k) y m d := ⟨_, rfl⟩
        have hs1 : (s : Int) = dim y m - d + 1 := by rw [hs]; unfold span; rw [List.length_drop]; omega
        have HSp := Lib.hid hs
        have HS1 := Lib.hid hs1
        have hs2 : k + s ≤ xs.length := by omega
        have hs3 : 1 ≤ s := by omega
        have HS2 := Lib.hid hs2
        have HS3 := Lib.hid hs3
        clear hs hs1 hs2 hs3
        have hsum : ∀ j, -(1000000000000 * 4000) ≤ sumL ((xs.drop k).take j) ∧ sumL ((xs.drop k).take j) ≤ 1000000000000 * 4000 := by
          intro j
          have hb := sumL_bd 1000000000000 ((xs.drop k).take j) (fun x hx => HC.out x (List.mem_of_mem_drop (List.mem_of_mem_take hx)))
          have hle : ((xs.drop k).take j).length ≤ 4000 := by rw [List.length_take, List.length_drop]; omega
          omega
        have HS := Lib.hid hsum
        clear hsum
        go_wp2_with fail
        have hs2 := HS2.out
        have hs3 := HS3.out
        rw [show ((k : Int) + dim y m - d + 1) = ((k + s : Nat) : Int) from by have := HS1.out; omega]
        rw [show ((k + s : Nat) : Int).toNat - k = s from by omega]
        go_loop [15, 80] (fun sm j => ∃ j' : Nat, j' ≤ s ∧ j = .int .i64 j' ∧ sm = .int .i64 (sumL ((xs.drop k).take j'))) (fun _ j => s - (intOf j).toNat)
        case atStart => exact ⟨0, Nat.zero_le _, rfl, by simp [sumL]⟩
        case round =>
          obtain ⟨j, hj, rfl, rfl⟩ := hrel
          obtain ⟨s1, s2⟩ := HS.out j
          by_cases hjl : j < s
          · have hkj : k + j < xs.length := by omega
            obtain ⟨b', o', hbo, hcell⟩ := (HR.out.ext hB.out).int hkj
            simp only [Option.some.injEq, Addr.mk.injEq, and_true] at hbo
            obtain ⟨rfl, rfl⟩ := hbo
            rw [← Nat.add_assoc] at hcell
            have hx := HC.out xs[k + j] (List.getElem_mem hkj)
            obtain ⟨x1, x2⟩ := hx
            go_wp2_with fail
            go_round
            case rel =>
              refine ⟨j + 1, by omega, by go_num, ?_⟩
              rw [sumL_take_succ _ _ (by rw [List.length_drop]; omega), List.getElem_drop]
            case measure => simp [intOf]; omega
          · obtain rfl : s = j := by omega
            go_wp2_with fail
            refine (Coin.rounded_any _ _ _ (by omega) (by omega) (by omega) (by omega) w0 w5 _).mono ?_
            rintro e w' ⟨rfl, q, rfl⟩
            go_wp2_with (at_builtin; refine wpList_append_own _ rfl (.tmp 88) (.tmp 100) _ rfl w.heap.size 143 i0 _ 3 24 Tryd.underlying62 HI.out HZ0.out HZ1.out HZ2.out rfl (by omega) u8 ps.length _ rfl (World.ownsRow.alloc (w := wr.drewN q) hO.out _) ⟨wr.heap.size, 0, none⟩ 1 1 [.int .i64 (f + (k : Int)), .int .i64 (f + ((k + s : Nat) : Int)), .int .i64 (rnd (sumL ((xs.drop k).take s)) (dim y m) way)] rfl rfl (new_cells (wr.drewN q) [.int .i64 (f + (k : Int)), .int .i64 (f + ((k + s : Nat) : Int)), .int .i64 (rnd (sumL ((xs.drop k).take s)) (dim y m) way)] _ _ rfl) (by intro u hu; simp only [List.mem_cons, List.not_mem_nil, or_false] at hu; rcases hu with rfl | rfl | rfl <;> rfl) (by simp only [maxLen]; omega) (by omega) (Nat.le_trans hB.out.size (by simp)) ?_; intro v1 w1 hown1 hg1 _; have HO1 := Lib.hid hown1; have HB1 := Lib.hid (grown_ext (hB.out.trans ((ext_drewN wr q).trans ((ext_alloc (wr.drewN q) _).mono (Nat.le_refl _)) |>.mono hB.out.size)) rfl (World.ownsRow.alloc (w := wr.drewN q) hO.out _) hg1); clear hown1 hg1)
            go_roundw
            case rel =>
              have hp := hP.out.step HV.out HNm.out hlt
              rw [← HSp.out] at hp
              refine ⟨HB1.out, k + s, ps ++ [(f + (k : Int), f + (k : Int) + ((s : Nat) : Int), rnd (sumL ((xs.drop k).take s)) (dim y m) way)], by omega, rfl, hp, ?_, by simp; omega⟩
              have ho := HO1.out
              rw [show f + ((k + s : Nat) : Int) = f + (k : Int) + ((s : Nat) : Int) from by omega] at ho
              show World.ownsRow _ _ _ _ _ _ _
              simpa [List.flatMap_append, payCells] using ho
            case measure => simp [intOf]; omega
      · have HSp := Lib.hid (show xs.length - k = span (xs.drop k) y m d by unfold span; rw [List.length_drop]; omega)
        have hsum : ∀ j, -(1000000000000 * 4000) ≤ sumL ((xs.drop k).take j) ∧ sumL ((xs.drop k).take j) ≤ 1000000000000 * 4000 := by
          intro j
          have hb := sumL_bd 1000000000000 ((xs.drop k).take j) (fun x hx => HC.out x (List.mem_of_mem_drop (List.mem_of_mem_take hx)))
          have hle : ((xs.drop k).take j).length ≤ 4000 := by rw [List.length_take, List.length_drop]; omega
          omega
        have HS := Lib.hid hsum
        clear hsum
        go_wp2_with fail
        go_loop [15, 80] (fun sm j => ∃ j' : Nat, j' ≤ (xs.length - k) ∧ j = .int .i64 j' ∧ sm = .int .i64 (sumL ((xs.drop k).take j'))) (fun _ j => (xs.length - k) - (intOf j).toNat)
        case atStart => exact ⟨0, Nat.zero_le _, rfl, by simp [sumL]⟩
        case round =>
          obtain ⟨j, hj, rfl, rfl⟩ := hrel
          obtain ⟨s1, s2⟩ := HS.out j
          by_cases hjl : j < (xs.length - k)
          · have hkj : k + j < xs.length := by omega
            obtain ⟨b', o', hbo, hcell⟩ := (HR.out.ext hB.out).int hkj
            simp only [Option.some.injEq, Addr.mk.injEq, and_true] at hbo
            obtain ⟨rfl, rfl⟩ := hbo
            rw [← Nat.add_assoc] at hcell
            have hx := HC.out xs[k + j] (List.getElem_mem hkj)
            obtain ⟨x1, x2⟩ := hx
            go_wp2_with fail
            go_round
            case rel =>
              refine ⟨j + 1, by omega, by go_num, ?_⟩
              rw [sumL_take_succ _ _ (by rw [List.length_drop]; omega), List.getElem_drop]
            case measure => simp [intOf]; omega
          · obtain rfl : (xs.length - k) = j := by omega
            go_wp2_with fail
            refine (Coin.rounded_any _ _ _ (by omega) (by omega) (by omega) (by omega) w0 w5 _).mono ?_
            rintro e w' ⟨rfl, q, rfl⟩
            go_wp2_with (at_builtin; refine wpList_append_own _ rfl (.tmp 88) (.tmp 100) _ rfl w.heap.size 143 i0 _ 3 24 Tryd.underlying62 HI.out HZ0.out HZ1.out HZ2.out rfl (by omega) u8 ps.length _ rfl (World.ownsRow.alloc (w := wr.drewN q) hO.out _) ⟨wr.heap.size, 0, none⟩ 1 1 [.int .i64 (f + (k : Int)), .int .i64 (f + (xs.length : Int)), .int .i64 (rnd (sumL ((xs.drop k).take (xs.length - k))) (dim y m) way)] rfl rfl (new_cells (wr.drewN q) [.int .i64 (f + (k : Int)), .int .i64 (f + (xs.length : Int)), .int .i64 (rnd (sumL ((xs.drop k).take (xs.length - k))) (dim y m) way)] _ _ rfl) (by intro u hu; simp only [List.mem_cons, List.not_mem_nil, or_false] at hu; rcases hu with rfl | rfl | rfl <;> rfl) (by simp only [maxLen]; omega) (by omega) (Nat.le_trans hB.out.size (by simp)) ?_; intro v1 w1 hown1 hg1 _; have HO1 := Lib.hid hown1; have HB1 := Lib.hid (grown_ext (hB.out.trans ((ext_drewN wr q).trans ((ext_alloc (wr.drewN q) _).mono (Nat.le_refl _)) |>.mono hB.out.size)) rfl (World.ownsRow.alloc (w := wr.drewN q) hO.out _) hg1); clear hown1 hg1)
            go_roundw
            case rel =>
              have hp := hP.out.step HV.out HNm.out hlt
              rw [← HSp.out, show k + (xs.length - k) = xs.length from by omega] at hp
              refine ⟨HB1.out, xs.length, ps ++ [(f + (k : Int), f + (k : Int) + (((xs.length - k) : Nat) : Int), rnd (sumL ((xs.drop k).take (xs.length - k))) (dim y m) way)], by omega, rfl, hp, ?_, by simp; omega⟩
              have ho := HO1.out
              rw [show f + (xs.length : Int) = f + (k : Int) + (((xs.length - k) : Nat) : Int) from by omega] at ho
              show World.ownsRow _ _ _ _ _ _ _
              simpa [List.flatMap_append, payCells] using ho
            case measure => simp [intOf]; omega
    · obtain rfl : k = xs.length := by omega
      rcases hO.out.2 with ⟨rfl, h0⟩ | ⟨g, cap, cur, rfl, _, _, hcap, _⟩
      · have HP0 := Lib.hid h0
        clear h0
        go_wp2_with fail
        go_ret2
        have e0 := List.eq_nil_of_length_eq_zero HP0.out
        subst e0
        exact ⟨[], none, 0, rfl, hP.out.finish, Rd.nil, Nat.le_refl _, hB.out⟩
      · go_wp2_with fail
        go_ret2
        exact ⟨ps, _, cap, rfl, hP.out.finish, Rd.of_own hO.out, hcap, hB.out⟩
end Go.Proofs.YtnbpdknmbjkfeaaDoor.Sums

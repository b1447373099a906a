/- Counting working days: the document's CountDays. -/
import Derived.Test.YtnbpdknmbjkfeaaDoorCdCount2
namespace Go.Proofs.YtnbpdknmbjkfeaaDoor.CdM
open Go.RowKit Mem CdP MapSet Solve CdR Day Nest RefDay

theorem cntR_raw (c : Cd) {f t a z : Int} (hft : f ≤ t) (ha : a = if f < 1 then 1 else f) (hz : z = if 3652060 < t then 3652060 else t) : cntR c f t = (cnt c.off c.hol a (z - a).toNat : Nat) := by
  obtain ⟨f1, f2, f3⟩ := cl_is f
  obtain ⟨t1, t2, t3⟩ := cl_is t
  unfold cntR
  by_cases h1 : 3652060 < f
  · rw [f2 h1, t2 (by omega)]
    rw [if_neg (by omega)] at ha
    rw [if_pos (by omega)] at hz
    rw [show (z - a).toNat = 0 by omega]
    simp [cnt]
  · by_cases h2 : t < 1
    · rw [f1 (by omega), t1 h2]
      rw [if_pos (by omega)] at ha
      rw [if_neg (by omega)] at hz
      rw [show (z - a).toNat = 0 by omega]
      simp [cnt]
    · have ea : cl f = a := by
        by_cases h3 : f < 1
        · rw [f1 h3, ha, if_pos h3]
        · rw [f3 (by omega) (by omega), ha, if_neg h3]
      have ez : cl t = z := by
        by_cases h3 : 3652060 < t
        · rw [t2 h3, hz, if_pos h3]
        · rw [t3 (by omega) (by omega), hz, if_neg h3]
      rw [ea, ez]
theorem cnt_next (off : List Bool) (hol : List Int) (a d : Int) (h : a ≤ d) : cnt off hol a (d + 1 - a).toNat = cnt off hol a (d - a).toNat + if wk off hol d then 1 else 0 := by
  rw [show (d + 1 - a).toNat = (d - a).toNat + 1 by omega]
  simp only [cnt]
  rw [show a + ((d - a).toNat : Int) = d by omega]
set_option maxRecDepth 100000 in
set_option maxHeartbeats 4000000 in
theorem rcount_any (c : Cd) (hh : c.hol.length ≤ 1048576) (b o : Nat) (A : Option Addr) (hc : Nat) (f t : Int) (w : World) (h : CdA w b o c A hc) :
    Calls Tryd.prog 24 #[.pointer (some ⟨b, o, none⟩), .int .i64 f, .int .i64 t] w fun e w' => e = .returned (.int .i64 (cntI c f t)) ∧ Below w.heap.size w w' := by
  have HC := Lib.hid h
  clear h
  by_cases hs : t < f
  · have HS := Lib.hid hs
    have hs' : decide (t < f) = true := by simp [hs]
    have HI := Lib.hid (show cntI c f t = -cntR c t f by unfold cntI; rw [if_pos HS.out])
    by_cases l1 : t < 1
    · have l1' : decide (t < 1) = true := decide_eq_true l1
      by_cases h1 : 3652060 < f
      · have h1' : decide (3652060 < f) = true := decide_eq_true h1
        have HF := Lib.hid (cntR_raw c (f := t) (t := f) (a := 1) (z := 3652060) (by omega) (by rw [if_pos l1]) (by rw [if_pos h1]))
        go_enter Tryd.func24, Tryd.ntmps24
        go_wp2_with fail
        go_loopw [8, 9] (fun t8 t9 wr => ∃ (n : Nat) (d : Int), t8 = .int .i64 n ∧ t9 = .int .i64 d ∧ 1 ≤ d ∧ (d ≤ 3652060 ∨ d = 1) ∧ n ≤ 3652060 ∧ Hid (n = cnt c.off c.hol 1 (d - 1).toNat) ∧ Hid (Below w.heap.size w wr)) (fun _ t9 _ => (3652060 - intOf t9).toNat)
        case atStart => exact ⟨0, 1, rfl, rfl, Int.le_refl _, .inr rfl, by omega, by show 0 = cnt _ _ _ _; rw [show (1 - 1 : Int).toNat = 0 by omega]; rfl, Below.refl _ _⟩
        case round =>
          obtain ⟨n, d, rfl, rfl, hd1, hd2, hn, HN, HB⟩ := hrel
          by_cases hlt : d < 3652060
          · have hlt' : decide (d < 3652060) = true := decide_eq_true hlt
            have HNx := Lib.hid (cnt_next c.off c.hol 1 d hd1)
            have HLe := Lib.hid (cnt_le c.off c.hol 1 (d + 1 - 1).toNat)
            have HWv := Lib.hid (show worksB c d = wk c.off c.hol d by unfold worksB; simp [show Gd d from ⟨by omega, by omega⟩])
            go_wp2_with fail
            refine (works_any c hh b o A hc d _ (HC.out.ext HB.out)).mono ?_
            rintro e w1 ⟨rfl, nq, rfl⟩
            rw [HWv.out]
            have HB1 := Lib.hid (ext_trans HB.out (ext_drewN wr nq))
            generalize wk c.off c.hol d = g at *
            cases g
            · have HN1 := Lib.hid (show n = cnt c.off c.hol 1 (d + 1 - 1).toNat by rw [HNx.out, HN.out]; simp)
              go_wp2_with fail
              go_roundw
              case rel => exact ⟨n, d + 1, rfl, rfl, by omega, by omega, hn, HN1.out, HB1.out⟩
              case measure => simp [intOf]; omega
            · have HN1 := Lib.hid (show n + 1 = cnt c.off c.hol 1 (d + 1 - 1).toNat by rw [HNx.out, HN.out]; simp)
              have hn2 : n + 1 ≤ 3652060 := by have h1 := HN1.out; have h2 := HLe.out; omega
              go_wp2_with fail
              go_roundw
              case rel => exact ⟨n + 1, d + 1, by go_num, rfl, by omega, by omega, hn2, HN1.out, HB1.out⟩
              case measure => simp [intOf]; omega
          · have hlt' : decide (d < 3652060) = false := decide_eq_false hlt
            have HZ := Lib.hid (show (d - 1).toNat = ((3652060 : Int) - 1).toNat by omega)
            go_wp2_with fail
            go_ret
            exact ⟨ret_int (by rw [HI.out, HF.out, HN.out, HZ.out]), HB.out⟩
      · have h1' : decide (3652060 < f) = false := decide_eq_false h1
        have HF := Lib.hid (cntR_raw c (f := t) (t := f) (a := 1) (z := f) (by omega) (by rw [if_pos l1]) (by rw [if_neg h1]))
        go_enter Tryd.func24, Tryd.ntmps24
        go_wp2_with fail
        go_loopw [8, 9] (fun t8 t9 wr => ∃ (n : Nat) (d : Int), t8 = .int .i64 n ∧ t9 = .int .i64 d ∧ 1 ≤ d ∧ (d ≤ f ∨ d = 1) ∧ n ≤ 3652060 ∧ Hid (n = cnt c.off c.hol 1 (d - 1).toNat) ∧ Hid (Below w.heap.size w wr)) (fun _ t9 _ => (f - intOf t9).toNat)
        case atStart => exact ⟨0, 1, rfl, rfl, Int.le_refl _, .inr rfl, by omega, by show 0 = cnt _ _ _ _; rw [show (1 - 1 : Int).toNat = 0 by omega]; rfl, Below.refl _ _⟩
        case round =>
          obtain ⟨n, d, rfl, rfl, hd1, hd2, hn, HN, HB⟩ := hrel
          by_cases hlt : d < f
          · have hlt' : decide (d < f) = true := decide_eq_true hlt
            have HNx := Lib.hid (cnt_next c.off c.hol 1 d hd1)
            have HLe := Lib.hid (cnt_le c.off c.hol 1 (d + 1 - 1).toNat)
            have HWv := Lib.hid (show worksB c d = wk c.off c.hol d by unfold worksB; simp [show Gd d from ⟨by omega, by omega⟩])
            go_wp2_with fail
            refine (works_any c hh b o A hc d _ (HC.out.ext HB.out)).mono ?_
            rintro e w1 ⟨rfl, nq, rfl⟩
            rw [HWv.out]
            have HB1 := Lib.hid (ext_trans HB.out (ext_drewN wr nq))
            generalize wk c.off c.hol d = g at *
            cases g
            · have HN1 := Lib.hid (show n = cnt c.off c.hol 1 (d + 1 - 1).toNat by rw [HNx.out, HN.out]; simp)
              go_wp2_with fail
              go_roundw
              case rel => exact ⟨n, d + 1, rfl, rfl, by omega, by omega, hn, HN1.out, HB1.out⟩
              case measure => simp [intOf]; omega
            · have HN1 := Lib.hid (show n + 1 = cnt c.off c.hol 1 (d + 1 - 1).toNat by rw [HNx.out, HN.out]; simp)
              have hn2 : n + 1 ≤ 3652060 := by have h1 := HN1.out; have h2 := HLe.out; omega
              go_wp2_with fail
              go_roundw
              case rel => exact ⟨n + 1, d + 1, by go_num, rfl, by omega, by omega, hn2, HN1.out, HB1.out⟩
              case measure => simp [intOf]; omega
          · have hlt' : decide (d < f) = false := decide_eq_false hlt
            have HZ := Lib.hid (show (d - 1).toNat = ((f : Int) - 1).toNat by omega)
            go_wp2_with fail
            go_ret
            exact ⟨ret_int (by rw [HI.out, HF.out, HN.out, HZ.out]), HB.out⟩
    · have l1' : decide (t < 1) = false := decide_eq_false l1
      by_cases h1 : 3652060 < f
      · have h1' : decide (3652060 < f) = true := decide_eq_true h1
        have HF := Lib.hid (cntR_raw c (f := t) (t := f) (a := t) (z := 3652060) (by omega) (by rw [if_neg l1]) (by rw [if_pos h1]))
        go_enter Tryd.func24, Tryd.ntmps24
        go_wp2_with fail
        go_loopw [8, 9] (fun t8 t9 wr => ∃ (n : Nat) (d : Int), t8 = .int .i64 n ∧ t9 = .int .i64 d ∧ t ≤ d ∧ (d ≤ 3652060 ∨ d = t) ∧ n ≤ 3652060 ∧ Hid (n = cnt c.off c.hol t (d - t).toNat) ∧ Hid (Below w.heap.size w wr)) (fun _ t9 _ => (3652060 - intOf t9).toNat)
        case atStart => exact ⟨0, t, rfl, rfl, Int.le_refl _, .inr rfl, by omega, by show 0 = cnt _ _ _ _; rw [show (t - t : Int).toNat = 0 by omega]; rfl, Below.refl _ _⟩
        case round =>
          obtain ⟨n, d, rfl, rfl, hd1, hd2, hn, HN, HB⟩ := hrel
          by_cases hlt : d < 3652060
          · have hlt' : decide (d < 3652060) = true := decide_eq_true hlt
            have HNx := Lib.hid (cnt_next c.off c.hol t d hd1)
            have HLe := Lib.hid (cnt_le c.off c.hol t (d + 1 - t).toNat)
            have HWv := Lib.hid (show worksB c d = wk c.off c.hol d by unfold worksB; simp [show Gd d from ⟨by omega, by omega⟩])
            go_wp2_with fail
            refine (works_any c hh b o A hc d _ (HC.out.ext HB.out)).mono ?_
            rintro e w1 ⟨rfl, nq, rfl⟩
            rw [HWv.out]
            have HB1 := Lib.hid (ext_trans HB.out (ext_drewN wr nq))
            generalize wk c.off c.hol d = g at *
            cases g
            · have HN1 := Lib.hid (show n = cnt c.off c.hol t (d + 1 - t).toNat by rw [HNx.out, HN.out]; simp)
              go_wp2_with fail
              go_roundw
              case rel => exact ⟨n, d + 1, rfl, rfl, by omega, by omega, hn, HN1.out, HB1.out⟩
              case measure => simp [intOf]; omega
            · have HN1 := Lib.hid (show n + 1 = cnt c.off c.hol t (d + 1 - t).toNat by rw [HNx.out, HN.out]; simp)
              have hn2 : n + 1 ≤ 3652060 := by have h1 := HN1.out; have h2 := HLe.out; omega
              go_wp2_with fail
              go_roundw
              case rel => exact ⟨n + 1, d + 1, by go_num, rfl, by omega, by omega, hn2, HN1.out, HB1.out⟩
              case measure => simp [intOf]; omega
          · have hlt' : decide (d < 3652060) = false := decide_eq_false hlt
            have HZ := Lib.hid (show (d - t).toNat = ((3652060 : Int) - t).toNat by omega)
            go_wp2_with fail
            go_ret
            exact ⟨ret_int (by rw [HI.out, HF.out, HN.out, HZ.out]), HB.out⟩
      · have h1' : decide (3652060 < f) = false := decide_eq_false h1
        have HF := Lib.hid (cntR_raw c (f := t) (t := f) (a := t) (z := f) (by omega) (by rw [if_neg l1]) (by rw [if_neg h1]))
        go_enter Tryd.func24, Tryd.ntmps24
        go_wp2_with fail
        go_loopw [8, 9] (fun t8 t9 wr => ∃ (n : Nat) (d : Int), t8 = .int .i64 n ∧ t9 = .int .i64 d ∧ t ≤ d ∧ (d ≤ f ∨ d = t) ∧ n ≤ 3652060 ∧ Hid (n = cnt c.off c.hol t (d - t).toNat) ∧ Hid (Below w.heap.size w wr)) (fun _ t9 _ => (f - intOf t9).toNat)
        case atStart => exact ⟨0, t, rfl, rfl, Int.le_refl _, .inr rfl, by omega, by show 0 = cnt _ _ _ _; rw [show (t - t : Int).toNat = 0 by omega]; rfl, Below.refl _ _⟩
        case round =>
          obtain ⟨n, d, rfl, rfl, hd1, hd2, hn, HN, HB⟩ := hrel
          by_cases hlt : d < f
          · have hlt' : decide (d < f) = true := decide_eq_true hlt
            have HNx := Lib.hid (cnt_next c.off c.hol t d hd1)
            have HLe := Lib.hid (cnt_le c.off c.hol t (d + 1 - t).toNat)
            have HWv := Lib.hid (show worksB c d = wk c.off c.hol d by unfold worksB; simp [show Gd d from ⟨by omega, by omega⟩])
            go_wp2_with fail
            refine (works_any c hh b o A hc d _ (HC.out.ext HB.out)).mono ?_
            rintro e w1 ⟨rfl, nq, rfl⟩
            rw [HWv.out]
            have HB1 := Lib.hid (ext_trans HB.out (ext_drewN wr nq))
            generalize wk c.off c.hol d = g at *
            cases g
            · have HN1 := Lib.hid (show n = cnt c.off c.hol t (d + 1 - t).toNat by rw [HNx.out, HN.out]; simp)
              go_wp2_with fail
              go_roundw
              case rel => exact ⟨n, d + 1, rfl, rfl, by omega, by omega, hn, HN1.out, HB1.out⟩
              case measure => simp [intOf]; omega
            · have HN1 := Lib.hid (show n + 1 = cnt c.off c.hol t (d + 1 - t).toNat by rw [HNx.out, HN.out]; simp)
              have hn2 : n + 1 ≤ 3652060 := by have h1 := HN1.out; have h2 := HLe.out; omega
              go_wp2_with fail
              go_roundw
              case rel => exact ⟨n + 1, d + 1, by go_num, rfl, by omega, by omega, hn2, HN1.out, HB1.out⟩
              case measure => simp [intOf]; omega
          · have hlt' : decide (d < f) = false := decide_eq_false hlt
            have HZ := Lib.hid (show (d - t).toNat = ((f : Int) - t).toNat by omega)
            go_wp2_with fail
            go_ret
            exact ⟨ret_int (by rw [HI.out, HF.out, HN.out, HZ.out]), HB.out⟩
  · have HS := Lib.hid hs
    have hs' : decide (t < f) = false := by simp; omega
    have HI := Lib.hid (show cntI c f t = cntR c f t by unfold cntI; rw [if_neg HS.out])
    by_cases l1 : f < 1
    · have l1' : decide (f < 1) = true := decide_eq_true l1
      by_cases h1 : 3652060 < t
      · have h1' : decide (3652060 < t) = true := decide_eq_true h1
        have HF := Lib.hid (cntR_raw c (f := f) (t := t) (a := 1) (z := 3652060) (by omega) (by rw [if_pos l1]) (by rw [if_pos h1]))
        go_enter Tryd.func24, Tryd.ntmps24
        go_wp2_with fail
        go_loopw [8, 9] (fun t8 t9 wr => ∃ (n : Nat) (d : Int), t8 = .int .i64 n ∧ t9 = .int .i64 d ∧ 1 ≤ d ∧ (d ≤ 3652060 ∨ d = 1) ∧ n ≤ 3652060 ∧ Hid (n = cnt c.off c.hol 1 (d - 1).toNat) ∧ Hid (Below w.heap.size w wr)) (fun _ t9 _ => (3652060 - intOf t9).toNat)
        case atStart => exact ⟨0, 1, rfl, rfl, Int.le_refl _, .inr rfl, by omega, by show 0 = cnt _ _ _ _; rw [show (1 - 1 : Int).toNat = 0 by omega]; rfl, Below.refl _ _⟩
        case round =>
          obtain ⟨n, d, rfl, rfl, hd1, hd2, hn, HN, HB⟩ := hrel
          by_cases hlt : d < 3652060
          · have hlt' : decide (d < 3652060) = true := decide_eq_true hlt
            have HNx := Lib.hid (cnt_next c.off c.hol 1 d hd1)
            have HLe := Lib.hid (cnt_le c.off c.hol 1 (d + 1 - 1).toNat)
            have HWv := Lib.hid (show worksB c d = wk c.off c.hol d by unfold worksB; simp [show Gd d from ⟨by omega, by omega⟩])
            go_wp2_with fail
            refine (works_any c hh b o A hc d _ (HC.out.ext HB.out)).mono ?_
            rintro e w1 ⟨rfl, nq, rfl⟩
            rw [HWv.out]
            have HB1 := Lib.hid (ext_trans HB.out (ext_drewN wr nq))
            generalize wk c.off c.hol d = g at *
            cases g
            · have HN1 := Lib.hid (show n = cnt c.off c.hol 1 (d + 1 - 1).toNat by rw [HNx.out, HN.out]; simp)
              go_wp2_with fail
              go_roundw
              case rel => exact ⟨n, d + 1, rfl, rfl, by omega, by omega, hn, HN1.out, HB1.out⟩
              case measure => simp [intOf]; omega
            · have HN1 := Lib.hid (show n + 1 = cnt c.off c.hol 1 (d + 1 - 1).toNat by rw [HNx.out, HN.out]; simp)
              have hn2 : n + 1 ≤ 3652060 := by have h1 := HN1.out; have h2 := HLe.out; omega
              go_wp2_with fail
              go_roundw
              case rel => exact ⟨n + 1, d + 1, by go_num, rfl, by omega, by omega, hn2, HN1.out, HB1.out⟩
              case measure => simp [intOf]; omega
          · have hlt' : decide (d < 3652060) = false := decide_eq_false hlt
            have HZ := Lib.hid (show (d - 1).toNat = ((3652060 : Int) - 1).toNat by omega)
            go_wp2_with fail
            go_ret
            exact ⟨ret_int (by rw [HI.out, HF.out, HN.out, HZ.out]), HB.out⟩
      · have h1' : decide (3652060 < t) = false := decide_eq_false h1
        have HF := Lib.hid (cntR_raw c (f := f) (t := t) (a := 1) (z := t) (by omega) (by rw [if_pos l1]) (by rw [if_neg h1]))
        go_enter Tryd.func24, Tryd.ntmps24
        go_wp2_with fail
        go_loopw [8, 9] (fun t8 t9 wr => ∃ (n : Nat) (d : Int), t8 = .int .i64 n ∧ t9 = .int .i64 d ∧ 1 ≤ d ∧ (d ≤ t ∨ d = 1) ∧ n ≤ 3652060 ∧ Hid (n = cnt c.off c.hol 1 (d - 1).toNat) ∧ Hid (Below w.heap.size w wr)) (fun _ t9 _ => (t - intOf t9).toNat)
        case atStart => exact ⟨0, 1, rfl, rfl, Int.le_refl _, .inr rfl, by omega, by show 0 = cnt _ _ _ _; rw [show (1 - 1 : Int).toNat = 0 by omega]; rfl, Below.refl _ _⟩
        case round =>
          obtain ⟨n, d, rfl, rfl, hd1, hd2, hn, HN, HB⟩ := hrel
          by_cases hlt : d < t
          · have hlt' : decide (d < t) = true := decide_eq_true hlt
            have HNx := Lib.hid (cnt_next c.off c.hol 1 d hd1)
            have HLe := Lib.hid (cnt_le c.off c.hol 1 (d + 1 - 1).toNat)
            have HWv := Lib.hid (show worksB c d = wk c.off c.hol d by unfold worksB; simp [show Gd d from ⟨by omega, by omega⟩])
            go_wp2_with fail
            refine (works_any c hh b o A hc d _ (HC.out.ext HB.out)).mono ?_
            rintro e w1 ⟨rfl, nq, rfl⟩
            rw [HWv.out]
            have HB1 := Lib.hid (ext_trans HB.out (ext_drewN wr nq))
            generalize wk c.off c.hol d = g at *
            cases g
            · have HN1 := Lib.hid (show n = cnt c.off c.hol 1 (d + 1 - 1).toNat by rw [HNx.out, HN.out]; simp)
              go_wp2_with fail
              go_roundw
              case rel => exact ⟨n, d + 1, rfl, rfl, by omega, by omega, hn, HN1.out, HB1.out⟩
              case measure => simp [intOf]; omega
            · have HN1 := Lib.hid (show n + 1 = cnt c.off c.hol 1 (d + 1 - 1).toNat by rw [HNx.out, HN.out]; simp)
              have hn2 : n + 1 ≤ 3652060 := by have h1 := HN1.out; have h2 := HLe.out; omega
              go_wp2_with fail
              go_roundw
              case rel => exact ⟨n + 1, d + 1, by go_num, rfl, by omega, by omega, hn2, HN1.out, HB1.out⟩
              case measure => simp [intOf]; omega
          · have hlt' : decide (d < t) = false := decide_eq_false hlt
            have HZ := Lib.hid (show (d - 1).toNat = ((t : Int) - 1).toNat by omega)
            go_wp2_with fail
            go_ret
            exact ⟨ret_int (by rw [HI.out, HF.out, HN.out, HZ.out]), HB.out⟩
    · have l1' : decide (f < 1) = false := decide_eq_false l1
      by_cases h1 : 3652060 < t
      · have h1' : decide (3652060 < t) = true := decide_eq_true h1
        have HF := Lib.hid (cntR_raw c (f := f) (t := t) (a := f) (z := 3652060) (by omega) (by rw [if_neg l1]) (by rw [if_pos h1]))
        go_enter Tryd.func24, Tryd.ntmps24
        go_wp2_with fail
        go_loopw [8, 9] (fun t8 t9 wr => ∃ (n : Nat) (d : Int), t8 = .int .i64 n ∧ t9 = .int .i64 d ∧ f ≤ d ∧ (d ≤ 3652060 ∨ d = f) ∧ n ≤ 3652060 ∧ Hid (n = cnt c.off c.hol f (d - f).toNat) ∧ Hid (Below w.heap.size w wr)) (fun _ t9 _ => (3652060 - intOf t9).toNat)
        case atStart => exact ⟨0, f, rfl, rfl, Int.le_refl _, .inr rfl, by omega, by show 0 = cnt _ _ _ _; rw [show (f - f : Int).toNat = 0 by omega]; rfl, Below.refl _ _⟩
        case round =>
          obtain ⟨n, d, rfl, rfl, hd1, hd2, hn, HN, HB⟩ := hrel
          by_cases hlt : d < 3652060
          · have hlt' : decide (d < 3652060) = true := decide_eq_true hlt
            have HNx := Lib.hid (cnt_next c.off c.hol f d hd1)
            have HLe := Lib.hid (cnt_le c.off c.hol f (d + 1 - f).toNat)
            have HWv := Lib.hid (show worksB c d = wk c.off c.hol d by unfold worksB; simp [show Gd d from ⟨by omega, by omega⟩])
            go_wp2_with fail
            refine (works_any c hh b o A hc d _ (HC.out.ext HB.out)).mono ?_
            rintro e w1 ⟨rfl, nq, rfl⟩
            rw [HWv.out]
            have HB1 := Lib.hid (ext_trans HB.out (ext_drewN wr nq))
            generalize wk c.off c.hol d = g at *
            cases g
            · have HN1 := Lib.hid (show n = cnt c.off c.hol f (d + 1 - f).toNat by rw [HNx.out, HN.out]; simp)
              go_wp2_with fail
              go_roundw
              case rel => exact ⟨n, d + 1, rfl, rfl, by omega, by omega, hn, HN1.out, HB1.out⟩
              case measure => simp [intOf]; omega
            · have HN1 := Lib.hid (show n + 1 = cnt c.off c.hol f (d + 1 - f).toNat by rw [HNx.out, HN.out]; simp)
              have hn2 : n + 1 ≤ 3652060 := by have h1 := HN1.out; have h2 := HLe.out; omega
              go_wp2_with fail
              go_roundw
              case rel => exact ⟨n + 1, d + 1, by go_num, rfl, by omega, by omega, hn2, HN1.out, HB1.out⟩
              case measure => simp [intOf]; omega
          · have hlt' : decide (d < 3652060) = false := decide_eq_false hlt
            have HZ := Lib.hid (show (d - f).toNat = ((3652060 : Int) - f).toNat by omega)
            go_wp2_with fail
            go_ret
            exact ⟨ret_int (by rw [HI.out, HF.out, HN.out, HZ.out]), HB.out⟩
      · have h1' : decide (3652060 < t) = false := decide_eq_false h1
        have HF := Lib.hid (cntR_raw c (f := f) (t := t) (a := f) (z := t) (by omega) (by rw [if_neg l1]) (by rw [if_neg h1]))
        go_enter Tryd.func24, Tryd.ntmps24
        go_wp2_with fail
        go_loopw [8, 9] (fun t8 t9 wr => ∃ (n : Nat) (d : Int), t8 = .int .i64 n ∧ t9 = .int .i64 d ∧ f ≤ d ∧ (d ≤ t ∨ d = f) ∧ n ≤ 3652060 ∧ Hid (n = cnt c.off c.hol f (d - f).toNat) ∧ Hid (Below w.heap.size w wr)) (fun _ t9 _ => (t - intOf t9).toNat)
        case atStart => exact ⟨0, f, rfl, rfl, Int.le_refl _, .inr rfl, by omega, by show 0 = cnt _ _ _ _; rw [show (f - f : Int).toNat = 0 by omega]; rfl, Below.refl _ _⟩
        case round =>
          obtain ⟨n, d, rfl, rfl, hd1, hd2, hn, HN, HB⟩ := hrel
          by_cases hlt : d < t
          · have hlt' : decide (d < t) = true := decide_eq_true hlt
            have HNx := Lib.hid (cnt_next c.off c.hol f d hd1)
            have HLe := Lib.hid (cnt_le c.off c.hol f (d + 1 - f).toNat)
            have HWv := Lib.hid (show worksB c d = wk c.off c.hol d by unfold worksB; simp [show Gd d from ⟨by omega, by omega⟩])
            go_wp2_with fail
            refine (works_any c hh b o A hc d _ (HC.out.ext HB.out)).mono ?_
            rintro e w1 ⟨rfl, nq, rfl⟩
            rw [HWv.out]
            have HB1 := Lib.hid (ext_trans HB.out (ext_drewN wr nq))
            generalize wk c.off c.hol d = g at *
            cases g
            · have HN1 := Lib.hid (show n = cnt c.off c.hol f (d + 1 - f).toNat by rw [HNx.out, HN.out]; simp)
              go_wp2_with fail
              go_roundw
              case rel => exact ⟨n, d + 1, rfl, rfl, by omega, by omega, hn, HN1.out, HB1.out⟩
              case measure => simp [intOf]; omega
            · have HN1 := Lib.hid (show n + 1 = cnt c.off c.hol f (d + 1 - f).toNat by rw [HNx.out, HN.out]; simp)
              have hn2 : n + 1 ≤ 3652060 := by have h1 := HN1.out; have h2 := HLe.out; omega
              go_wp2_with fail
              go_roundw
              case rel => exact ⟨n + 1, d + 1, by go_num, rfl, by omega, by omega, hn2, HN1.out, HB1.out⟩
              case measure => simp [intOf]; omega
          · have hlt' : decide (d < t) = false := decide_eq_false hlt
            have HZ := Lib.hid (show (d - f).toNat = ((t : Int) - f).toNat by omega)
            go_wp2_with fail
            go_ret
            exact ⟨ret_int (by rw [HI.out, HF.out, HN.out, HZ.out]), HB.out⟩
end Go.Proofs.YtnbpdknmbjkfeaaDoor.CdM

/- Facts: the law's comparison of days and people. -/
import Derived.Test.YtcpcejmlnhflpaaDoorFkK
namespace Go.Proofs.YtcpcejmlnhflpaaDoor.Fk
open Go.RowKit Mem Nest Err App Go.Sort

set_option maxRecDepth 20000 in
theorem same_ints (xs ys : List Int) (A B : Option Addr) (ca cb : Nat) (w : World) (hx : SL w A ca xs) (hy : SL w B cb ys) (hl : xs.length ≤ 100000) :
    Calls Tryd.prog 9 #[.slice A xs.length ca, .slice B ys.length cb] w (fun e w' => e = .returned (.bool (decide (xs = ys))) ∧ Below w.heap.size w w') := by
  have HX := Lib.hid hx
  have HY := Lib.hid hy
  clear hx hy
  go_enter Tryd.func9, Tryd.ntmps9
  by_cases hlen : xs.length = ys.length
  · have hq : ((xs.length : Int) == (ys.length : Int)) = true := by simp [hlen]
    have hqb : ((xs.length : Int) != (ys.length : Int)) = false := by simp [hlen]
    have HL := Lib.hid hlen
    clear hlen
    go_wp2_with fail
    go_loopw [5] (fun t5 wr => ∃ i : Nat, t5 = .int .i64 i ∧ i ≤ xs.length ∧ Hid (Below w.heap.size w wr) ∧ Hid (xs.take i = ys.take i)) (fun t5 _ => xs.length - (intOf t5).toNat)
    case atStart => exact ⟨0, rfl, Nat.zero_le _, Below.refl _ _, rfl⟩
    case round =>
      obtain ⟨i, rfl, hi, HB, HT⟩ := hrel
      by_cases hlt : i < xs.length
      · have hltc : (i : Int) < (xs.length : Int) := by omega
        have hlt2 : i < ys.length := by have := HL.out; omega
        have hltc2 : (i : Int) < (ys.length : Int) := by omega
        obtain ⟨xb, xo, rfl, r0⟩ := (HX.out.ext HB.out).rd.at_ (k := i) (by simp [ints]; exact hlt)
        obtain ⟨yb, yo, rfl, r1⟩ := (HY.out.ext HB.out).rd.at_ (k := i) (by simp [ints]; exact hlt2)
        simp only [ints, List.getElem_map] at r0 r1
        have HTS := Lib.hid (show xs[i] = ys[i] → xs.take (i + 1) = ys.take (i + 1) from fun h => by rw [List.take_succ_eq_append_getElem hlt, List.take_succ_eq_append_getElem hlt2, HT.out, h])
        have HNE := Lib.hid (show xs[i] ≠ ys[i] → decide (xs = ys) = false from fun h => by rw [decide_eq_false_iff_not]; intro e; subst e; exact h rfl)
        obtain ⟨x, hx⟩ : ∃ x, xs[i]'hlt = x := ⟨_, rfl⟩
        obtain ⟨y, hy⟩ : ∃ y, ys[i]'hlt2 = y := ⟨_, rfl⟩
        rw [hx] at r0 HTS HNE
        rw [hy] at r1 HTS HNE
        clear hx hy
        by_cases he : x = y
        · have q : (x == y) = true := by simp [he]
          have qb : (x != y) = false := by simp [he]
          have HK := Lib.hid (HTS.out he)
          clear he HTS HNE
          go_wp2_with fail
          go_region_held3 (fun w' => w'.cell? ⟨xb, xo + i, none⟩ = some (.int .i64 x) ∧ w'.cell? ⟨yb, yo + i, none⟩ = some (.int .i64 y)) ((first | exact ⟨r0, r1⟩ | exact ⟨cell_ext (ext_drewN wr 1) r0, cell_ext (ext_drewN wr 1) r1⟩ | go_keep)) (fail)
          go_wp2_with fail
          go_roundw
          case rel => exact ⟨i + 1, by go_num, by omega, HB.out.trans ((ext_drewN wr 1).mono HB.out.size), HK.out⟩
          case measure => simp [intOf]; omega
        · have q : (x == y) = false := by simp [he]
          have qb : (x != y) = true := by simp [he]
          have HK := Lib.hid (HNE.out he)
          clear he HTS HNE
          go_wp2_with fail
          go_region_held3 (fun w' => w'.cell? ⟨xb, xo + i, none⟩ = some (.int .i64 x) ∧ w'.cell? ⟨yb, yo + i, none⟩ = some (.int .i64 y)) ((first | exact ⟨r0, r1⟩ | exact ⟨cell_ext (ext_drewN wr 1) r0, cell_ext (ext_drewN wr 1) r1⟩ | go_keep)) (fail)
          go_wp2_with fail
          go_ret
          exact ⟨by rw [HK.out]; rfl, HB.out.trans ((ext_drewN wr 1).mono HB.out.size)⟩
      · obtain rfl : xs.length = i := by omega
        have hlc : ¬ (xs.length : Int) < (xs.length : Int) := by omega
        have HK := Lib.hid (show decide (xs = ys) = true by rw [decide_eq_true_iff]; have h := HT.out; rw [List.take_length, HL.out, List.take_length] at h; exact h)
        go_wp2_with fail
        go_ret
        exact ⟨by rw [HK.out]; rfl, HB.out⟩
  · have hq : ((xs.length : Int) == (ys.length : Int)) = false := by simp; omega
    have hqb : ((xs.length : Int) != (ys.length : Int)) = true := by simp; omega
    have HN := Lib.hid (show decide (xs = ys) = false by rw [decide_eq_false_iff_not]; intro e; exact hlen (by rw [e]))
    clear hlen
    go_wp2_with fail
    go_ret
    exact ⟨by rw [HN.out]; rfl, Below.refl _ _⟩
end Go.Proofs.YtcpcejmlnhflpaaDoor.Fk

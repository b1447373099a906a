/- The document's order and each, against the plain answer. -/
import Derived.Test.YtnchlnfenebomaaGreatDoorHdQ
import Derived.Test.YtnchlnfenebomaaGreatDoorHdI
import Derived.Deep.DeepCutAuto
namespace Go.Proofs.YtnchlnfenebomaaGreatDoor.Hd
open Go.RowKit Mem Nest Fk Coin Err

def BRPost (r : Bool × Nat) (w : World) (e : Ending) (w' : World) : Prop := e = .returned (.tuple #[.bool r.1, .int .i64 (r.2 : Int)]) ∧ Below w.heap.size w w'
def strC (l : List (List UInt8)) : List Value := l.map fun s => .string ⟨s.toArray⟩
def AmPost (s : List UInt8) (l : List (List UInt8)) (w : World) (e : Ending) (w' : World) : Prop := ∃ i : Int, e = .returned (.int .i64 i) ∧ (i < 0 ↔ s ∉ l) ∧ w = w'
set_option maxRecDepth 20000 in
theorem among_any (s : List UInt8) (l : List (List UInt8)) (hl : l.length ≤ 1000) (A : Option Addr) (c : Nat) (w : World) (hr : Rd w A (strC l)) : Calls Tryz.prog 50 #[.string ⟨s.toArray⟩, .slice A l.length c] w (AmPost s l w) := by
  have HR := Lib.hid hr
  clear hr
  go_enter Tryz.func50, Tryz.ntmps50
  go_wp2_with fail
  go_loop [5] (fun t5 => ∃ i : Nat, t5 = .int .i64 i ∧ i ≤ l.length ∧ Hid (∀ j (h : j < l.length), j < i → l[j] ≠ s)) (fun t5 => l.length - (intOf t5).toNat)
  case atStart => exact ⟨0, rfl, Nat.zero_le _, fun j _ hj => absurd hj (by omega)⟩
  case round =>
    obtain ⟨i, rfl, hi, HN⟩ := hrel
    by_cases hlt : i < l.length
    · have hltc : (i : Int) < (l.length : Int) := by omega
      obtain ⟨b, o, rfl, r0⟩ := HR.out.at_ (k := i) (by simpa [strC] using hlt)
      simp only [strC, List.getElem_map] at r0
      have HIn := Lib.hid (List.getElem_mem hlt)
      have HN2 := Lib.hid (fun (h : l[i] ≠ s) j (h1 : j < l.length) (h2 : j < i + 1) => (by
        by_cases e : j = i
        · subst e; exact h
        · exact HN.out j h1 (by omega) : l[j] ≠ s))
      generalize l[i] = x at r0 HIn HN2
      by_cases he : x = s
      · have hq : (x == s) = true := by simpa using he
        have HE := Lib.hid he
        clear he
        go_wp2_with fail
        go_ret
        exact ⟨i, rfl, iff_of_false (by omega) (fun h => h (HE.out ▸ HIn.out)), rfl⟩
      · have hq : (x == s) = false := by simpa using he
        have HE := Lib.hid he
        clear he
        go_wp2_with fail
        go_round
        case rel => exact ⟨i + 1, by go_num, by omega, HN2.out HE.out⟩
        case measure => simp [intOf]; omega
    · obtain rfl : l.length = i := by omega
      have hlc : ¬ (l.length : Int) < (l.length : Int) := by omega
      go_wp2_with fail
      go_ret
      exact ⟨-1, rfl, iff_of_true (by decide) (fun h => by obtain ⟨j, hj, e⟩ := List.mem_iff_getElem.1 h; exact HN.out j hj hj e), rfl⟩
theorem cmp_mem {k : List UInt8} : k ∉ [[60], [60, 61], [61], [60, 62], [62, 61], [62]] ↔ cmpF k = none := by
  unfold cmpF
  by_cases h0 : k = [60]
  · rw [if_pos h0]
    exact iff_of_false (fun h => h (by rw [h0]; decide)) (by simp)
  rw [if_neg h0]
  by_cases h1 : k = [60, 61]
  · rw [if_pos h1]
    exact iff_of_false (fun h => h (by rw [h1]; decide)) (by simp)
  rw [if_neg h1]
  by_cases h2 : k = [61]
  · rw [if_pos h2]
    exact iff_of_false (fun h => h (by rw [h2]; decide)) (by simp)
  rw [if_neg h2]
  by_cases h3 : k = [60, 62]
  · rw [if_pos h3]
    exact iff_of_false (fun h => h (by rw [h3]; decide)) (by simp)
  rw [if_neg h3]
  by_cases h4 : k = [62, 61]
  · rw [if_pos h4]
    exact iff_of_false (fun h => h (by rw [h4]; decide)) (by simp)
  rw [if_neg h4]
  by_cases h5 : k = [62]
  · rw [if_pos h5]
    exact iff_of_false (fun h => h (by rw [h5]; decide)) (by simp)
  rw [if_neg h5]
  exact iff_of_true (by simp [h0, h1, h2, h3, h4, h5]) rfl
set_option maxRecDepth 100000 in
set_option maxHeartbeats 8000000 in
theorem order_bad {q : Ask} (_ : Okq q) (fb lb : Nat) (who : Int) (X : Nat → Prop) (d : Nat) (k s : List UInt8) (n : Int) (A : Option Addr) (c : Nat) (l : List Nd) (m : Nat) (hml : l.length = m) (hm : cmpF k = none ∨ m ≠ 2) (w : World) (hN : InW w X (d + 1) (.mk k s n A c l)) (hLr : Lr q fb lb who w) (hLf : Lf q fb w) :
    Calls Tryz.prog 46 #[.pointer (some ⟨lb, 0, none⟩), .agg #[.string ⟨k.toArray⟩, .string ⟨s.toArray⟩, .int .i64 n, .slice A m c]] w (BRPost (false, 9) w) := by
    have hlen : m ≤ 9223372036854775807 := by
      have h1 := hN.2.2.1.1
      have h2 := hN.2.2.1.2.1
      unfold maxLen at h2
      omega
    have HMw := Lib.hid hm
    clear hm hml
    have HN := Lib.hid hN
    have HLr0 := Lib.hid hLr
    have HLf0 := Lib.hid hLf
    obtain ⟨W, hW, hx, hbn⟩ := boxedR w k s n A c (m)
    have HX := Lib.hid hx
    have HBn := Lib.hid hbn
    have HNW := Lib.hid (hN.ext hx)
    have HLr := Lib.hid (hLr.ext hx)
    have HLf := Lib.hid (hLf.ext hx)
    have m0 := hbn.cell 0 rfl
    have m1 := hbn.cell 1 rfl
    have m2 := hbn.cell 2 rfl
    have m3 := hbn.cell 3 rfl
    clear hN hLr hLf hx hbn
    go_enter Tryz.func46, Tryz.ntmps46
    go_upto_region 1 with fail
    rw [show w.alloc (.cells #[.string ⟨k.toArray⟩, .string ⟨s.toArray⟩, .int .i64 n, .slice A m c] 25) = W from hW.symm]
    clear hW
    have hz6 := ext_alloc W (.cells (List.toArray [.string ⟨#[60]⟩, .string ⟨#[60, 61]⟩, .string ⟨#[61]⟩, .string ⟨#[60, 62]⟩, .string ⟨#[62, 61]⟩, .string ⟨#[62]⟩]) 9)
    have hr6 : Rd (W.alloc (.cells (List.toArray [.string ⟨#[60]⟩, .string ⟨#[60, 61]⟩, .string ⟨#[61]⟩, .string ⟨#[60, 62]⟩, .string ⟨#[62, 61]⟩, .string ⟨#[62]⟩]) 9)) (some ⟨W.heap.size, 0, none⟩) (strC [[60], [60, 61], [61], [60, 62], [62, 61], [62]]) := fun j u hj => ⟨W.heap.size, 0, rfl, by rw [Nat.zero_add]; exact (Blk.new W 9 [.string ⟨#[60]⟩, .string ⟨#[60, 61]⟩, .string ⟨#[61]⟩, .string ⟨#[60, 62]⟩, .string ⟨#[62, 61]⟩, .string ⟨#[62]⟩]).cell j hj⟩
    have HAm := Lib.hid (among_any k [[60], [60, 61], [61], [60, 62], [62, 61], [62]] (by decide) _ 6 _ hr6)
    obtain ⟨Z, hZ⟩ : ∃ Z, Z = W.alloc (.cells (List.toArray [.string ⟨#[60]⟩, .string ⟨#[60, 61]⟩, .string ⟨#[61]⟩, .string ⟨#[60, 62]⟩, .string ⟨#[62, 61]⟩, .string ⟨#[62]⟩]) 9) := ⟨_, rfl⟩
    rw [← hZ] at hz6 HAm
    have HZ6 := Lib.hid hz6
    have m0z := cell_ext hz6 m0
    have m3z := cell_ext hz6 m3
    have HZe := Lib.hid hZ
    have HAm2 := Lib.hid (show Calls Tryz.prog 50 #[.string ⟨k.toArray⟩, .slice (some ⟨W.heap.size, 0, none⟩) 6 6] (W.alloc (.cells #[.string ⟨#[60]⟩, .string ⟨#[60, 61]⟩, .string ⟨#[61]⟩, .string ⟨#[60, 62]⟩, .string ⟨#[62, 61]⟩, .string ⟨#[62]⟩] 9)) (AmPost k [[60], [60, 61], [61], [60, 62], [62, 61], [62]] Z) from by have h := HAm.out; rw [hZ] at h ⊢; exact h)
    clear hZ hr6 hz6
    go_wp2_with fail
    refine HAm2.out.mono ?_
    rintro e w1 ⟨i, rfl, hi, rfl⟩
    have HI := Lib.hid (hi.trans cmp_mem)
    clear hi
    by_cases h0 : i < 0
    · have hd : decide (i < 0) = true := by simpa using h0
      clear h0
      go_wp2_with fail
      go_ret2
      exact ⟨by rfl, ext_trans HX.out HZ6.out⟩
    · have hd : decide (i < 0) = false := by simpa using h0
      have hne : m ≠ 2 := HMw.out.resolve_left (fun h => h0 (HI.out.2 h))
      have hm1 : ((m : Int) != 2) = true := by simpa using (show (m : Int) ≠ 2 by omega)
      have hm2 : ((m : Int) == 2) = false := by simpa using (show (m : Int) ≠ 2 by omega)
      clear h0 hne
      go_wp2_with fail
      go_ret2
      exact ⟨by rfl, ext_trans HX.out HZ6.out⟩
set_option maxRecDepth 100000 in
set_option maxHeartbeats 8000000 in
theorem order2 {q : Ask} (hq : Okq q) (fb lb : Nat) (who : Int) (X : Nat → Prop) (d : Nat) (k s : List UInt8) (n : Int) (A : Option Addr) (c : Nat) (xk xs : List UInt8) (xn : Int) (xA : Option Addr) (xc : Nat) (xl : List Nd) (yk ys : List UInt8) (yn : Int) (yA : Option Addr) (yc : Nat) (yl : List Nd) (f : Int → Int → Bool) (hf : cmpF k = some f) (rr r2 : Int × Nat) (hrr : rr = evS d q (.mk xk xs xn xA xc xl) who) (hr2 : r2 = evS d q (.mk yk ys yn yA yc yl) who) (w : World) (hN : InW w X (d + 1) (.mk k s n A c [.mk xk xs xn xA xc xl, .mk yk ys yn yA yc yl])) (hLr : Lr q fb lb who w) (hLf : Lf q fb w) :
    Calls Tryz.prog 46 #[.pointer (some ⟨lb, 0, none⟩), .agg #[.string ⟨k.toArray⟩, .string ⟨s.toArray⟩, .int .i64 n, .slice A 2 c]] w (BRPost (twoB f rr r2) w) := by
    have HF := Lib.hid hf
    have HRX := Lib.hid hrr
    have HRY := Lib.hid hr2
    clear hf hrr hr2
    have HN := Lib.hid hN
    have HLr0 := Lib.hid hLr
    have HLf0 := Lib.hid hLf
    obtain ⟨W, hW, hx, hbn⟩ := boxedR w k s n A c (2)
    have HX := Lib.hid hx
    have HBn := Lib.hid hbn
    have HNW := Lib.hid (hN.ext hx)
    have HLr := Lib.hid (hLr.ext hx)
    have HLf := Lib.hid (hLf.ext hx)
    have m0 := hbn.cell 0 rfl
    have m1 := hbn.cell 1 rfl
    have m2 := hbn.cell 2 rfl
    have m3 := hbn.cell 3 rfl
    clear hN hLr hLf hx hbn
    go_enter Tryz.func46, Tryz.ntmps46
    go_upto_region 1 with fail
    rw [show w.alloc (.cells #[.string ⟨k.toArray⟩, .string ⟨s.toArray⟩, .int .i64 n, .slice A 2 c] 25) = W from hW.symm]
    clear hW
    have hz6 := ext_alloc W (.cells (List.toArray [.string ⟨#[60]⟩, .string ⟨#[60, 61]⟩, .string ⟨#[61]⟩, .string ⟨#[60, 62]⟩, .string ⟨#[62, 61]⟩, .string ⟨#[62]⟩]) 9)
    have hr6 : Rd (W.alloc (.cells (List.toArray [.string ⟨#[60]⟩, .string ⟨#[60, 61]⟩, .string ⟨#[61]⟩, .string ⟨#[60, 62]⟩, .string ⟨#[62, 61]⟩, .string ⟨#[62]⟩]) 9)) (some ⟨W.heap.size, 0, none⟩) (strC [[60], [60, 61], [61], [60, 62], [62, 61], [62]]) := fun j u hj => ⟨W.heap.size, 0, rfl, by rw [Nat.zero_add]; exact (Blk.new W 9 [.string ⟨#[60]⟩, .string ⟨#[60, 61]⟩, .string ⟨#[61]⟩, .string ⟨#[60, 62]⟩, .string ⟨#[62, 61]⟩, .string ⟨#[62]⟩]).cell j hj⟩
    have HAm := Lib.hid (among_any k [[60], [60, 61], [61], [60, 62], [62, 61], [62]] (by decide) _ 6 _ hr6)
    obtain ⟨Z, hZ⟩ : ∃ Z, Z = W.alloc (.cells (List.toArray [.string ⟨#[60]⟩, .string ⟨#[60, 61]⟩, .string ⟨#[61]⟩, .string ⟨#[60, 62]⟩, .string ⟨#[62, 61]⟩, .string ⟨#[62]⟩]) 9) := ⟨_, rfl⟩
    rw [← hZ] at hz6 HAm
    have HZ6 := Lib.hid hz6
    have m0z := cell_ext hz6 m0
    have m3z := cell_ext hz6 m3
    have HZe := Lib.hid hZ
    have HAm2 := Lib.hid (show Calls Tryz.prog 50 #[.string ⟨k.toArray⟩, .slice (some ⟨W.heap.size, 0, none⟩) 6 6] (W.alloc (.cells #[.string ⟨#[60]⟩, .string ⟨#[60, 61]⟩, .string ⟨#[61]⟩, .string ⟨#[60, 62]⟩, .string ⟨#[62, 61]⟩, .string ⟨#[62]⟩] 9)) (AmPost k [[60], [60, 61], [61], [60, 62], [62, 61], [62]] Z) from by have h := HAm.out; rw [hZ] at h ⊢; exact h)
    clear hZ hr6 hz6
    go_wp2_with fail
    refine HAm2.out.mono ?_
    rintro e w1 ⟨i, rfl, hi, rfl⟩
    have hd : decide (i < 0) = false := by
      rw [decide_eq_false_iff_not]
      intro h
      have := (hi.trans cmp_mem).1 h
      rw [HF.out] at this
      cases this
    clear hi
    have HLrZ := Lib.hid (HLr.out.ext HZ6.out)
    have HLfZ := Lib.hid (HLf.out.ext HZ6.out)
    obtain ⟨Y, hY⟩ : ∃ Y, Y = Z := ⟨_, rfl⟩
    obtain ⟨b', o', hA, t0, t1, t2, t3, hkd⟩ := (HNW.out.ext HZ6.out).kid (i := 0) (by simp)
    simp only [List.getElem_cons_zero, Nd.kind, Nd.word, Nd.n, Nd.A, Nd.c, Nd.kids, Nat.zero_mul, Nat.add_zero] at t0 t1 t2 t3
    have HC := Lib.hid (fun wx (hb : Below Z.heap.size Z wx) => (by have h := rsum_any hq fb X d (.mk xk xs xn xA xc xl) who lb wx (hkd.ext hb) (HLrZ.out.ext hb) (HLfZ.out.ext hb); unfold ndV at h; exact h : Calls Tryz.prog 14 #[.pointer (some ⟨lb, 0, none⟩), .agg #[.string ⟨xk.toArray⟩, .string ⟨xs.toArray⟩, .int .i64 xn, .slice xA xl.length xc]] wx (RPost (evS d q (.mk xk xs xn xA xc xl) who) wx)))
    have hok := evS_ok hq d (.mk xk xs xn xA xc xl) who
    rw [← HRX.out] at HC hok
    obtain rfl : A = some ⟨b', o', none⟩ := hA
    clear hkd hY
    go_wp2_with fail
    refine (HC.out _ (Below.refl _ _)).mono ?_
    rintro e w2 ⟨rfl, hb⟩
    have HB := Lib.hid (ext_trans HZ6.out hb)
    clear hb HC t0 t1 t2 t3 m0 m1 m2 m3 m0z m3z HLrZ HLfZ
    obtain ⟨z1, c1⟩ := rr
    rcases code_cases hok with e1 | ⟨e1, e2⟩
    rotate_left
    · simp only at e1 e2
      subst e2
      have HE2 := Lib.hid (show twoB f (0, c1) r2 = (false, c1) by unfold twoB; rw [if_pos e1])
      clear hok
      simp only
      go_wp2_with fail
      go_ret2
      exact ⟨by rw [HE2.out]; rfl, ext_trans HX.out HB.out⟩
    simp only at e1
    subst e1
    simp only
    clear hok
    have HLrZ := Lib.hid (HLr.out.ext HB.out)
    have HLfZ := Lib.hid (HLf.out.ext HB.out)
    obtain ⟨b', o', hA2, t0, t1, t2, t3, hkd⟩ := (HNW.out.ext HB.out).kid (i := 1) (by simp)
    simp only [List.getElem_cons_zero, List.getElem_cons_succ, Nd.kind, Nd.word, Nd.n, Nd.A, Nd.c, Nd.kids, Nat.one_mul] at t0 t1 t2 t3
    cases hA2
    have HC := Lib.hid (fun wx (hb : Below w2.heap.size w2 wx) => (by have h := rsum_any hq fb X d (.mk yk ys yn yA yc yl) who lb wx (hkd.ext hb) (HLrZ.out.ext hb) (HLfZ.out.ext hb); unfold ndV at h; exact h : Calls Tryz.prog 14 #[.pointer (some ⟨lb, 0, none⟩), .agg #[.string ⟨yk.toArray⟩, .string ⟨ys.toArray⟩, .int .i64 yn, .slice yA yl.length yc]] wx (RPost (evS d q (.mk yk ys yn yA yc yl) who) wx)))
    have hok := evS_ok hq d (.mk yk ys yn yA yc yl) who
    rw [← HRY.out] at HC hok
    clear hkd
    have m3 := cell_ext HB.out (HBn.out.cell 3 rfl)
    go_wp2_with fail
    refine (HC.out _ (Below.refl _ _)).mono ?_
    rintro e w3 ⟨rfl, hb⟩
    have HB3 := Lib.hid (ext_trans HB.out hb)
    clear hb HC t0 t1 t2 t3 m3 HLrZ HLfZ
    obtain ⟨z2, c2⟩ := r2
    rcases code_cases hok with e1 | ⟨e1, e2⟩
    rotate_left
    · simp only at e1 e2
      subst e2
      have HE2 := Lib.hid (show twoB f (z1, 0) (0, c2) = (false, c2) by unfold twoB; rw [if_neg (by simp), if_pos e1])
      clear hok
      simp only
      go_wp2_with fail
      go_ret2
      exact ⟨by rw [HE2.out]; rfl, ext_trans HX.out HB3.out⟩
    simp only at e1
    subst e1
    simp only
    have HE2 := Lib.hid (show twoB f (z1, 0) (z2, 0) = (f z1 z2, 0) by unfold twoB; rw [if_neg (by simp), if_neg (by simp)])
    clear hok
    have v0 := cell_ext HB3.out (HBn.out.cell 0 rfl)
    have hfo := HF.out
    unfold cmpF at hfo
    by_cases hk : k = [60]
    · rw [if_pos hk] at hfo
      have HFf := Lib.hid (Option.some.inj hfo)
      have kb0 : (k == [60]) = true := by rw [hk]; decide
      have kb1 : (k == [60, 61]) = false := by rw [hk]; decide
      have kb2 : (k == [61]) = false := by rw [hk]; decide
      have kb3 : (k == [60, 62]) = false := by rw [hk]; decide
      have kb4 : (k == [62, 61]) = false := by rw [hk]; decide
      have kb5 : (k == [62]) = false := by rw [hk]; decide
      clear hk hfo
      by_cases h1 : z1 < z2
      · have hd1 : decide (z1 < z2) = true := by simpa using h1
        have HD := Lib.hid (show f z1 z2 = true by rw [← HFf.out]; simp; try omega)
        clear h1
        go_wp2_with fail
        go_ret2
        exact ⟨by rw [HE2.out, HD.out]; rfl, ext_trans HX.out HB3.out⟩
      · have hd1 : decide (z1 < z2) = false := by simpa using h1
        by_cases h2 : z2 < z1
        · have hd2 : decide (z2 < z1) = true := by simpa using h2
          have HD := Lib.hid (show f z1 z2 = false by rw [← HFf.out]; simp; try omega)
          clear h1 h2
          go_wp2_with fail
          go_ret2
          exact ⟨by rw [HE2.out, HD.out]; rfl, ext_trans HX.out HB3.out⟩
        · have hd2 : decide (z2 < z1) = false := by simpa using h2
          have HD := Lib.hid (show f z1 z2 = false by rw [← HFf.out]; simp; try omega)
          clear h1 h2
          go_wp2_with fail
          go_ret2
          exact ⟨by rw [HE2.out, HD.out]; rfl, ext_trans HX.out HB3.out⟩
    rw [if_neg hk] at hfo
    clear hk
    by_cases hk : k = [60, 61]
    · rw [if_pos hk] at hfo
      have HFf := Lib.hid (Option.some.inj hfo)
      have kb0 : (k == [60]) = false := by rw [hk]; decide
      have kb1 : (k == [60, 61]) = true := by rw [hk]; decide
      have kb2 : (k == [61]) = false := by rw [hk]; decide
      have kb3 : (k == [60, 62]) = false := by rw [hk]; decide
      have kb4 : (k == [62, 61]) = false := by rw [hk]; decide
      have kb5 : (k == [62]) = false := by rw [hk]; decide
      clear hk hfo
      by_cases h1 : z1 < z2
      · have hd1 : decide (z1 < z2) = true := by simpa using h1
        have HD := Lib.hid (show f z1 z2 = true by rw [← HFf.out]; simp; try omega)
        clear h1
        go_wp2_with fail
        go_ret2
        exact ⟨by rw [HE2.out, HD.out]; rfl, ext_trans HX.out HB3.out⟩
      · have hd1 : decide (z1 < z2) = false := by simpa using h1
        by_cases h2 : z2 < z1
        · have hd2 : decide (z2 < z1) = true := by simpa using h2
          have HD := Lib.hid (show f z1 z2 = false by rw [← HFf.out]; simp; try omega)
          clear h1 h2
          go_wp2_with fail
          go_ret2
          exact ⟨by rw [HE2.out, HD.out]; rfl, ext_trans HX.out HB3.out⟩
        · have hd2 : decide (z2 < z1) = false := by simpa using h2
          have HD := Lib.hid (show f z1 z2 = true by rw [← HFf.out]; simp; try omega)
          clear h1 h2
          go_wp2_with fail
          go_ret2
          exact ⟨by rw [HE2.out, HD.out]; rfl, ext_trans HX.out HB3.out⟩
    rw [if_neg hk] at hfo
    clear hk
    by_cases hk : k = [61]
    · rw [if_pos hk] at hfo
      have HFf := Lib.hid (Option.some.inj hfo)
      have kb0 : (k == [60]) = false := by rw [hk]; decide
      have kb1 : (k == [60, 61]) = false := by rw [hk]; decide
      have kb2 : (k == [61]) = true := by rw [hk]; decide
      have kb3 : (k == [60, 62]) = false := by rw [hk]; decide
      have kb4 : (k == [62, 61]) = false := by rw [hk]; decide
      have kb5 : (k == [62]) = false := by rw [hk]; decide
      clear hk hfo
      by_cases h1 : z1 < z2
      · have hd1 : decide (z1 < z2) = true := by simpa using h1
        have HD := Lib.hid (show f z1 z2 = false by rw [← HFf.out]; simp; try omega)
        clear h1
        go_wp2_with fail
        go_ret2
        exact ⟨by rw [HE2.out, HD.out]; rfl, ext_trans HX.out HB3.out⟩
      · have hd1 : decide (z1 < z2) = false := by simpa using h1
        by_cases h2 : z2 < z1
        · have hd2 : decide (z2 < z1) = true := by simpa using h2
          have HD := Lib.hid (show f z1 z2 = false by rw [← HFf.out]; simp; try omega)
          clear h1 h2
          go_wp2_with fail
          go_ret2
          exact ⟨by rw [HE2.out, HD.out]; rfl, ext_trans HX.out HB3.out⟩
        · have hd2 : decide (z2 < z1) = false := by simpa using h2
          have HD := Lib.hid (show f z1 z2 = true by rw [← HFf.out]; simp; try omega)
          clear h1 h2
          go_wp2_with fail
          go_ret2
          exact ⟨by rw [HE2.out, HD.out]; rfl, ext_trans HX.out HB3.out⟩
    rw [if_neg hk] at hfo
    clear hk
    by_cases hk : k = [60, 62]
    · rw [if_pos hk] at hfo
      have HFf := Lib.hid (Option.some.inj hfo)
      have kb0 : (k == [60]) = false := by rw [hk]; decide
      have kb1 : (k == [60, 61]) = false := by rw [hk]; decide
      have kb2 : (k == [61]) = false := by rw [hk]; decide
      have kb3 : (k == [60, 62]) = true := by rw [hk]; decide
      have kb4 : (k == [62, 61]) = false := by rw [hk]; decide
      have kb5 : (k == [62]) = false := by rw [hk]; decide
      clear hk hfo
      by_cases h1 : z1 < z2
      · have hd1 : decide (z1 < z2) = true := by simpa using h1
        have HD := Lib.hid (show f z1 z2 = true by rw [← HFf.out]; simp; try omega)
        clear h1
        go_wp2_with fail
        go_ret2
        exact ⟨by rw [HE2.out, HD.out]; rfl, ext_trans HX.out HB3.out⟩
      · have hd1 : decide (z1 < z2) = false := by simpa using h1
        by_cases h2 : z2 < z1
        · have hd2 : decide (z2 < z1) = true := by simpa using h2
          have HD := Lib.hid (show f z1 z2 = true by rw [← HFf.out]; simp; try omega)
          clear h1 h2
          go_wp2_with fail
          go_ret2
          exact ⟨by rw [HE2.out, HD.out]; rfl, ext_trans HX.out HB3.out⟩
        · have hd2 : decide (z2 < z1) = false := by simpa using h2
          have HD := Lib.hid (show f z1 z2 = false by rw [← HFf.out]; simp; try omega)
          clear h1 h2
          go_wp2_with fail
          go_ret2
          exact ⟨by rw [HE2.out, HD.out]; rfl, ext_trans HX.out HB3.out⟩
    rw [if_neg hk] at hfo
    clear hk
    by_cases hk : k = [62, 61]
    · rw [if_pos hk] at hfo
      have HFf := Lib.hid (Option.some.inj hfo)
      have kb0 : (k == [60]) = false := by rw [hk]; decide
      have kb1 : (k == [60, 61]) = false := by rw [hk]; decide
      have kb2 : (k == [61]) = false := by rw [hk]; decide
      have kb3 : (k == [60, 62]) = false := by rw [hk]; decide
      have kb4 : (k == [62, 61]) = true := by rw [hk]; decide
      have kb5 : (k == [62]) = false := by rw [hk]; decide
      clear hk hfo
      by_cases h1 : z1 < z2
      · have hd1 : decide (z1 < z2) = true := by simpa using h1
        have HD := Lib.hid (show f z1 z2 = false by rw [← HFf.out]; simp; try omega)
        clear h1
        go_wp2_with fail
        go_ret2
        exact ⟨by rw [HE2.out, HD.out]; rfl, ext_trans HX.out HB3.out⟩
      · have hd1 : decide (z1 < z2) = false := by simpa using h1
        by_cases h2 : z2 < z1
        · have hd2 : decide (z2 < z1) = true := by simpa using h2
          have HD := Lib.hid (show f z1 z2 = true by rw [← HFf.out]; simp; try omega)
          clear h1 h2
          go_wp2_with fail
          go_ret2
          exact ⟨by rw [HE2.out, HD.out]; rfl, ext_trans HX.out HB3.out⟩
        · have hd2 : decide (z2 < z1) = false := by simpa using h2
          have HD := Lib.hid (show f z1 z2 = true by rw [← HFf.out]; simp; try omega)
          clear h1 h2
          go_wp2_with fail
          go_ret2
          exact ⟨by rw [HE2.out, HD.out]; rfl, ext_trans HX.out HB3.out⟩
    rw [if_neg hk] at hfo
    clear hk
    by_cases hk : k = [62]
    · rw [if_pos hk] at hfo
      have HFf := Lib.hid (Option.some.inj hfo)
      have kb0 : (k == [60]) = false := by rw [hk]; decide
      have kb1 : (k == [60, 61]) = false := by rw [hk]; decide
      have kb2 : (k == [61]) = false := by rw [hk]; decide
      have kb3 : (k == [60, 62]) = false := by rw [hk]; decide
      have kb4 : (k == [62, 61]) = false := by rw [hk]; decide
      have kb5 : (k == [62]) = true := by rw [hk]; decide
      clear hk hfo
      by_cases h1 : z1 < z2
      · have hd1 : decide (z1 < z2) = true := by simpa using h1
        have HD := Lib.hid (show f z1 z2 = false by rw [← HFf.out]; simp; try omega)
        clear h1
        go_wp2_with fail
        go_ret2
        exact ⟨by rw [HE2.out, HD.out]; rfl, ext_trans HX.out HB3.out⟩
      · have hd1 : decide (z1 < z2) = false := by simpa using h1
        by_cases h2 : z2 < z1
        · have hd2 : decide (z2 < z1) = true := by simpa using h2
          have HD := Lib.hid (show f z1 z2 = true by rw [← HFf.out]; simp; try omega)
          clear h1 h2
          go_wp2_with fail
          go_ret2
          exact ⟨by rw [HE2.out, HD.out]; rfl, ext_trans HX.out HB3.out⟩
        · have hd2 : decide (z2 < z1) = false := by simpa using h2
          have HD := Lib.hid (show f z1 z2 = false by rw [← HFf.out]; simp; try omega)
          clear h1 h2
          go_wp2_with fail
          go_ret2
          exact ⟨by rw [HE2.out, HD.out]; rfl, ext_trans HX.out HB3.out⟩
    rw [if_neg hk] at hfo
    clear hk
    cases hfo
end Go.Proofs.YtnchlnfenebomaaGreatDoor.Hd

/- The law DayDue answers true: the walk of the law. -/
import Derived.Test.YtnbpdknmbjkfeaaDoorDue
import Derived.Test.YtnbpdknmbjkfeaaDoorDueR
import Derived.Test.YtnbpdknmbjkfeaaDoorDayWorksMain
namespace Go.Proofs.YtnbpdknmbjkfeaaDoor.DayDue
open Go.RowKit Mem CdP MapSet Solve CdR CdM Day Nest RefDay App Thm Err DayWorks

theorem zero_due : DueP (cdOf [] []) 1 2 2 0 (15, 0) := .inr (.inr (.inr ⟨by decide, by unfold KindBad; decide, by decide, (15, 0), .inr (.inl ⟨rfl, rfl⟩), .inr ⟨rfl, by decide, .inr (.inr (.inl ⟨by decide, rfl, rfl⟩))⟩⟩))
set_option maxRecDepth 100000 in
set_option maxHeartbeats 2000000 in
theorem walk_unit (offs : List Bool) (hol : List Int) (AO : Option Addr) (co : Nat) (AH : Option Addr) (ch : Nat) (dd n u how : Int) (A : Nat → Addr) (w : World) (hD : Dat w offs hol AO co AH ch) (hE : Errs w A) (hl : hol.length ≤ 100) (hu : u ≠ 1) :
    Calls Tryd.prog 8 #[.agg #[.slice AO offs.length co, .slice AH hol.length ch], .int .i64 dd, .agg #[.int .i64 n, .int .i64 u, .int .i64 how]] w (BoolT w) := by
  have hl1 : decide (100 < (hol.length : Int)) = false := by simp; omega
  have u1 : (u == 1) = false := by simp [hu]
  have HD := Lib.hid hD
  have HE := Lib.hid hE
  have HOk := Lib.hid (fun hl => cd_ok hD hl)
  have hx1 := ext_alloc w (.cells #[.slice AO offs.length co, .slice AH hol.length ch] 45)
  have hx2 := ext_alloc (w.alloc (.cells #[.slice AO offs.length co, .slice AH hol.length ch] 45)) (.cells #[.int .i64 n, .int .i64 u, .int .i64 how] 88)
  have hx3 := ext_alloc ((w.alloc (.cells #[.slice AO offs.length co, .slice AH hol.length ch] 45)).alloc (.cells #[.int .i64 n, .int .i64 u, .int .i64 how] 88)) (.cells #[.bool false, .bool false, .bool false, .bool false, .bool false, .bool false, .bool false, .slice none 0 0] 49)
  have HX := Lib.hid (ext_trans hx1 (ext_trans hx2 hx3))
  have HC := Lib.hid (Sol.blk_ext (Blk.new w 45 [.slice AO offs.length co, .slice AH hol.length ch]) (ext_trans hx2 hx3))
  have hT := Sol.blk_ext (Blk.new (w.alloc (.cells #[.slice AO offs.length co, .slice AH hol.length ch] 45)) 88 [.int .i64 n, .int .i64 u, .int .i64 how]) hx3
  have hz := zero_cal ((w.alloc (.cells #[.slice AO offs.length co, .slice AH hol.length ch] 45)).alloc (.cells #[.int .i64 n, .int .i64 u, .int .i64 how] 88))
  have HZ := Lib.hid (pdue_any (cdOf [] []) zero_ok _ 0 none 0 1 2 2 0 A _ hz (hE.below HX.out))
  have hs0 : (w.alloc (.cells #[.slice AO offs.length co, .slice AH hol.length ch] 45)).heap.size = w.heap.size + 1 := by simp
  have hs : ((w.alloc (.cells #[.slice AO offs.length co, .slice AH hol.length ch] 45)).alloc (.cells #[.int .i64 n, .int .i64 u, .int .i64 how] 88)).heap.size = w.heap.size + 1 + 1 := by simp
  rw [hs] at HZ
  rw [hs0] at hT
  have HT := Lib.hid hT
  have hol1 := hD.ol
  clear hx1 hx2 hx3 hz hs hs0 hT hD hE
  go_enter Tryd.func8, Tryd.ntmps8
  go_wp2_with fail
  refine HZ.out.mono ?_
  rintro e w1 ⟨o, ho, rfl, hb1⟩
  obtain rfl := DueP.same zero_due ho
  rw [errC_zero]
  generalize hW : ((w.alloc (.cells #[.slice AO offs.length co, .slice AH hol.length ch] 45)).alloc (.cells #[.int .i64 n, .int .i64 u, .int .i64 how] 88)).alloc (.cells #[.bool false, .bool false, .bool false, .bool false, .bool false, .bool false, .bool false, .slice none 0 0] 49) = W at *
  clear hW HZ ho
  have HB1 := Lib.hid (ext_trans HX.out hb1)
  have HC1 := Lib.hid (Sol.blk_ext HC.out hb1)
  have HT1 := Lib.hid (Sol.blk_ext HT.out hb1)
  have c0 := HC1.out.cell 0 rfl
  have c1 := HC1.out.cell 1 rfl
  have t0 := HT1.out.cell 0 rfl
  have t1 := HT1.out.cell 1 rfl
  have t2 := HT1.out.cell 2 rfl
  clear hb1
  go_wp2_with fail
  refine (both_any offs hol hol1 (by omega) AO co AH ch HD.out.nil _ (HD.out.rO.ext HB1.out) (HD.out.rH.ext HB1.out)).mono ?_
  rintro e w2 ⟨x, y, Ax, cx, Ay, cy, rfl, hx, hy, hb⟩
  have HX2 := Lib.hid hx
  have HY2 := Lib.hid hy
  have HB2 := Lib.hid (ext_trans HB1.out hb)
  have HT2 := Lib.hid (Sol.blk_ext HT1.out hb)
  have HOk2 := Lib.hid (HOk.out hl)
  obtain ⟨c, hc⟩ : ∃ c, c = cdOf offs hol := ⟨_, rfl⟩
  rw [← hc] at HX2 HY2 HOk2
  clear hx hy hb c0 c1 t0 t1 t2 hc HC HC1 HT HT1 HOk
  have t0 := HT2.out.cell 0 rfl
  have t1 := HT2.out.cell 1 rfl
  have t2 := HT2.out.cell 2 rfl
  go_wp2_with fail
  refine (pdue_any c HOk2.out x 0 Ax cx dd n u how A _ HX2.out (HE.out.below HB2.out)).mono ?_
  rintro e w4 ⟨o, ho, rfl, hb⟩
  have HO := Lib.hid ho
  have HY4 := Lib.hid (HY2.out.ext hb)
  have HB4 := Lib.hid (ext_trans HB2.out hb)
  have HT4 := Lib.hid (Sol.blk_ext HT2.out hb)
  clear ho hb t0 t1 t2
  have t0 := HT4.out.cell 0 rfl
  have t1 := HT4.out.cell 1 rfl
  have t2 := HT4.out.cell 2 rfl
  go_wp2_with fail
  refine (rdue_any c HOk2.out.len y 0 Ay cy dd n u how _ HY4.out).mono ?_
  rintro e w5 ⟨o2, ho2, rfl, hb⟩
  obtain rfl := DueP.same HO.out ho2
  have HB5 := Lib.hid (ext_trans HB4.out hb)
  have HCd := Lib.hid (fun w h => coded_same A o.2 HO.out.code w h)
  clear ho2 hb HO t0 t1 t2
  generalize errC A o.2 = ev at *
  generalize o.2 = oc at *
  generalize o.1 = ov at *
  go_wp2_with fail
  refine (HCd.out _ (HE.out.below HB5.out)).mono ?_
  rintro e w6 ⟨rfl, hb⟩
  have HB6 := Lib.hid (ext_trans HB5.out hb)
  clear hb
  go_wp2_with fail
  go_ret
  exact ⟨ret_bool (by simp), HB6.out⟩
set_option maxRecDepth 100000 in
set_option maxHeartbeats 2000000 in
theorem walk_few (offs : List Bool) (hol : List Int) (AO : Option Addr) (co : Nat) (AH : Option Addr) (ch : Nat) (dd n how : Int) (A : Nat → Addr) (w : World) (hD : Dat w offs hol AO co AH ch) (hE : Errs w A) (hl : hol.length ≤ 100) (hn : n ≤ 3000) :
    Calls Tryd.prog 8 #[.agg #[.slice AO offs.length co, .slice AH hol.length ch], .int .i64 dd, .agg #[.int .i64 n, .int .i64 1, .int .i64 how]] w (BoolT w) := by
  have hl1 : decide (100 < (hol.length : Int)) = false := by simp; omega
  have n1 : decide (3000 < n) = false := by simp; omega
  have HD := Lib.hid hD
  have HE := Lib.hid hE
  have HOk := Lib.hid (fun hl => cd_ok hD hl)
  have hx1 := ext_alloc w (.cells #[.slice AO offs.length co, .slice AH hol.length ch] 45)
  have hx2 := ext_alloc (w.alloc (.cells #[.slice AO offs.length co, .slice AH hol.length ch] 45)) (.cells #[.int .i64 n, .int .i64 1, .int .i64 how] 88)
  have hx3 := ext_alloc ((w.alloc (.cells #[.slice AO offs.length co, .slice AH hol.length ch] 45)).alloc (.cells #[.int .i64 n, .int .i64 1, .int .i64 how] 88)) (.cells #[.bool false, .bool false, .bool false, .bool false, .bool false, .bool false, .bool false, .slice none 0 0] 49)
  have HX := Lib.hid (ext_trans hx1 (ext_trans hx2 hx3))
  have HC := Lib.hid (Sol.blk_ext (Blk.new w 45 [.slice AO offs.length co, .slice AH hol.length ch]) (ext_trans hx2 hx3))
  have hT := Sol.blk_ext (Blk.new (w.alloc (.cells #[.slice AO offs.length co, .slice AH hol.length ch] 45)) 88 [.int .i64 n, .int .i64 1, .int .i64 how]) hx3
  have hz := zero_cal ((w.alloc (.cells #[.slice AO offs.length co, .slice AH hol.length ch] 45)).alloc (.cells #[.int .i64 n, .int .i64 1, .int .i64 how] 88))
  have HZ := Lib.hid (pdue_any (cdOf [] []) zero_ok _ 0 none 0 1 2 2 0 A _ hz (hE.below HX.out))
  have hs0 : (w.alloc (.cells #[.slice AO offs.length co, .slice AH hol.length ch] 45)).heap.size = w.heap.size + 1 := by simp
  have hs : ((w.alloc (.cells #[.slice AO offs.length co, .slice AH hol.length ch] 45)).alloc (.cells #[.int .i64 n, .int .i64 1, .int .i64 how] 88)).heap.size = w.heap.size + 1 + 1 := by simp
  rw [hs] at HZ
  rw [hs0] at hT
  have HT := Lib.hid hT
  have hol1 := hD.ol
  clear hx1 hx2 hx3 hz hs hs0 hT hD hE
  go_enter Tryd.func8, Tryd.ntmps8
  go_wp2_with fail
  refine HZ.out.mono ?_
  rintro e w1 ⟨o, ho, rfl, hb1⟩
  obtain rfl := DueP.same zero_due ho
  rw [errC_zero]
  generalize hW : ((w.alloc (.cells #[.slice AO offs.length co, .slice AH hol.length ch] 45)).alloc (.cells #[.int .i64 n, .int .i64 1, .int .i64 how] 88)).alloc (.cells #[.bool false, .bool false, .bool false, .bool false, .bool false, .bool false, .bool false, .slice none 0 0] 49) = W at *
  clear hW HZ ho
  have HB1 := Lib.hid (ext_trans HX.out hb1)
  have HC1 := Lib.hid (Sol.blk_ext HC.out hb1)
  have HT1 := Lib.hid (Sol.blk_ext HT.out hb1)
  have c0 := HC1.out.cell 0 rfl
  have c1 := HC1.out.cell 1 rfl
  have t0 := HT1.out.cell 0 rfl
  have t1 := HT1.out.cell 1 rfl
  have t2 := HT1.out.cell 2 rfl
  clear hb1
  go_wp2_with fail
  refine (both_any offs hol hol1 (by omega) AO co AH ch HD.out.nil _ (HD.out.rO.ext HB1.out) (HD.out.rH.ext HB1.out)).mono ?_
  rintro e w2 ⟨x, y, Ax, cx, Ay, cy, rfl, hx, hy, hb⟩
  have HX2 := Lib.hid hx
  have HY2 := Lib.hid hy
  have HB2 := Lib.hid (ext_trans HB1.out hb)
  have HT2 := Lib.hid (Sol.blk_ext HT1.out hb)
  have HOk2 := Lib.hid (HOk.out hl)
  obtain ⟨c, hc⟩ : ∃ c, c = cdOf offs hol := ⟨_, rfl⟩
  rw [← hc] at HX2 HY2 HOk2
  clear hx hy hb c0 c1 t0 t1 t2 hc HC HC1 HT HT1 HOk
  have t0 := HT2.out.cell 0 rfl
  have t1 := HT2.out.cell 1 rfl
  have t2 := HT2.out.cell 2 rfl
  go_wp2_with fail
  refine (pdue_any c HOk2.out x 0 Ax cx dd n 1 how A _ HX2.out (HE.out.below HB2.out)).mono ?_
  rintro e w4 ⟨o, ho, rfl, hb⟩
  have HO := Lib.hid ho
  have HY4 := Lib.hid (HY2.out.ext hb)
  have HB4 := Lib.hid (ext_trans HB2.out hb)
  have HT4 := Lib.hid (Sol.blk_ext HT2.out hb)
  clear ho hb t0 t1 t2
  have t0 := HT4.out.cell 0 rfl
  have t1 := HT4.out.cell 1 rfl
  have t2 := HT4.out.cell 2 rfl
  go_wp2_with fail
  refine (rdue_any c HOk2.out.len y 0 Ay cy dd n 1 how _ HY4.out).mono ?_
  rintro e w5 ⟨o2, ho2, rfl, hb⟩
  obtain rfl := DueP.same HO.out ho2
  have HB5 := Lib.hid (ext_trans HB4.out hb)
  have HCd := Lib.hid (fun w h => coded_same A o.2 HO.out.code w h)
  clear ho2 hb HO t0 t1 t2
  generalize errC A o.2 = ev at *
  generalize o.2 = oc at *
  generalize o.1 = ov at *
  go_wp2_with fail
  refine (HCd.out _ (HE.out.below HB5.out)).mono ?_
  rintro e w6 ⟨rfl, hb⟩
  have HB6 := Lib.hid (ext_trans HB5.out hb)
  clear hb
  go_wp2_with fail
  go_ret
  exact ⟨ret_bool (by simp), HB6.out⟩
set_option maxRecDepth 100000 in
set_option maxHeartbeats 2000000 in
theorem walk_big (offs : List Bool) (hol : List Int) (AO : Option Addr) (co : Nat) (AH : Option Addr) (ch : Nat) (dd n how : Int) (A : Nat → Addr) (w : World) (hD : Dat w offs hol AO co AH ch) (hE : Errs w A) (hl : hol.length ≤ 100) (hn : 100000 < n) :
    Calls Tryd.prog 8 #[.agg #[.slice AO offs.length co, .slice AH hol.length ch], .int .i64 dd, .agg #[.int .i64 n, .int .i64 1, .int .i64 how]] w (BoolT w) := by
  have hl1 : decide (100 < (hol.length : Int)) = false := by simp; omega
  have n1 : decide (3000 < n) = true := by simp; omega
  have n2 : decide (n ≤ 100000) = false := by simp; omega
  have HD := Lib.hid hD
  have HE := Lib.hid hE
  have HOk := Lib.hid (fun hl => cd_ok hD hl)
  have hx1 := ext_alloc w (.cells #[.slice AO offs.length co, .slice AH hol.length ch] 45)
  have hx2 := ext_alloc (w.alloc (.cells #[.slice AO offs.length co, .slice AH hol.length ch] 45)) (.cells #[.int .i64 n, .int .i64 1, .int .i64 how] 88)
  have hx3 := ext_alloc ((w.alloc (.cells #[.slice AO offs.length co, .slice AH hol.length ch] 45)).alloc (.cells #[.int .i64 n, .int .i64 1, .int .i64 how] 88)) (.cells #[.bool false, .bool false, .bool false, .bool false, .bool false, .bool false, .bool false, .slice none 0 0] 49)
  have HX := Lib.hid (ext_trans hx1 (ext_trans hx2 hx3))
  have HC := Lib.hid (Sol.blk_ext (Blk.new w 45 [.slice AO offs.length co, .slice AH hol.length ch]) (ext_trans hx2 hx3))
  have hT := Sol.blk_ext (Blk.new (w.alloc (.cells #[.slice AO offs.length co, .slice AH hol.length ch] 45)) 88 [.int .i64 n, .int .i64 1, .int .i64 how]) hx3
  have hz := zero_cal ((w.alloc (.cells #[.slice AO offs.length co, .slice AH hol.length ch] 45)).alloc (.cells #[.int .i64 n, .int .i64 1, .int .i64 how] 88))
  have HZ := Lib.hid (pdue_any (cdOf [] []) zero_ok _ 0 none 0 1 2 2 0 A _ hz (hE.below HX.out))
  have hs0 : (w.alloc (.cells #[.slice AO offs.length co, .slice AH hol.length ch] 45)).heap.size = w.heap.size + 1 := by simp
  have hs : ((w.alloc (.cells #[.slice AO offs.length co, .slice AH hol.length ch] 45)).alloc (.cells #[.int .i64 n, .int .i64 1, .int .i64 how] 88)).heap.size = w.heap.size + 1 + 1 := by simp
  rw [hs] at HZ
  rw [hs0] at hT
  have HT := Lib.hid hT
  have hol1 := hD.ol
  clear hx1 hx2 hx3 hz hs hs0 hT hD hE
  go_enter Tryd.func8, Tryd.ntmps8
  go_wp2_with fail
  refine HZ.out.mono ?_
  rintro e w1 ⟨o, ho, rfl, hb1⟩
  obtain rfl := DueP.same zero_due ho
  rw [errC_zero]
  generalize hW : ((w.alloc (.cells #[.slice AO offs.length co, .slice AH hol.length ch] 45)).alloc (.cells #[.int .i64 n, .int .i64 1, .int .i64 how] 88)).alloc (.cells #[.bool false, .bool false, .bool false, .bool false, .bool false, .bool false, .bool false, .slice none 0 0] 49) = W at *
  clear hW HZ ho
  have HB1 := Lib.hid (ext_trans HX.out hb1)
  have HC1 := Lib.hid (Sol.blk_ext HC.out hb1)
  have HT1 := Lib.hid (Sol.blk_ext HT.out hb1)
  have c0 := HC1.out.cell 0 rfl
  have c1 := HC1.out.cell 1 rfl
  have t0 := HT1.out.cell 0 rfl
  have t1 := HT1.out.cell 1 rfl
  have t2 := HT1.out.cell 2 rfl
  clear hb1
  go_wp2_with fail
  refine (both_any offs hol hol1 (by omega) AO co AH ch HD.out.nil _ (HD.out.rO.ext HB1.out) (HD.out.rH.ext HB1.out)).mono ?_
  rintro e w2 ⟨x, y, Ax, cx, Ay, cy, rfl, hx, hy, hb⟩
  have HX2 := Lib.hid hx
  have HY2 := Lib.hid hy
  have HB2 := Lib.hid (ext_trans HB1.out hb)
  have HT2 := Lib.hid (Sol.blk_ext HT1.out hb)
  have HOk2 := Lib.hid (HOk.out hl)
  obtain ⟨c, hc⟩ : ∃ c, c = cdOf offs hol := ⟨_, rfl⟩
  rw [← hc] at HX2 HY2 HOk2
  clear hx hy hb c0 c1 t0 t1 t2 hc HC HC1 HT HT1 HOk
  have t0 := HT2.out.cell 0 rfl
  have t1 := HT2.out.cell 1 rfl
  have t2 := HT2.out.cell 2 rfl
  go_wp2_with fail
  refine (pdue_any c HOk2.out x 0 Ax cx dd n 1 how A _ HX2.out (HE.out.below HB2.out)).mono ?_
  rintro e w4 ⟨o, ho, rfl, hb⟩
  have HO := Lib.hid ho
  have HY4 := Lib.hid (HY2.out.ext hb)
  have HB4 := Lib.hid (ext_trans HB2.out hb)
  have HT4 := Lib.hid (Sol.blk_ext HT2.out hb)
  clear ho hb t0 t1 t2
  have t0 := HT4.out.cell 0 rfl
  have t1 := HT4.out.cell 1 rfl
  have t2 := HT4.out.cell 2 rfl
  go_wp2_with fail
  refine (rdue_any c HOk2.out.len y 0 Ay cy dd n 1 how _ HY4.out).mono ?_
  rintro e w5 ⟨o2, ho2, rfl, hb⟩
  obtain rfl := DueP.same HO.out ho2
  have HB5 := Lib.hid (ext_trans HB4.out hb)
  have HCd := Lib.hid (fun w h => coded_same A o.2 HO.out.code w h)
  clear ho2 hb HO t0 t1 t2
  generalize errC A o.2 = ev at *
  generalize o.2 = oc at *
  generalize o.1 = ov at *
  go_wp2_with fail
  refine (HCd.out _ (HE.out.below HB5.out)).mono ?_
  rintro e w6 ⟨rfl, hb⟩
  have HB6 := Lib.hid (ext_trans HB5.out hb)
  clear hb
  go_wp2_with fail
  go_ret
  exact ⟨ret_bool (by simp), HB6.out⟩
set_option maxRecDepth 100000 in
set_option maxHeartbeats 2000000 in
theorem walk_long (offs : List Bool) (hol : List Int) (AO : Option Addr) (co : Nat) (AH : Option Addr) (ch : Nat) (dd n u how : Int) (A : Nat → Addr) (w : World) (hD : Dat w offs hol AO co AH ch) (hE : Errs w A) (hl : 100 < hol.length) :
    Calls Tryd.prog 8 #[.agg #[.slice AO offs.length co, .slice AH hol.length ch], .int .i64 dd, .agg #[.int .i64 n, .int .i64 u, .int .i64 how]] w (BoolT w) := by
  have hl1 : decide (100 < (hol.length : Int)) = true := by simp; omega
  have HD := Lib.hid hD
  have HE := Lib.hid hE
  have HOk := Lib.hid (fun hl => cd_ok hD hl)
  have hx1 := ext_alloc w (.cells #[.slice AO offs.length co, .slice AH hol.length ch] 45)
  have hx2 := ext_alloc (w.alloc (.cells #[.slice AO offs.length co, .slice AH hol.length ch] 45)) (.cells #[.int .i64 n, .int .i64 u, .int .i64 how] 88)
  have hx3 := ext_alloc ((w.alloc (.cells #[.slice AO offs.length co, .slice AH hol.length ch] 45)).alloc (.cells #[.int .i64 n, .int .i64 u, .int .i64 how] 88)) (.cells #[.bool false, .bool false, .bool false, .bool false, .bool false, .bool false, .bool false, .slice none 0 0] 49)
  have HX := Lib.hid (ext_trans hx1 (ext_trans hx2 hx3))
  have HC := Lib.hid (Sol.blk_ext (Blk.new w 45 [.slice AO offs.length co, .slice AH hol.length ch]) (ext_trans hx2 hx3))
  have hT := Sol.blk_ext (Blk.new (w.alloc (.cells #[.slice AO offs.length co, .slice AH hol.length ch] 45)) 88 [.int .i64 n, .int .i64 u, .int .i64 how]) hx3
  have hz := zero_cal ((w.alloc (.cells #[.slice AO offs.length co, .slice AH hol.length ch] 45)).alloc (.cells #[.int .i64 n, .int .i64 u, .int .i64 how] 88))
  have HZ := Lib.hid (pdue_any (cdOf [] []) zero_ok _ 0 none 0 1 2 2 0 A _ hz (hE.below HX.out))
  have hs0 : (w.alloc (.cells #[.slice AO offs.length co, .slice AH hol.length ch] 45)).heap.size = w.heap.size + 1 := by simp
  have hs : ((w.alloc (.cells #[.slice AO offs.length co, .slice AH hol.length ch] 45)).alloc (.cells #[.int .i64 n, .int .i64 u, .int .i64 how] 88)).heap.size = w.heap.size + 1 + 1 := by simp
  rw [hs] at HZ
  rw [hs0] at hT
  have HT := Lib.hid hT
  have hol1 := hD.ol
  clear hx1 hx2 hx3 hz hs hs0 hT hD hE
  go_enter Tryd.func8, Tryd.ntmps8
  go_wp2_with fail
  refine HZ.out.mono ?_
  rintro e w1 ⟨o, ho, rfl, hb1⟩
  obtain rfl := DueP.same zero_due ho
  rw [errC_zero]
  generalize hW : ((w.alloc (.cells #[.slice AO offs.length co, .slice AH hol.length ch] 45)).alloc (.cells #[.int .i64 n, .int .i64 u, .int .i64 how] 88)).alloc (.cells #[.bool false, .bool false, .bool false, .bool false, .bool false, .bool false, .bool false, .slice none 0 0] 49) = W at *
  clear hW HZ ho
  have HB1 := Lib.hid (ext_trans HX.out hb1)
  have HC1 := Lib.hid (Sol.blk_ext HC.out hb1)
  have HT1 := Lib.hid (Sol.blk_ext HT.out hb1)
  have c0 := HC1.out.cell 0 rfl
  have c1 := HC1.out.cell 1 rfl
  have t0 := HT1.out.cell 0 rfl
  have t1 := HT1.out.cell 1 rfl
  have t2 := HT1.out.cell 2 rfl
  clear hb1
  go_wp2_with fail
  go_ret
  exact ⟨rfl, HB1.out⟩
set_option maxRecDepth 100000 in
set_option maxHeartbeats 2000000 in
theorem walk_mid (offs : List Bool) (hol : List Int) (AO : Option Addr) (co : Nat) (AH : Option Addr) (ch : Nat) (dd n how : Int) (A : Nat → Addr) (w : World) (hD : Dat w offs hol AO co AH ch) (hE : Errs w A) (hl : hol.length ≤ 100) (hn : 3000 < n) (hn2 : n ≤ 100000) :
    Calls Tryd.prog 8 #[.agg #[.slice AO offs.length co, .slice AH hol.length ch], .int .i64 dd, .agg #[.int .i64 n, .int .i64 1, .int .i64 how]] w (BoolT w) := by
  have hl1 : decide (100 < (hol.length : Int)) = false := by simp; omega
  have n1 : decide (3000 < n) = true := by simp; omega
  have n2 : decide (n ≤ 100000) = true := by simp; omega
  have HD := Lib.hid hD
  have HE := Lib.hid hE
  have HOk := Lib.hid (fun hl => cd_ok hD hl)
  have hx1 := ext_alloc w (.cells #[.slice AO offs.length co, .slice AH hol.length ch] 45)
  have hx2 := ext_alloc (w.alloc (.cells #[.slice AO offs.length co, .slice AH hol.length ch] 45)) (.cells #[.int .i64 n, .int .i64 1, .int .i64 how] 88)
  have hx3 := ext_alloc ((w.alloc (.cells #[.slice AO offs.length co, .slice AH hol.length ch] 45)).alloc (.cells #[.int .i64 n, .int .i64 1, .int .i64 how] 88)) (.cells #[.bool false, .bool false, .bool false, .bool false, .bool false, .bool false, .bool false, .slice none 0 0] 49)
  have HX := Lib.hid (ext_trans hx1 (ext_trans hx2 hx3))
  have HC := Lib.hid (Sol.blk_ext (Blk.new w 45 [.slice AO offs.length co, .slice AH hol.length ch]) (ext_trans hx2 hx3))
  have hT := Sol.blk_ext (Blk.new (w.alloc (.cells #[.slice AO offs.length co, .slice AH hol.length ch] 45)) 88 [.int .i64 n, .int .i64 1, .int .i64 how]) hx3
  have hz := zero_cal ((w.alloc (.cells #[.slice AO offs.length co, .slice AH hol.length ch] 45)).alloc (.cells #[.int .i64 n, .int .i64 1, .int .i64 how] 88))
  have HZ := Lib.hid (pdue_any (cdOf [] []) zero_ok _ 0 none 0 1 2 2 0 A _ hz (hE.below HX.out))
  have hs0 : (w.alloc (.cells #[.slice AO offs.length co, .slice AH hol.length ch] 45)).heap.size = w.heap.size + 1 := by simp
  have hs : ((w.alloc (.cells #[.slice AO offs.length co, .slice AH hol.length ch] 45)).alloc (.cells #[.int .i64 n, .int .i64 1, .int .i64 how] 88)).heap.size = w.heap.size + 1 + 1 := by simp
  rw [hs] at HZ
  rw [hs0] at hT
  have HT := Lib.hid hT
  have hol1 := hD.ol
  clear hx1 hx2 hx3 hz hs hs0 hT hD hE
  go_enter Tryd.func8, Tryd.ntmps8
  go_wp2_with fail
  refine HZ.out.mono ?_
  rintro e w1 ⟨o, ho, rfl, hb1⟩
  obtain rfl := DueP.same zero_due ho
  rw [errC_zero]
  generalize hW : ((w.alloc (.cells #[.slice AO offs.length co, .slice AH hol.length ch] 45)).alloc (.cells #[.int .i64 n, .int .i64 1, .int .i64 how] 88)).alloc (.cells #[.bool false, .bool false, .bool false, .bool false, .bool false, .bool false, .bool false, .slice none 0 0] 49) = W at *
  clear hW HZ ho
  have HB1 := Lib.hid (ext_trans HX.out hb1)
  have HC1 := Lib.hid (Sol.blk_ext HC.out hb1)
  have HT1 := Lib.hid (Sol.blk_ext HT.out hb1)
  have c0 := HC1.out.cell 0 rfl
  have c1 := HC1.out.cell 1 rfl
  have t0 := HT1.out.cell 0 rfl
  have t1 := HT1.out.cell 1 rfl
  have t2 := HT1.out.cell 2 rfl
  clear hb1
  go_wp2_with fail
  go_ret
  exact ⟨rfl, HB1.out⟩
theorem walk (offs : List Bool) (hol : List Int) (AO : Option Addr) (co : Nat) (AH : Option Addr) (ch : Nat) (dd n u how : Int) (A : Nat → Addr) (w : World) (hD : Dat w offs hol AO co AH ch) (hE : Errs w A) :
    Calls Tryd.prog 8 #[.agg #[.slice AO offs.length co, .slice AH hol.length ch], .int .i64 dd, .agg #[.int .i64 n, .int .i64 u, .int .i64 how]] w (BoolT w) := by
  by_cases h : 100 < hol.length
  · exact walk_long offs hol AO co AH ch dd n u how A w hD hE h
  · by_cases hu : u = 1
    · subst hu
      by_cases h1 : n ≤ 3000
      · exact walk_few offs hol AO co AH ch dd n how A w hD hE (by omega) h1
      · by_cases h2 : n ≤ 100000
        · exact walk_mid offs hol AO co AH ch dd n how A w hD hE (by omega) (by omega) h2
        · exact walk_big offs hol AO co AH ch dd n how A w hD hE (by omega) (by omega)
    · exact walk_unit offs hol AO co AH ch dd n u how A w hD hE (by omega) hu
end Go.Proofs.YtnbpdknmbjkfeaaDoor.DayDue

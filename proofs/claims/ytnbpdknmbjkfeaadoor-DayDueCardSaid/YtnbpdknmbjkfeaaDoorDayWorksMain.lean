/- The law DayWorks answers true: the walk of the law. -/
import Derived.Test.YtnbpdknmbjkfeaaDoorCdBoth
namespace Go.Proofs.YtnbpdknmbjkfeaaDoor.DayWorks
open Go.RowKit Mem CdP MapSet Solve CdR CdM Day Nest RefDay App Thm Err

def BoolT (w : World) (e : Ending) (w' : World) : Prop := e = .returned (.bool true) ∧ Below w.heap.size w w'
/-- a calendar of nothing -/
theorem zero_cal (w : World) : CdA (w.alloc (.cells #[.bool false, .bool false, .bool false, .bool false, .bool false, .bool false, .bool false, .slice none 0 0] 49)) w.heap.size 0 (cdOf [] []) none 0 :=
  box_cd (offs := []) (i := 0) (hol := []) (T := 49) (by show Blk _ _ _ (boxCells [] 0 (.slice none 0 0)); rw [box_zero]; exact Blk.new w _ [_, _, _, _, _, _, _, _]) (.inr (by simp)) Rd.nil
theorem zero_ok : CdOk (cdOf [] []) := ⟨by simp [cdOf], by simp [cdOf]⟩
theorem zero_works : worksB (cdOf [] []) 5 = true := by decide
/-- plain data of a calendar, as it lies -/
structure Dat (w : World) (offs : List Bool) (hol : List Int) (AO : Option Addr) (co : Nat) (AH : Option Addr) (ch : Nat) : Prop where
  rO : Rd w AO (bls offs)
  rH : Rd w AH (ints hol)
  nil : AH = none → ch = 0
  ol : offs.length ≤ 9223372036854775807
  hl : hol.length ≤ 9223372036854775807
  wf : ∀ x ∈ hol, (Lit.int .i64 x).wf = true
theorem cd_ok {w : World} {offs : List Bool} {hol : List Int} {AO : Option Addr} {co : Nat} {AH : Option Addr} {ch : Nat} (h : Dat w offs hol AO co AH ch) (hl : hol.length ≤ 100) : CdOk (cdOf offs hol) := ⟨by show hol.length ≤ _; omega, h.wf⟩
set_option maxRecDepth 100000 in
set_option maxHeartbeats 2000000 in
theorem walk_main (offs : List Bool) (hol : List Int) (AO : Option Addr) (co : Nat) (AH : Option Addr) (ch : Nat) (n how tt : Int) (hl : hol.length ≤ 100) (n1 : n ≤ 1099511627776) (n2 : -1099511627776 ≤ n) (t1 : tt ≤ n + 4000) (t2 : n - 4000 ≤ tt) (A : Nat → Addr) (w : World) (hD : Dat w offs hol AO co AH ch) (hE : Errs w A) :
    Calls Tryd.prog 4 #[.agg #[.slice AO offs.length co, .slice AH hol.length ch], .int .i64 n, .int .i64 how, .int .i64 tt] w (BoolT w) := by
  have HD := Lib.hid hD
  have HE := Lib.hid hE
  have hl1 : decide (100 < (hol.length : Int)) = false := by simp; omega
  have HOk := Lib.hid (cd_ok hD hl)
  have hx1 := ext_alloc w (.cells #[.slice AO offs.length co, .slice AH hol.length ch] 45)
  have hx2 := ext_alloc (w.alloc (.cells #[.slice AO offs.length co, .slice AH hol.length ch] 45)) (.cells #[.bool false, .bool false, .bool false, .bool false, .bool false, .bool false, .bool false, .slice none 0 0] 49)
  have HX := Lib.hid (ext_trans hx1 hx2)
  have HC := Lib.hid (Sol.blk_ext (Blk.new w 45 [.slice AO offs.length co, .slice AH hol.length ch]) hx2)
  have hz := zero_cal (w.alloc (.cells #[.slice AO offs.length co, .slice AH hol.length ch] 45))
  have HZ := Lib.hid (pworks_any (cdOf [] []) (by simp [cdOf]) _ 0 none 0 5 _ hz)
  have hs : (w.alloc (.cells #[.slice AO offs.length co, .slice AH hol.length ch] 45)).heap.size = w.heap.size + 1 := by simp
  rw [hs, zero_works] at HZ
  have hol1 := hD.ol
  clear hx1 hx2 hz hs hD hE
  go_enter Tryd.func4, Tryd.ntmps4
  go_wp2_with fail
  refine HZ.out.mono ?_
  rintro e w1 ⟨rfl, q1, rfl⟩
  generalize hW : (w.alloc (.cells #[.slice AO offs.length co, .slice AH hol.length ch] 45)).alloc (.cells #[.bool false, .bool false, .bool false, .bool false, .bool false, .bool false, .bool false, .slice none 0 0] 49) = W at *
  clear hW HZ
  have HB1 := Lib.hid (ext_trans HX.out (ext_drewN W q1))
  have HC1 := Lib.hid (Sol.blk_ext HC.out (ext_drewN W q1))
  have c0 := HC1.out.cell 0 rfl
  have c1 := HC1.out.cell 1 rfl
  generalize W.drewN q1 = W1 at *
  go_wp2_with fail
  refine (both_any offs hol hol1 (by omega) AO co AH ch HD.out.nil _ (HD.out.rO.ext HB1.out) (HD.out.rH.ext HB1.out)).mono ?_
  rintro e w2 ⟨x, y, Ax, cx, Ay, cy, rfl, hx, hy, hb⟩
  have HX2 := Lib.hid hx
  have HY2 := Lib.hid hy
  have HB2 := Lib.hid (ext_trans HB1.out hb)
  obtain ⟨c, hc⟩ : ∃ c, c = cdOf offs hol := ⟨_, rfl⟩
  rw [← hc] at HX2 HY2 HOk
  clear hx hy hb c0 c1 hc HC HC1
  go_wp2_with fail
  refine (pworks_any c HOk.out.len x 0 Ax cx n _ HX2.out).mono ?_
  rintro e w3 ⟨rfl, q3, rfl⟩
  have HX3 := Lib.hid (HX2.out.ext (ext_drewN w2 q3))
  have HY3 := Lib.hid (HY2.out.ext (ext_drewN w2 q3))
  have HB3 := Lib.hid (ext_trans HB2.out (ext_drewN w2 q3))
  generalize w2.drewN q3 = w3 at *
  obtain ⟨g, hg⟩ : ∃ g, g = worksB c n := ⟨_, rfl⟩
  have HG := Lib.hid hg
  rw [← hg]
  clear hg
  go_wp2_with fail
  refine (proll_any c HOk.out x 0 Ax cx n how A _ HX3.out (HE.out.below HB3.out)).mono ?_
  rintro e w4 ⟨o, ho, rfl, hb⟩
  have HO := Lib.hid ho
  have HX4 := Lib.hid (HX3.out.ext hb)
  have HY4 := Lib.hid (HY3.out.ext hb)
  have HB4 := Lib.hid (ext_trans HB3.out hb)
  clear ho hb
  go_wp2_with fail
  refine (rroll_any c HOk.out.len y 0 Ay cy n how _ HY4.out).mono ?_
  rintro e w5 ⟨o2, ho2, rfl, hb⟩
  obtain rfl := RollP.same HO.out ho2
  have HX5 := Lib.hid (HX4.out.ext hb)
  have HY5 := Lib.hid (HY4.out.ext hb)
  have HB5 := Lib.hid (ext_trans HB4.out hb)
  have HCd := Lib.hid (fun w h => coded_same A o.2 HO.out.code w h)
  generalize errC A o.2 = ev at *
  generalize o.2 = oc at *
  generalize o.1 = ov at *
  clear ho2 hb HO
  go_wp2_with fail
  refine (HCd.out _ (HE.out.below HB5.out)).mono ?_
  rintro e w6 ⟨rfl, hb⟩
  have HX6 := Lib.hid (HX5.out.ext hb)
  have HY6 := Lib.hid (HY5.out.ext hb)
  have HB6 := Lib.hid (ext_trans HB5.out hb)
  clear hb
  have hw6 := works_any c HOk.out.len y 0 Ay cy n _ HY6.out
  rw [← HG.out] at hw6
  have HWk := Lib.hid hw6
  clear hw6
  go_wp2_with fail
  refine HWk.out.mono ?_
  rintro e w7 ⟨rfl, q7, rfl⟩
  have HX7 := Lib.hid (HX6.out.ext (ext_drewN w6 q7))
  have HY7 := Lib.hid (HY6.out.ext (ext_drewN w6 q7))
  have HB7 := Lib.hid (ext_trans HB6.out (ext_drewN w6 q7))
  have HCn := Lib.hid (fun w h => count_any c HOk.out x 0 Ax cx n tt w h)
  have HRn := Lib.hid (fun w h => rcount_any c HOk.out.len y 0 Ay cy n tt w h)
  generalize cntI c n tt = cv at *
  generalize w6.drewN q7 = w7 at *
  go_wp2_with fail
  refine (HCn.out _ HX7.out).mono ?_
  rintro e w8 ⟨rfl, hb⟩
  have HY8 := Lib.hid (HY7.out.ext hb)
  have HB8 := Lib.hid (ext_trans HB7.out hb)
  clear hb
  go_wp2_with fail
  refine (HRn.out _ HY8.out).mono ?_
  rintro e w9 ⟨rfl, hb⟩
  have HB9 := Lib.hid (ext_trans HB8.out hb)
  clear hb
  go_wp2_with fail
  go_ret
  exact ⟨ret_bool (by simp), HB9.out⟩
set_option maxRecDepth 100000 in
set_option maxHeartbeats 2000000 in
theorem walk_away (offs : List Bool) (hol : List Int) (AO : Option Addr) (co : Nat) (AH : Option Addr) (ch : Nat) (n how tt : Int) (hl : 100 < hol.length ∨ 1099511627776 < n ∨ n < -1099511627776 ∨ n + 4000 < tt ∨ tt < n - 4000) (w : World) (hlen : hol.length ≤ 9223372036854775807) :
    Calls Tryd.prog 4 #[.agg #[.slice AO offs.length co, .slice AH hol.length ch], .int .i64 n, .int .i64 how, .int .i64 tt] w (BoolT w) := by
  have hx1 := ext_alloc w (.cells #[.slice AO offs.length co, .slice AH hol.length ch] 45)
  have hx2 := ext_alloc (w.alloc (.cells #[.slice AO offs.length co, .slice AH hol.length ch] 45)) (.cells #[.bool false, .bool false, .bool false, .bool false, .bool false, .bool false, .bool false, .slice none 0 0] 49)
  have HX := Lib.hid (ext_trans hx1 hx2)
  have HC := Lib.hid (Sol.blk_ext (Blk.new w 45 [.slice AO offs.length co, .slice AH hol.length ch]) hx2)
  have hz := zero_cal (w.alloc (.cells #[.slice AO offs.length co, .slice AH hol.length ch] 45))
  have HZ := Lib.hid (pworks_any (cdOf [] []) (by simp [cdOf]) _ 0 none 0 5 _ hz)
  have hs : (w.alloc (.cells #[.slice AO offs.length co, .slice AH hol.length ch] 45)).heap.size = w.heap.size + 1 := by simp
  rw [hs, zero_works] at HZ
  clear hx1 hx2 hz hs
  go_enter Tryd.func4, Tryd.ntmps4
  go_wp2_with fail
  refine HZ.out.mono ?_
  rintro e w1 ⟨rfl, q1, rfl⟩
  generalize hW : (w.alloc (.cells #[.slice AO offs.length co, .slice AH hol.length ch] 45)).alloc (.cells #[.bool false, .bool false, .bool false, .bool false, .bool false, .bool false, .bool false, .slice none 0 0] 49) = W at *
  clear hW HZ
  have HB1 := Lib.hid (ext_trans HX.out (ext_drewN W q1))
  have HC1 := Lib.hid (Sol.blk_ext HC.out (ext_drewN W q1))
  have c1 := HC1.out.cell 1 rfl
  generalize W.drewN q1 = W1 at *
  by_cases h1 : 100 < hol.length
  · have h1' : decide (100 < (hol.length : Int)) = true := by simp; omega
    go_wp2_with fail
    go_ret
    exact ⟨rfl, HB1.out⟩
  have h1' : decide (100 < (hol.length : Int)) = false := by simp; omega
  by_cases h2 : 1099511627776 < n
  · have h2' : decide (1099511627776 < n) = true := by simp [h2]
    obtain ⟨p, hp⟩ : ∃ p, IntKind.i64.wrap (n + 4000) = p := ⟨_, rfl⟩
    obtain ⟨r, hr⟩ : ∃ r, IntKind.i64.wrap (n - 4000) = r := ⟨_, rfl⟩
    by_cases d1 : p < tt
    · have d1' : decide (p < tt) = true := by simp [d1]
      go_wp2_with fail
      go_ret
      exact ⟨rfl, HB1.out⟩
    · have d1' : decide (p < tt) = false := by simp; omega
      by_cases d2 : tt < r
      · have d2' : decide (tt < r) = true := by simp [d2]
        go_wp2_with fail
        go_ret
        exact ⟨rfl, HB1.out⟩
      · have d2' : decide (tt < r) = false := by simp; omega
        go_wp2_with fail
        go_ret
        exact ⟨rfl, HB1.out⟩
  have h2' : decide (1099511627776 < n) = false := by simp; omega
  by_cases h3 : n < -1099511627776
  · have h3' : decide (n < -1099511627776) = true := by simp [h3]
    obtain ⟨p, hp⟩ : ∃ p, IntKind.i64.wrap (n + 4000) = p := ⟨_, rfl⟩
    obtain ⟨r, hr⟩ : ∃ r, IntKind.i64.wrap (n - 4000) = r := ⟨_, rfl⟩
    by_cases d1 : p < tt
    · have d1' : decide (p < tt) = true := by simp [d1]
      go_wp2_with fail
      go_ret
      exact ⟨rfl, HB1.out⟩
    · have d1' : decide (p < tt) = false := by simp; omega
      by_cases d2 : tt < r
      · have d2' : decide (tt < r) = true := by simp [d2]
        go_wp2_with fail
        go_ret
        exact ⟨rfl, HB1.out⟩
      · have d2' : decide (tt < r) = false := by simp; omega
        go_wp2_with fail
        go_ret
        exact ⟨rfl, HB1.out⟩
  have h3' : decide (n < -1099511627776) = false := by simp; omega
  have b1 : n ≤ 1099511627776 := by omega
  have b2 : -1099511627776 ≤ n := by omega
  by_cases h4 : n + 4000 < tt
  · have h4' : decide (n + 4000 < tt) = true := by simp [h4]
    go_wp2_with fail
    go_ret
    exact ⟨rfl, HB1.out⟩
  · have h4' : decide (n + 4000 < tt) = false := by simp; omega
    have h5 : tt < n - 4000 := by omega
    have h5' : decide (tt < n - 4000) = true := by simp [h5]
    go_wp2_with fail
    go_ret
    exact ⟨rfl, HB1.out⟩
theorem walk (offs : List Bool) (hol : List Int) (AO : Option Addr) (co : Nat) (AH : Option Addr) (ch : Nat) (n how tt : Int) (A : Nat → Addr) (w : World) (hD : Dat w offs hol AO co AH ch) (hE : Errs w A) :
    Calls Tryd.prog 4 #[.agg #[.slice AO offs.length co, .slice AH hol.length ch], .int .i64 n, .int .i64 how, .int .i64 tt] w (BoolT w) := by
  by_cases h : 100 < hol.length ∨ 1099511627776 < n ∨ n < -1099511627776 ∨ n + 4000 < tt ∨ tt < n - 4000
  · exact walk_away offs hol AO co AH ch n how tt h w hD.hl
  · exact walk_main offs hol AO co AH ch n how tt (by omega) (by omega) (by omega) (by omega) (by omega) A w hD hE
end Go.Proofs.YtnbpdknmbjkfeaaDoor.DayWorks

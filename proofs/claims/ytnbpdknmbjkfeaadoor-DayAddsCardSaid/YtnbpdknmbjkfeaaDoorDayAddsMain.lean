/- The law DayAdds answers true: the walk of the law. -/
import Derived.Test.YtnbpdknmbjkfeaaDoorDayWorksMain
namespace Go.Proofs.YtnbpdknmbjkfeaaDoor.DayAdds
open Go.RowKit Mem CdP MapSet Solve CdR CdM Day Nest RefDay App Thm Err DayWorks

theorem zero_walk (d : Int) (h0 : 0 ≤ d) : ∀ (n : Nat), d + n ≤ 3652059 → Walk (cdOf [] []) 1 d n (some (d + n))
  | 0, _ => by simpa using Walk.done (c := cdOf [] []) (st := 1) d
  | n + 1, h => by
    refine .on _ _ _ ⟨by omega, by omega⟩ ?_ ?_
    · have e : ∀ x, offAt (cdOf [] []).off x = false := fun x => by
        unfold offAt
        have hl : ((x - 1) % 7).toNat < 7 := by omega
        generalize ((x - 1) % 7).toNat = m at *
        have h : m = 0 ∨ m = 1 ∨ m = 2 ∨ m = 3 ∨ m = 4 ∨ m = 5 ∨ m = 6 := by omega
        rcases h with rfl | rfl | rfl | rfl | rfl | rfl | rfl <;> rfl
      unfold wk
      rw [e]
      rfl
    · have := zero_walk (d + 1) (by omega) n (by omega)
      rw [show d + 1 + (n : Int) = d + ((n + 1 : Nat) : Int) by omega] at this
      exact this
theorem zero_add : AddP (cdOf [] []) 5 3 (8, 0) := .inr (.inr (.inr (.inl ⟨by decide, by decide, some 8, zero_walk 5 (by omega) 3 (by omega), rfl⟩)))
/-- working days on: how far, how many, and the last -/
theorem on_far {c : Cd} {n k : Int} {o : Int × Int} (h : AddP c n k o) (h0 : o.2 = 0) (hk : 1 ≤ k) : Gd n ∧ k ≤ 100000 ∧ Walk c 1 n k.toNat (some o.1) := by
  rcases h with ⟨a, rfl⟩ | ⟨a, b, rfl⟩ | ⟨a, b, rfl⟩ | ⟨a, b, r, hr, rfl⟩ | ⟨a, b, r, hr, rfl⟩
  · simp at h0
  · simp at h0
  · omega
  · cases r with
    | none => simp [resOf] at h0
    | some d => exact ⟨a, b.2, hr⟩
  · omega
theorem walk_gd {c : Cd} {n : Int} {m : Nat} {r : Option Int} (h : Walk c 1 n m r) : ∀ d, r = some d → Gd n → Gd d ∧ n ≤ d := by
  induction h with
  | done d => intro e he g; cases he; exact ⟨g, by omega⟩
  | out d n g => intro e he; cases he
  | off d n r g hw _ ih => intro e he _; have := ih e he g; exact ⟨this.1, by omega⟩
  | on d n r g hw _ ih => intro e he _; have := ih e he g; exact ⟨this.1, by omega⟩
theorem on_count {c : Cd} {n k : Int} {o : Int × Int} (h : AddP c n k o) (h0 : o.2 = 0) (hk : 1 ≤ k) : cntI c (n + 1) (o.1 + 1) = k := by
  obtain ⟨g, hk2, hw⟩ := on_far h h0 hk
  obtain ⟨kk, e, hc⟩ := hw.count _ rfl
  obtain ⟨gd, hle⟩ := walk_gd hw _ rfl g
  have h1 := (cl_is (n + 1)).2.2 (by unfold Gd at g; omega) (by unfold Gd at g; omega)
  have h2 := (cl_is (o.1 + 1)).2.2 (by unfold Gd at gd; omega) (by unfold Gd at gd; omega)
  unfold cntI cntR
  rw [if_neg (by omega), h1, h2, show (o.1 + 1 - (n + 1)).toNat = kk by omega, hc]
  omega
/-- the last day of a walk works -/
theorem last_wk {c : Cd} {n : Int} {m : Nat} {r : Option Int} (h : Walk c 1 n m r) : ∀ d, r = some d → 0 < m → wk c.off c.hol d = true ∧ n < d := by
  induction h with
  | done d => intro e he g; omega
  | out d n g => intro e he; cases he
  | off d n r g hw _ ih => intro e he h; have := ih e he h; exact ⟨this.1, by omega⟩
  | on d n r g hw hr ih =>
    intro e he _
    by_cases h : n = 0
    · subst h
      subst he
      cases hr
      exact ⟨hw, by omega⟩
    · have := ih e he (by omega)
      exact ⟨this.1, by omega⟩
/-- and back again -/
theorem on_back {c : Cd} {n k : Int} {o o' : Int × Int} (h : AddP c n k o) (h0 : o.2 = 0) (hk : 1 ≤ k) (hw : worksB c n = true) (h' : AddP c o.1 (-k) o') : o' = (n, 0) := by
  obtain ⟨g, hk2, hwk⟩ := on_far h h0 hk
  obtain ⟨gd, hle⟩ := walk_gd hwk _ rfl g
  obtain ⟨lw, hlt⟩ := last_wk hwk _ rfl (by omega)
  obtain ⟨kk, e, hc⟩ := hwk.count _ rfl
  have hn : wk c.off c.hol n = true := by unfold worksB at hw; simp at hw; exact hw.2
  have hcc : cnt c.off c.hol n kk = k.toNat := by
    have h1 := cnt_front c.off c.hol n kk
    have h2 : cnt c.off c.hol n (kk + 1) = cnt c.off c.hol n kk + if wk c.off c.hol (n + kk) then 1 else 0 := rfl
    rw [hn, hc] at h1
    rw [← e, lw] at h2
    simp only [if_true] at h1 h2
    omega
  have hb := back c n kk k.toNat (fun i hi => by unfold Gd at *; omega) hn hcc (by omega)
  rw [← e] at hb
  have := AddP.same h' (o' := resOf (some n)) (.inr (.inr (.inr (.inr ⟨gd, by omega, some n, by rw [show (- -k).toNat = k.toNat by omega]; exact hb, rfl⟩))))
  exact this
theorem add_big {c : Cd} {n k : Int} {o : Int × Int} (h : AddP c n k o) (hk : 100000 < k ∨ k < -100000) : o = (0, 2) := AddP.same h (.inl ⟨hk, rfl⟩)
set_option maxRecDepth 100000 in
set_option maxHeartbeats 2000000 in
theorem walk_main (offs : List Bool) (hol : List Int) (AO : Option Addr) (co : Nat) (AH : Option Addr) (ch : Nat) (n k : Int) (hl : hol.length ≤ 100) (k1 : k ≤ 3000) (k2 : -3000 ≤ k) (A : Nat → Addr) (w : World) (hD : Dat w offs hol AO co AH ch) (hE : Errs w A) :
    Calls Tryd.prog 5 #[.agg #[.slice AO offs.length co, .slice AH hol.length ch], .int .i64 n, .int .i64 k] w (BoolT w) := by
  have HD := Lib.hid hD
  have HE := Lib.hid hE
  have hl1 : decide (100 < (hol.length : Int)) = false := by simp; omega
  have HOk := Lib.hid (cd_ok hD hl)
  have hx1 := ext_alloc w (.cells #[.slice AO offs.length co, .slice AH hol.length ch] 45)
  have hx2 := ext_alloc (w.alloc (.cells #[.slice AO offs.length co, .slice AH hol.length ch] 45)) (.cells #[.bool false, .bool false, .bool false, .bool false, .bool false, .bool false, .bool false, .slice none 0 0] 49)
  have HX := Lib.hid (ext_trans hx1 hx2)
  have HC := Lib.hid (Sol.blk_ext (Blk.new w 45 [.slice AO offs.length co, .slice AH hol.length ch]) hx2)
  have hz := zero_cal (w.alloc (.cells #[.slice AO offs.length co, .slice AH hol.length ch] 45))
  have HZ := Lib.hid (padd_any (cdOf [] []) zero_ok _ 0 none 0 5 3 A _ hz (hE.below HX.out))
  have hs : (w.alloc (.cells #[.slice AO offs.length co, .slice AH hol.length ch] 45)).heap.size = w.heap.size + 1 := by simp
  rw [hs] at HZ
  have hol1 := hD.ol
  clear hx1 hx2 hz hs hD hE
  go_enter Tryd.func5, Tryd.ntmps5
  go_wp2_with fail
  refine HZ.out.mono ?_
  rintro e w1 ⟨o, ho, rfl, hb1⟩
  obtain rfl := AddP.same zero_add ho
  rw [errC_zero]
  generalize hW : (w.alloc (.cells #[.slice AO offs.length co, .slice AH hol.length ch] 45)).alloc (.cells #[.bool false, .bool false, .bool false, .bool false, .bool false, .bool false, .bool false, .slice none 0 0] 49) = W at *
  clear hW HZ ho
  have HB1 := Lib.hid (ext_trans HX.out hb1)
  have HC1 := Lib.hid (Sol.blk_ext HC.out hb1)
  have c0 := HC1.out.cell 0 rfl
  have c1 := HC1.out.cell 1 rfl
  clear hb1
  go_wp2_with fail
  refine (both_any offs hol hol1 (by omega) AO co AH ch HD.out.nil _ (HD.out.rO.ext HB1.out) (HD.out.rH.ext HB1.out)).mono ?_
  rintro e w2 ⟨x, y, Ax, cx, Ay, cy, rfl, hx, hy, hb⟩
  have HX2 := Lib.hid hx
  have HY2 := Lib.hid hy
  have HB2 := Lib.hid (ext_trans HB1.out hb)
  obtain ⟨c, hc⟩ : ∃ c, c = cdOf offs hol := ⟨_, rfl⟩
  rw [← hc] at HX2 HY2 HOk
  clear hx hy hb c0 c1 hc HC HC1
  go_wp2_with fail
  refine (padd_any c HOk.out x 0 Ax cx n k A _ HX2.out (HE.out.below HB2.out)).mono ?_
  rintro e w4 ⟨o, ho, rfl, hb⟩
  have HO := Lib.hid ho
  have HX4 := Lib.hid (HX2.out.ext hb)
  have HY4 := Lib.hid (HY2.out.ext hb)
  have HB4 := Lib.hid (ext_trans HB2.out hb)
  clear ho hb
  go_wp2_with fail
  refine (radd_any c HOk.out.len y 0 Ay cy n k _ HY4.out).mono ?_
  rintro e w5 ⟨o2, ho2, rfl, hb⟩
  obtain rfl := AddP.same HO.out ho2
  have HX5 := Lib.hid (HX4.out.ext hb)
  have HB5 := Lib.hid (ext_trans HB4.out hb)
  have HCd := Lib.hid (fun w h => coded_same A o.2 HO.out.code w h)
  clear ho2 hb
  by_cases hz : o.2 = 0
  · have he0 : errC A o.2 = .nilIface := by rw [hz]; rfl
    rw [he0, hz] at HCd
    rw [he0, hz]
    clear he0
    go_wp2_with fail
    refine (HCd.out _ (HE.out.below HB5.out)).mono ?_
    rintro e w6 ⟨rfl, hb⟩
    have HX6 := Lib.hid (HX5.out.ext hb)
    have HB6 := Lib.hid (ext_trans HB5.out hb)
    clear hb
    by_cases hk : k < 1
    · have hk' : decide (k < 1) = true := by simp [hk]
      clear hz
      generalize o.1 = ov at *
      go_wp2_with fail
      go_ret
      exact ⟨rfl, HB6.out⟩
    · have hk' : decide (k < 1) = false := by simp; omega
      have HCt := Lib.hid (on_count HO.out hz (by omega))
      have hgd := on_far HO.out hz (by omega)
      have hgo := (walk_gd hgd.2.2 _ rfl hgd.1).1
      have n1 : 1 ≤ n := hgd.1.1
      have n2 : n ≤ 3652059 := hgd.1.2
      have v1 : 1 ≤ o.1 := hgo.1
      have v2 : o.1 ≤ 3652059 := hgo.2
      have HBk := Lib.hid (fun (o' : Int × Int) hw h' => on_back (o' := o') HO.out hz (by omega) hw h')
      have HPa := Lib.hid (fun w h hE => padd_any c HOk.out x 0 Ax cx o.1 (-k) A w h hE)
      clear hz hgd hgo
      generalize o.1 = ov at *
      clear HO
      have HCn := Lib.hid (fun w h => count_any c HOk.out x 0 Ax cx (n + 1) (ov + 1) w h)
      rw [HCt.out] at HCn
      have HWk := Lib.hid (pworks_any c HOk.out.len x 0 Ax cx n _ HX6.out)
      obtain ⟨g, hg⟩ : ∃ g, g = worksB c n := ⟨_, rfl⟩
      have HG := Lib.hid hg
      rw [← hg] at HWk
      clear hg
      go_wp2_with fail
      refine HWk.out.mono ?_
      rintro e w7 ⟨rfl, q7, rfl⟩
      have HX7 := Lib.hid (HX6.out.ext (ext_drewN w6 q7))
      have HB7 := Lib.hid (ext_trans HB6.out (ext_drewN w6 q7))
      generalize w6.drewN q7 = w7 at *
      go_wp2_with fail
      refine (HPa.out _ HX7.out (HE.out.below HB7.out)).mono ?_
      rintro e w8 ⟨o', ho', rfl, hb⟩
      have HO' := Lib.hid ho'
      have HX8 := Lib.hid (HX7.out.ext hb)
      have HB8 := Lib.hid (ext_trans HB7.out hb)
      clear hb ho'
      cases g
      · generalize errC A o'.2 = ev at *
        generalize o'.1 = ov' at *
        go_wp2_with fail
        refine (HCn.out _ HX8.out).mono ?_
        rintro e w9 ⟨rfl, hb⟩
        have HB9 := Lib.hid (ext_trans HB8.out hb)
        clear hb
        go_wp2_with fail
        go_ret
        exact ⟨ret_bool (by simp), HB9.out⟩
      · obtain rfl := HBk.out o' HG.out.symm HO'.out
        have he0 : errC A ((n, 0) : Int × Int).2 = .nilIface := rfl
        rw [he0]
        go_wp2_with fail
        refine (HCn.out _ HX8.out).mono ?_
        rintro e w9 ⟨rfl, hb⟩
        have HB9 := Lib.hid (ext_trans HB8.out hb)
        clear hb
        go_wp2_with fail
        go_ret
        exact ⟨ret_bool (by simp), HB9.out⟩
  · have he1 : errC A o.2 = errV (A (o.2 - 1).toNat) := by unfold errC; rw [if_neg hz]
    rw [he1] at HCd
    rw [he1]
    clear he1 hz HO
    generalize A (o.2 - 1).toNat = a at *
    unfold errV at HCd ⊢
    generalize o.2 = oc at *
    generalize o.1 = ov at *
    go_wp2_with fail
    refine (HCd.out _ (HE.out.below HB5.out)).mono ?_
    rintro e w6 ⟨rfl, hb⟩
    have HB6 := Lib.hid (ext_trans HB5.out hb)
    clear hb
    go_wp2_with fail
    go_ret
    exact ⟨ret_bool (by simp), HB6.out⟩
set_option maxRecDepth 100000 in
set_option maxHeartbeats 2000000 in
theorem walk_up (offs : List Bool) (hol : List Int) (AO : Option Addr) (co : Nat) (AH : Option Addr) (ch : Nat) (n k : Int) (hl : hol.length ≤ 100) (k1 : 100000 < k) (A : Nat → Addr) (w : World) (hD : Dat w offs hol AO co AH ch) (hE : Errs w A) :
    Calls Tryd.prog 5 #[.agg #[.slice AO offs.length co, .slice AH hol.length ch], .int .i64 n, .int .i64 k] w (BoolT w) := by
  have HD := Lib.hid hD
  have HE := Lib.hid hE
  have hl1 : decide (100 < (hol.length : Int)) = false := by simp; omega
  have HOk := Lib.hid (cd_ok hD hl)
  have hx1 := ext_alloc w (.cells #[.slice AO offs.length co, .slice AH hol.length ch] 45)
  have hx2 := ext_alloc (w.alloc (.cells #[.slice AO offs.length co, .slice AH hol.length ch] 45)) (.cells #[.bool false, .bool false, .bool false, .bool false, .bool false, .bool false, .bool false, .slice none 0 0] 49)
  have HX := Lib.hid (ext_trans hx1 hx2)
  have HC := Lib.hid (Sol.blk_ext (Blk.new w 45 [.slice AO offs.length co, .slice AH hol.length ch]) hx2)
  have hz := zero_cal (w.alloc (.cells #[.slice AO offs.length co, .slice AH hol.length ch] 45))
  have HZ := Lib.hid (padd_any (cdOf [] []) zero_ok _ 0 none 0 5 3 A _ hz (hE.below HX.out))
  have hs : (w.alloc (.cells #[.slice AO offs.length co, .slice AH hol.length ch] 45)).heap.size = w.heap.size + 1 := by simp
  rw [hs] at HZ
  have hol1 := hD.ol
  clear hx1 hx2 hz hs hD hE
  go_enter Tryd.func5, Tryd.ntmps5
  go_wp2_with fail
  refine HZ.out.mono ?_
  rintro e w1 ⟨o, ho, rfl, hb1⟩
  obtain rfl := AddP.same zero_add ho
  rw [errC_zero]
  generalize hW : (w.alloc (.cells #[.slice AO offs.length co, .slice AH hol.length ch] 45)).alloc (.cells #[.bool false, .bool false, .bool false, .bool false, .bool false, .bool false, .bool false, .slice none 0 0] 49) = W at *
  clear hW HZ ho
  have HB1 := Lib.hid (ext_trans HX.out hb1)
  have HC1 := Lib.hid (Sol.blk_ext HC.out hb1)
  have c0 := HC1.out.cell 0 rfl
  have c1 := HC1.out.cell 1 rfl
  clear hb1
  go_wp2_with fail
  refine (both_any offs hol hol1 (by omega) AO co AH ch HD.out.nil _ (HD.out.rO.ext HB1.out) (HD.out.rH.ext HB1.out)).mono ?_
  rintro e w2 ⟨x, y, Ax, cx, Ay, cy, rfl, hx, hy, hb⟩
  have HX2 := Lib.hid hx
  have HY2 := Lib.hid hy
  have HB2 := Lib.hid (ext_trans HB1.out hb)
  obtain ⟨c, hc⟩ : ∃ c, c = cdOf offs hol := ⟨_, rfl⟩
  rw [← hc] at HX2 HY2 HOk
  clear hx hy hb c0 c1 hc HC HC1
  go_wp2_with fail
  refine (padd_any c HOk.out x 0 Ax cx n k A _ HX2.out (HE.out.below HB2.out)).mono ?_
  rintro e w4 ⟨o, ho, rfl, hb⟩
  have HO := Lib.hid ho
  have HX4 := Lib.hid (HX2.out.ext hb)
  have HY4 := Lib.hid (HY2.out.ext hb)
  have HB4 := Lib.hid (ext_trans HB2.out hb)
  clear ho hb
  go_wp2_with fail
  refine (radd_any c HOk.out.len y 0 Ay cy n k _ HY4.out).mono ?_
  rintro e w5 ⟨o2, ho2, rfl, hb⟩
  obtain rfl := AddP.same HO.out ho2
  have HX5 := Lib.hid (HX4.out.ext hb)
  have HB5 := Lib.hid (ext_trans HB4.out hb)
  have HCd := Lib.hid (fun w h => coded_same A o.2 HO.out.code w h)
  clear ho2 hb
  obtain rfl := add_big HO.out (by omega)
  have he1 : errC A ((0, 2) : Int × Int).2 = errV (A 1) := rfl
  rw [he1] at HCd
  rw [he1]
  clear he1 HO
  generalize A 1 = a at *
  unfold errV at HCd ⊢
  go_wp2_with fail
  refine (HCd.out _ (HE.out.below HB5.out)).mono ?_
  rintro e w6 ⟨rfl, hb⟩
  have HB6 := Lib.hid (ext_trans HB5.out hb)
  clear hb
  go_wp2_with fail
  go_ret
  exact ⟨ret_bool (by simp), HB6.out⟩
set_option maxRecDepth 100000 in
set_option maxHeartbeats 2000000 in
theorem walk_down (offs : List Bool) (hol : List Int) (AO : Option Addr) (co : Nat) (AH : Option Addr) (ch : Nat) (n k : Int) (hl : hol.length ≤ 100) (k1 : k < -100000) (A : Nat → Addr) (w : World) (hD : Dat w offs hol AO co AH ch) (hE : Errs w A) :
    Calls Tryd.prog 5 #[.agg #[.slice AO offs.length co, .slice AH hol.length ch], .int .i64 n, .int .i64 k] w (BoolT w) := by
  have HD := Lib.hid hD
  have HE := Lib.hid hE
  have hl1 : decide (100 < (hol.length : Int)) = false := by simp; omega
  have HOk := Lib.hid (cd_ok hD hl)
  have hx1 := ext_alloc w (.cells #[.slice AO offs.length co, .slice AH hol.length ch] 45)
  have hx2 := ext_alloc (w.alloc (.cells #[.slice AO offs.length co, .slice AH hol.length ch] 45)) (.cells #[.bool false, .bool false, .bool false, .bool false, .bool false, .bool false, .bool false, .slice none 0 0] 49)
  have HX := Lib.hid (ext_trans hx1 hx2)
  have HC := Lib.hid (Sol.blk_ext (Blk.new w 45 [.slice AO offs.length co, .slice AH hol.length ch]) hx2)
  have hz := zero_cal (w.alloc (.cells #[.slice AO offs.length co, .slice AH hol.length ch] 45))
  have HZ := Lib.hid (padd_any (cdOf [] []) zero_ok _ 0 none 0 5 3 A _ hz (hE.below HX.out))
  have hs : (w.alloc (.cells #[.slice AO offs.length co, .slice AH hol.length ch] 45)).heap.size = w.heap.size + 1 := by simp
  rw [hs] at HZ
  have hol1 := hD.ol
  clear hx1 hx2 hz hs hD hE
  go_enter Tryd.func5, Tryd.ntmps5
  go_wp2_with fail
  refine HZ.out.mono ?_
  rintro e w1 ⟨o, ho, rfl, hb1⟩
  obtain rfl := AddP.same zero_add ho
  rw [errC_zero]
  generalize hW : (w.alloc (.cells #[.slice AO offs.length co, .slice AH hol.length ch] 45)).alloc (.cells #[.bool false, .bool false, .bool false, .bool false, .bool false, .bool false, .bool false, .slice none 0 0] 49) = W at *
  clear hW HZ ho
  have HB1 := Lib.hid (ext_trans HX.out hb1)
  have HC1 := Lib.hid (Sol.blk_ext HC.out hb1)
  have c0 := HC1.out.cell 0 rfl
  have c1 := HC1.out.cell 1 rfl
  clear hb1
  go_wp2_with fail
  refine (both_any offs hol hol1 (by omega) AO co AH ch HD.out.nil _ (HD.out.rO.ext HB1.out) (HD.out.rH.ext HB1.out)).mono ?_
  rintro e w2 ⟨x, y, Ax, cx, Ay, cy, rfl, hx, hy, hb⟩
  have HX2 := Lib.hid hx
  have HY2 := Lib.hid hy
  have HB2 := Lib.hid (ext_trans HB1.out hb)
  obtain ⟨c, hc⟩ : ∃ c, c = cdOf offs hol := ⟨_, rfl⟩
  rw [← hc] at HX2 HY2 HOk
  clear hx hy hb c0 c1 hc HC HC1
  go_wp2_with fail
  refine (padd_any c HOk.out x 0 Ax cx n k A _ HX2.out (HE.out.below HB2.out)).mono ?_
  rintro e w4 ⟨o, ho, rfl, hb⟩
  have HO := Lib.hid ho
  have HX4 := Lib.hid (HX2.out.ext hb)
  have HY4 := Lib.hid (HY2.out.ext hb)
  have HB4 := Lib.hid (ext_trans HB2.out hb)
  clear ho hb
  go_wp2_with fail
  refine (radd_any c HOk.out.len y 0 Ay cy n k _ HY4.out).mono ?_
  rintro e w5 ⟨o2, ho2, rfl, hb⟩
  obtain rfl := AddP.same HO.out ho2
  have HX5 := Lib.hid (HX4.out.ext hb)
  have HB5 := Lib.hid (ext_trans HB4.out hb)
  have HCd := Lib.hid (fun w h => coded_same A o.2 HO.out.code w h)
  clear ho2 hb
  obtain rfl := add_big HO.out (by omega)
  have he1 : errC A ((0, 2) : Int × Int).2 = errV (A 1) := rfl
  rw [he1] at HCd
  rw [he1]
  clear he1 HO
  generalize A 1 = a at *
  unfold errV at HCd ⊢
  go_wp2_with fail
  refine (HCd.out _ (HE.out.below HB5.out)).mono ?_
  rintro e w6 ⟨rfl, hb⟩
  have HB6 := Lib.hid (ext_trans HB5.out hb)
  clear hb
  go_wp2_with fail
  go_ret
  exact ⟨ret_bool (by simp), HB6.out⟩
set_option maxRecDepth 100000 in
set_option maxHeartbeats 2000000 in
theorem walk_away (offs : List Bool) (hol : List Int) (AO : Option Addr) (co : Nat) (AH : Option Addr) (ch : Nat) (n k : Int) (hl : 100 < hol.length ∨ (3000 < k ∧ k ≤ 100000) ∨ (k < -3000 ∧ -100000 ≤ k)) (A : Nat → Addr) (w : World) (hD : Dat w offs hol AO co AH ch) (hE : Errs w A) :
    Calls Tryd.prog 5 #[.agg #[.slice AO offs.length co, .slice AH hol.length ch], .int .i64 n, .int .i64 k] w (BoolT w) := by
  have hlen := hD.hl
  have HD := Lib.hid hD
  have HE := Lib.hid hE
  have hx1 := ext_alloc w (.cells #[.slice AO offs.length co, .slice AH hol.length ch] 45)
  have hx2 := ext_alloc (w.alloc (.cells #[.slice AO offs.length co, .slice AH hol.length ch] 45)) (.cells #[.bool false, .bool false, .bool false, .bool false, .bool false, .bool false, .bool false, .slice none 0 0] 49)
  have HX := Lib.hid (ext_trans hx1 hx2)
  have HC := Lib.hid (Sol.blk_ext (Blk.new w 45 [.slice AO offs.length co, .slice AH hol.length ch]) hx2)
  have hz := zero_cal (w.alloc (.cells #[.slice AO offs.length co, .slice AH hol.length ch] 45))
  have HZ := Lib.hid (padd_any (cdOf [] []) zero_ok _ 0 none 0 5 3 A _ hz (hE.below HX.out))
  have hs : (w.alloc (.cells #[.slice AO offs.length co, .slice AH hol.length ch] 45)).heap.size = w.heap.size + 1 := by simp
  rw [hs] at HZ
  have hol1 := hD.ol
  clear hx1 hx2 hz hs hD hE
  go_enter Tryd.func5, Tryd.ntmps5
  go_wp2_with fail
  refine HZ.out.mono ?_
  rintro e w1 ⟨o, ho, rfl, hb1⟩
  obtain rfl := AddP.same zero_add ho
  rw [errC_zero]
  generalize hW : (w.alloc (.cells #[.slice AO offs.length co, .slice AH hol.length ch] 45)).alloc (.cells #[.bool false, .bool false, .bool false, .bool false, .bool false, .bool false, .bool false, .slice none 0 0] 49) = W at *
  clear hW HZ ho
  have HB1 := Lib.hid (ext_trans HX.out hb1)
  have HC1 := Lib.hid (Sol.blk_ext HC.out hb1)
  have c0 := HC1.out.cell 0 rfl
  have c1 := HC1.out.cell 1 rfl
  clear hb1
  by_cases h1 : 100 < hol.length
  · have h1' : decide (100 < (hol.length : Int)) = true := by simp; omega
    go_wp2_with fail
    go_ret
    exact ⟨rfl, HB1.out⟩
  have h1' : decide (100 < (hol.length : Int)) = false := by simp; omega
  by_cases h2 : 3000 < k
  · have h2' : decide (3000 < k) = true := by simp [h2]
    have h3' : decide (k ≤ 100000) = true := by simp; omega
    go_wp2_with fail
    go_ret
    exact ⟨rfl, HB1.out⟩
  · have h2' : decide (3000 < k) = false := by simp; omega
    have h3' : decide (k < -3000) = true := by simp; omega
    have h4' : decide (-100000 ≤ k) = true := by simp; omega
    go_wp2_with fail
    go_ret
    exact ⟨rfl, HB1.out⟩
theorem walk (offs : List Bool) (hol : List Int) (AO : Option Addr) (co : Nat) (AH : Option Addr) (ch : Nat) (n k : Int) (A : Nat → Addr) (w : World) (hD : Dat w offs hol AO co AH ch) (hE : Errs w A) :
    Calls Tryd.prog 5 #[.agg #[.slice AO offs.length co, .slice AH hol.length ch], .int .i64 n, .int .i64 k] w (BoolT w) := by
  by_cases h : 100 < hol.length ∨ (3000 < k ∧ k ≤ 100000) ∨ (k < -3000 ∧ -100000 ≤ k)
  · exact walk_away offs hol AO co AH ch n k h A w hD hE
  · by_cases h1 : 100000 < k
    · exact walk_up offs hol AO co AH ch n k (by omega) h1 A w hD hE
    · by_cases h2 : k < -100000
      · exact walk_down offs hol AO co AH ch n k (by omega) h2 A w hD hE
      · exact walk_main offs hol AO co AH ch n k (by omega) (by omega) (by omega) A w hD hE
end Go.Proofs.YtnbpdknmbjkfeaaDoor.DayAdds

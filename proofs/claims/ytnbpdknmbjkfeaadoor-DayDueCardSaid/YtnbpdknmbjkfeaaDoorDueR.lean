/- The day that is due: the document's Due. -/
import Derived.Test.YtnbpdknmbjkfeaaDoorDueP
namespace Go.Proofs.YtnbpdknmbjkfeaaDoor.CdM
open Go.RowKit Mem Cal CdP MapSet Solve CdR Day Nest RefDay Err

set_option maxRecDepth 100000 in
set_option maxHeartbeats 4000000 in
theorem rdue_good (c : Cd) (hh : c.hol.length ≤ 1048576) (b o : Nat) (H : Option Addr) (hc : Nat) (d n u how : Int) (hn : 0 ≤ n ∧ n ≤ 100000) (hk : ¬ KindBad u how) (hg : Gd d) (w : World) (h : CdA w b o c H hc) :
    Calls Tryd.prog 39 #[.pointer (some ⟨b, o, none⟩), .int .i64 d, .agg #[.int .i64 n, .int .i64 u, .int .i64 how]] w (RPost (DueP c d n u how) w) := by
  have hx := ext_alloc w (.cells #[.int .i64 n, .int .i64 u, .int .i64 how] 88)
  have HX := Lib.hid hx
  have HC := Lib.hid (h.ext hx)
  have HT := Lib.hid (Blk.new w 88 [.int .i64 n, .int .i64 u, .int .i64 how])
  clear hx h
  have HK := Lib.hid hk
  have HN := Lib.hid hn
  have HG := Lib.hid hg
  obtain ⟨g1, g2⟩ := hg
  obtain ⟨n1, n2⟩ := hn
  have HGo := Lib.hid (fun w => isday_yes d g1 g2 w)
  have HHow := Lib.hid (show 0 ≤ how ∧ how ≤ 2 by unfold KindBad at hk; omega)
  have hcase : u = 0 ∨ u = 1 ∨ u = 2 ∨ u = 3 ∨ u = 4 := by unfold KindBad at hk; omega
  have k1 : decide (n < 0) = false := by simp; omega
  have k2 : decide (100000 < n) = false := by simp; omega
  have k3 : decide (how < 0) = false := by unfold KindBad at hk; simp; omega
  have k4 : decide (2 < how) = false := by unfold KindBad at hk; simp; omega
  clear hk
  rcases hcase with rfl | rfl | rfl | rfl | rfl
  · go_enter Tryd.func39, Tryd.ntmps39
    go_wp2_with fail
    refine (HGo.out _).mono ?_
    rintro e w' ⟨rfl, rfl⟩
    have t0 := HT.out.cell 0 rfl
    have t1 := HT.out.cell 1 rfl
    have t2 := HT.out.cell 2 rfl
    go_wp2_with fail
    refine (rroll_any c hh b o H hc (d + n) how _ HC.out).mono ?_
    rintro e w4 ⟨oo, ho, rfl, hb⟩
    have HO := Lib.hid ho
    have HB4 := Lib.hid (ext_trans HX.out hb)
    clear ho hb
    go_wp2_with fail
    go_ret2
    refine ⟨oo, .inr (.inr (.inr ⟨HN.out, HK.out, HG.out, (d + n, 0), .inl ⟨rfl, rfl⟩, ?_⟩)), rfl, HB4.out⟩
    by_cases hgx : Gd (d + n)
    · exact .inr ⟨rfl, hgx, HO.out⟩
    · exact .inl ⟨.inr hgx, HO.out.same (.inr (.inl ⟨HHow.out, hgx, rfl⟩))⟩
  · go_enter Tryd.func39, Tryd.ntmps39
    go_wp2_with fail
    refine (HGo.out _).mono ?_
    rintro e w' ⟨rfl, rfl⟩
    have t0 := HT.out.cell 0 rfl
    have t1 := HT.out.cell 1 rfl
    have t2 := HT.out.cell 2 rfl
    go_wp2_with fail
    refine (radd_any c hh b o H hc d n _ HC.out).mono ?_
    rintro e w2 ⟨m, hm, rfl, hb⟩
    obtain ⟨x, k⟩ := m
    have HM := Lib.hid hm
    have HB2 := Lib.hid (ext_trans HX.out hb)
    have HC2 := Lib.hid (HC.out.ext hb)
    have HT2 := Lib.hid (Sol.blk_ext HT.out hb)
    clear t0 t1 t2
    have t0 := HT2.out.cell 0 rfl
    have t1 := HT2.out.cell 1 rfl
    have t2 := HT2.out.cell 2 rfl
    have hco : k = 0 ∨ k = 2 ∨ k = 4 ∨ k = 9 := hm.code
    clear hm hb
    by_cases hk0 : k = 0
    · subst hk0
      go_wp2_with fail
      refine (rroll_any c hh b o H hc (x) how _ HC2.out).mono ?_
      rintro e w4 ⟨oo, ho, rfl, hb⟩
      have HO := Lib.hid ho
      have HB4 := Lib.hid (ext_trans HB2.out hb)
      clear ho hb
      go_wp2_with fail
      go_ret2
      refine ⟨oo, .inr (.inr (.inr ⟨HN.out, HK.out, HG.out, (x, 0), .inr (.inr (.inl ⟨rfl, HM.out⟩)), ?_⟩)), rfl, HB4.out⟩
      by_cases hgx : Gd (x)
      · exact .inr ⟨rfl, hgx, HO.out⟩
      · exact .inl ⟨.inr hgx, HO.out.same (.inr (.inl ⟨HHow.out, hgx, rfl⟩))⟩
    · have hk1 : decide (0 < k) = true := by simp; omega
      have HK0 := Lib.hid hk0
      clear hk0 hco
      go_wp2_with fail
      go_ret2
      exact ⟨(0, 4), .inr (.inr (.inr ⟨HN.out, HK.out, HG.out, (x, k), .inr (.inr (.inl ⟨rfl, HM.out⟩)), .inl ⟨.inl HK0.out, rfl⟩⟩)), rfl, HB2.out⟩
  · go_enter Tryd.func39, Tryd.ntmps39
    go_wp2_with fail
    refine (HGo.out _).mono ?_
    rintro e w' ⟨rfl, rfl⟩
    have t0 := HT.out.cell 0 rfl
    have t1 := HT.out.cell 1 rfl
    have t2 := HT.out.cell 2 rfl
    go_wp2_with fail
    refine (rroll_any c hh b o H hc (d + 7 * n) how _ HC.out).mono ?_
    rintro e w4 ⟨oo, ho, rfl, hb⟩
    have HO := Lib.hid ho
    have HB4 := Lib.hid (ext_trans HX.out hb)
    clear ho hb
    go_wp2_with fail
    go_ret2
    refine ⟨oo, .inr (.inr (.inr ⟨HN.out, HK.out, HG.out, (d + 7 * n, 0), .inr (.inl ⟨rfl, rfl⟩), ?_⟩)), rfl, HB4.out⟩
    by_cases hgx : Gd (d + 7 * n)
    · exact .inr ⟨rfl, hgx, HO.out⟩
    · exact .inl ⟨.inr hgx, HO.out.same (.inr (.inl ⟨HHow.out, hgx, rfl⟩))⟩
  · go_enter Tryd.func39, Tryd.ntmps39
    go_wp2_with fail
    refine (HGo.out _).mono ?_
    rintro e w' ⟨rfl, rfl⟩
    have t0 := HT.out.cell 0 rfl
    have t1 := HT.out.cell 1 rfl
    have t2 := HT.out.cell 2 rfl
    go_wp2_with fail
    refine (rmonths_any d n _).mono ?_
    rintro e w2 ⟨m, hm, rfl, hb⟩
    obtain ⟨x, k⟩ := m
    have HM := Lib.hid hm
    have HB2 := Lib.hid (ext_trans HX.out hb)
    have HC2 := Lib.hid (HC.out.ext hb)
    have HT2 := Lib.hid (Sol.blk_ext HT.out hb)
    clear t0 t1 t2
    have t0 := HT2.out.cell 0 rfl
    have t1 := HT2.out.cell 1 rfl
    have t2 := HT2.out.cell 2 rfl
    have hco : k = 0 ∨ k = 2 ∨ k = 4 ∨ k = 9 := hm.code
    clear hm hb
    by_cases hk0 : k = 0
    · subst hk0
      go_wp2_with fail
      refine (rroll_any c hh b o H hc (x) how _ HC2.out).mono ?_
      rintro e w4 ⟨oo, ho, rfl, hb⟩
      have HO := Lib.hid ho
      have HB4 := Lib.hid (ext_trans HB2.out hb)
      clear ho hb
      go_wp2_with fail
      go_ret2
      refine ⟨oo, .inr (.inr (.inr ⟨HN.out, HK.out, HG.out, (x, 0), .inr (.inr (.inr (.inl ⟨rfl, HM.out⟩))), ?_⟩)), rfl, HB4.out⟩
      by_cases hgx : Gd (x)
      · exact .inr ⟨rfl, hgx, HO.out⟩
      · exact .inl ⟨.inr hgx, HO.out.same (.inr (.inl ⟨HHow.out, hgx, rfl⟩))⟩
    · have hk1 : decide (0 < k) = true := by simp; omega
      have HK0 := Lib.hid hk0
      clear hk0 hco
      go_wp2_with fail
      go_ret2
      exact ⟨(0, 4), .inr (.inr (.inr ⟨HN.out, HK.out, HG.out, (x, k), .inr (.inr (.inr (.inl ⟨rfl, HM.out⟩))), .inl ⟨.inl HK0.out, rfl⟩⟩)), rfl, HB2.out⟩
  · go_enter Tryd.func39, Tryd.ntmps39
    go_wp2_with fail
    refine (HGo.out _).mono ?_
    rintro e w' ⟨rfl, rfl⟩
    have t0 := HT.out.cell 0 rfl
    have t1 := HT.out.cell 1 rfl
    have t2 := HT.out.cell 2 rfl
    go_wp2_with fail
    refine (rmonths_any d (n * 12) _).mono ?_
    rintro e w2 ⟨m, hm, rfl, hb⟩
    obtain ⟨x, k⟩ := m
    have HM := Lib.hid hm
    have HB2 := Lib.hid (ext_trans HX.out hb)
    have HC2 := Lib.hid (HC.out.ext hb)
    have HT2 := Lib.hid (Sol.blk_ext HT.out hb)
    clear t0 t1 t2
    have t0 := HT2.out.cell 0 rfl
    have t1 := HT2.out.cell 1 rfl
    have t2 := HT2.out.cell 2 rfl
    have hco : k = 0 ∨ k = 2 ∨ k = 4 ∨ k = 9 := hm.code
    clear hm hb
    by_cases hk0 : k = 0
    · subst hk0
      go_wp2_with fail
      refine (rroll_any c hh b o H hc (x) how _ HC2.out).mono ?_
      rintro e w4 ⟨oo, ho, rfl, hb⟩
      have HO := Lib.hid ho
      have HB4 := Lib.hid (ext_trans HB2.out hb)
      clear ho hb
      go_wp2_with fail
      go_ret2
      refine ⟨oo, .inr (.inr (.inr ⟨HN.out, HK.out, HG.out, (x, 0), .inr (.inr (.inr (.inr ⟨rfl, by rw [Int.mul_comm]; exact HM.out⟩))), ?_⟩)), rfl, HB4.out⟩
      by_cases hgx : Gd (x)
      · exact .inr ⟨rfl, hgx, HO.out⟩
      · exact .inl ⟨.inr hgx, HO.out.same (.inr (.inl ⟨HHow.out, hgx, rfl⟩))⟩
    · have hk1 : decide (0 < k) = true := by simp; omega
      have HK0 := Lib.hid hk0
      clear hk0 hco
      go_wp2_with fail
      go_ret2
      exact ⟨(0, 4), .inr (.inr (.inr ⟨HN.out, HK.out, HG.out, (x, k), .inr (.inr (.inr (.inr ⟨rfl, by rw [Int.mul_comm]; exact HM.out⟩))), .inl ⟨.inl HK0.out, rfl⟩⟩)), rfl, HB2.out⟩
set_option maxRecDepth 100000 in
set_option maxHeartbeats 4000000 in
theorem rdue_any (c : Cd) (hh : c.hol.length ≤ 1048576) (b o : Nat) (H : Option Addr) (hc : Nat) (d n u how : Int) (w : World) (h : CdA w b o c H hc) :
    Calls Tryd.prog 39 #[.pointer (some ⟨b, o, none⟩), .int .i64 d, .agg #[.int .i64 n, .int .i64 u, .int .i64 how]] w (RPost (DueP c d n u how) w) := by
  by_cases c1 : n < 0
  · have k1 : decide (n < 0) = true := by simp [c1]
    have HN := Lib.hid c1
    clear c1
    have hx := ext_alloc w (.cells #[.int .i64 n, .int .i64 u, .int .i64 how] 88)
    have HX := Lib.hid hx
    have HC := Lib.hid (h.ext hx)
    have HT := Lib.hid (Blk.new w 88 [.int .i64 n, .int .i64 u, .int .i64 how])
    clear hx h
    go_enter Tryd.func39, Tryd.ntmps39
    go_wp2_with fail
    go_ret2
    exact ⟨(0, 2), .inl ⟨.inl HN.out, rfl⟩, rfl, HX.out⟩
  have k1 : decide (n < 0) = false := by simp; omega
  by_cases c2 : 100000 < n
  · have k2 : decide (100000 < n) = true := by simp [c2]
    have HN := Lib.hid c2
    clear c1 c2
    have hx := ext_alloc w (.cells #[.int .i64 n, .int .i64 u, .int .i64 how] 88)
    have HX := Lib.hid hx
    have HC := Lib.hid (h.ext hx)
    have HT := Lib.hid (Blk.new w 88 [.int .i64 n, .int .i64 u, .int .i64 how])
    clear hx h
    go_enter Tryd.func39, Tryd.ntmps39
    go_wp2_with fail
    go_ret2
    exact ⟨(0, 2), .inl ⟨.inr HN.out, rfl⟩, rfl, HX.out⟩
  have k2 : decide (100000 < n) = false := by simp; omega
  have hn : 0 ≤ n ∧ n ≤ 100000 := by omega
  rcases kind_cases u how with (q | q | q | q) | q
  · have HK := Lib.hid (show KindBad u how by unfold KindBad; omega)
    have HN := Lib.hid hn
    have m0 : decide (u < 0) = true := by simp; omega
    clear q c1 c2 hn
    have hx := ext_alloc w (.cells #[.int .i64 n, .int .i64 u, .int .i64 how] 88)
    have HX := Lib.hid hx
    have HC := Lib.hid (h.ext hx)
    have HT := Lib.hid (Blk.new w 88 [.int .i64 n, .int .i64 u, .int .i64 how])
    clear hx h
    go_enter Tryd.func39, Tryd.ntmps39
    go_wp2_with fail
    go_ret2
    exact ⟨(0, 9), .inr (.inl ⟨HN.out, HK.out, rfl⟩), rfl, HX.out⟩
  · have HK := Lib.hid (show KindBad u how by unfold KindBad; omega)
    have HN := Lib.hid hn
    have m0 : decide (u < 0) = false := by simp; omega
    have m1 : decide (4 < u) = true := by simp; omega
    clear q c1 c2 hn
    have hx := ext_alloc w (.cells #[.int .i64 n, .int .i64 u, .int .i64 how] 88)
    have HX := Lib.hid hx
    have HC := Lib.hid (h.ext hx)
    have HT := Lib.hid (Blk.new w 88 [.int .i64 n, .int .i64 u, .int .i64 how])
    clear hx h
    go_enter Tryd.func39, Tryd.ntmps39
    go_wp2_with fail
    go_ret2
    exact ⟨(0, 9), .inr (.inl ⟨HN.out, HK.out, rfl⟩), rfl, HX.out⟩
  · have HK := Lib.hid (show KindBad u how by unfold KindBad; omega)
    have HN := Lib.hid hn
    have m0 : decide (u < 0) = false := by simp; omega
    have m1 : decide (4 < u) = false := by simp; omega
    have m2 : decide (how < 0) = true := by simp; omega
    clear q c1 c2 hn
    have hx := ext_alloc w (.cells #[.int .i64 n, .int .i64 u, .int .i64 how] 88)
    have HX := Lib.hid hx
    have HC := Lib.hid (h.ext hx)
    have HT := Lib.hid (Blk.new w 88 [.int .i64 n, .int .i64 u, .int .i64 how])
    clear hx h
    go_enter Tryd.func39, Tryd.ntmps39
    go_wp2_with fail
    go_ret2
    exact ⟨(0, 9), .inr (.inl ⟨HN.out, HK.out, rfl⟩), rfl, HX.out⟩
  · have HK := Lib.hid (show KindBad u how by unfold KindBad; omega)
    have HN := Lib.hid hn
    have m0 : decide (u < 0) = false := by simp; omega
    have m1 : decide (4 < u) = false := by simp; omega
    have m2 : decide (how < 0) = false := by simp; omega
    have m3 : decide (2 < how) = true := by simp; omega
    clear q c1 c2 hn
    have hx := ext_alloc w (.cells #[.int .i64 n, .int .i64 u, .int .i64 how] 88)
    have HX := Lib.hid hx
    have HC := Lib.hid (h.ext hx)
    have HT := Lib.hid (Blk.new w 88 [.int .i64 n, .int .i64 u, .int .i64 how])
    clear hx h
    go_enter Tryd.func39, Tryd.ntmps39
    go_wp2_with fail
    go_ret2
    exact ⟨(0, 9), .inr (.inl ⟨HN.out, HK.out, rfl⟩), rfl, HX.out⟩
  have hk : ¬ KindBad u how := by unfold KindBad; omega
  by_cases hg : Gd d
  · exact rdue_good c hh b o H hc d n u how hn hk hg w h
  · have HK := Lib.hid hk
    have HN := Lib.hid hn
    have HG := Lib.hid hg
    have HGo := Lib.hid (fun w => isday_no d (by unfold Gd at hg; omega) w)
    have m0 : decide (u < 0) = false := by simp; omega
    have m1 : decide (4 < u) = false := by simp; omega
    have m2 : decide (how < 0) = false := by simp; omega
    have m3 : decide (2 < how) = false := by simp; omega
    clear q c1 c2 hn hk hg
    have hx := ext_alloc w (.cells #[.int .i64 n, .int .i64 u, .int .i64 how] 88)
    have HX := Lib.hid hx
    have HC := Lib.hid (h.ext hx)
    have HT := Lib.hid (Blk.new w 88 [.int .i64 n, .int .i64 u, .int .i64 how])
    clear hx h
    go_enter Tryd.func39, Tryd.ntmps39
    go_wp2_with fail
    refine (HGo.out _).mono ?_
    rintro e w' ⟨rfl, rfl⟩
    go_wp2_with fail
    go_ret2
    exact ⟨(0, 4), .inr (.inr (.inl ⟨HN.out, HK.out, HG.out, rfl⟩)), rfl, HX.out⟩
end Go.Proofs.YtnbpdknmbjkfeaaDoor.CdM

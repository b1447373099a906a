/- The day that is due: the walks of the program's Due and the document's. -/
import Derived.Test.YtjnkcpeicocjhaaDoorDueP
namespace Go.Proofs.YtjnkcpeicocjhaaDoor.CdM
open Go.RowKit Mem Cal CdP MapSet Solve CdR Day Nest RefDay Err

set_option maxRecDepth 100000 in
set_option maxHeartbeats 4000000 in
theorem pdue_good (c : Cd) (ok : CdOk c) (b o : Nat) (H : Option Addr) (hc : Nat) (d n u how : Int) (hn : 0 ≤ n ∧ n ≤ 100000) (hk : ¬ KindBad u how) (hg : Gd d) (A : Nat → Addr) (w : World) (h : CdA w b o c H hc) (hE : E3 w A) :
    Calls Tryd.prog 68 #[.pointer (some ⟨b, o, none⟩), .int .i64 d, .agg #[.int .i64 n, .int .i64 u, .int .i64 how]] w (PPost A (DueP c d n u how) w) := by
  have hx := ext_alloc w (.cells #[.int .i64 n, .int .i64 u, .int .i64 how] 36)
  have HX := Lib.hid hx
  have HC := Lib.hid (h.ext hx)
  have HE := Lib.hid (hE.below hx)
  have HT := Lib.hid (Blk.new w 36 [.int .i64 n, .int .i64 u, .int .i64 how])
  clear hx h hE
  have HV := Lib.hid (valid_kind n u how hn A _ HE.out)
  have HK := Lib.hid hk
  have HN := Lib.hid hn
  have HG := Lib.hid hg
  obtain ⟨g1, g2⟩ := hg
  obtain ⟨n1, n2⟩ := hn
  have HGo := Lib.hid (fun w => good_yes d g1 g2 w)
  have hcase : u = 0 ∨ u = 1 ∨ u = 2 ∨ u = 3 ∨ u = 4 := by unfold KindBad at hk; omega
  clear hk
  rcases hcase with rfl | rfl | rfl | rfl | rfl
  · go_enter Tryd.func68, Tryd.ntmps68
    go_wp2_with fail
    refine HV.out.mono ?_
    rintro e w1 hv
    obtain ⟨rfl, hb⟩ := hv.2 HK.out
    have HB1 := Lib.hid (ext_trans HX.out hb)
    have HC1 := Lib.hid (HC.out.ext hb)
    have HE1 := Lib.hid (HE.out.below hb)
    have HT1 := Lib.hid (Sol.blk_ext HT.out hb)
    have t0 := HT1.out.cell 0 rfl
    have t1 := HT1.out.cell 1 rfl
    have t2 := HT1.out.cell 2 rfl
    rw [errC_zero]
    clear hv hb HX HC HE HT
    go_wp2_with fail
    refine (HGo.out _).mono ?_
    rintro e w' ⟨rfl, rfl⟩
    by_cases hgx : Gd (d + n)
    · have HGx := Lib.hid hgx
      have HGo2 := Lib.hid (fun w => good_yes (d + n) hgx.1 hgx.2 w)
      clear hgx
      go_wp2_with fail
      refine (HGo2.out _).mono ?_
      rintro e w' ⟨rfl, rfl⟩
      go_wp2_with fail
      refine (proll_any c ok b o H hc (d + n) how A _ HC1.out HE1.out).mono ?_
      rintro e w4 ⟨oo, ho, rfl, hb⟩
      have HO := Lib.hid ho
      have HB4 := Lib.hid (ext_trans HB1.out hb)
      clear ho hb
      go_wp2_with fail
      go_ret2
      exact ⟨oo, .inr (.inr (.inr ⟨HN.out, HK.out, HG.out, (d + n, 0), .inl ⟨rfl, rfl⟩, .inr ⟨rfl, HGx.out, HO.out⟩⟩)), rfl, HB4.out⟩
    · have HGx := Lib.hid hgx
      have HGo2 := Lib.hid (fun w => good_no (d + n) (by unfold Gd at hgx; omega) w)
      have h3 := HE1.out.v3
      unfold sentV at h3
      clear hgx
      go_wp2_with fail
      refine (HGo2.out _).mono ?_
      rintro e w' ⟨rfl, rfl⟩
      go_wp2_with fail
      go_quiet (fail)
      go_wp2_with fail
      go_ret2
      exact ⟨(0, 4), .inr (.inr (.inr ⟨HN.out, HK.out, HG.out, (d + n, 0), .inl ⟨rfl, rfl⟩, .inl ⟨.inr HGx.out, rfl⟩⟩)), rfl, ext_trans HB1.out (ext_drewN _ _)⟩
  · go_enter Tryd.func68, Tryd.ntmps68
    go_wp2_with fail
    refine HV.out.mono ?_
    rintro e w1 hv
    obtain ⟨rfl, hb⟩ := hv.2 HK.out
    have HB1 := Lib.hid (ext_trans HX.out hb)
    have HC1 := Lib.hid (HC.out.ext hb)
    have HE1 := Lib.hid (HE.out.below hb)
    have HT1 := Lib.hid (Sol.blk_ext HT.out hb)
    have t0 := HT1.out.cell 0 rfl
    have t1 := HT1.out.cell 1 rfl
    have t2 := HT1.out.cell 2 rfl
    rw [errC_zero]
    clear hv hb HX HC HE HT
    go_wp2_with fail
    refine (HGo.out _).mono ?_
    rintro e w' ⟨rfl, rfl⟩
    go_wp2_with fail
    refine (padd_any c ok b o H hc d n A _ HC1.out HE1.out).mono ?_
    rintro e w2 ⟨m, hm, rfl, hb⟩
    obtain ⟨x, k⟩ := m
    have HM := Lib.hid hm
    have HB2 := Lib.hid (ext_trans HB1.out hb)
    have HC2 := Lib.hid (HC1.out.ext hb)
    have HE2 := Lib.hid (HE1.out.below hb)
    have HT2 := Lib.hid (Sol.blk_ext HT1.out hb)
    clear t0 t1 t2
    have t0 := HT2.out.cell 0 rfl
    have t1 := HT2.out.cell 1 rfl
    have t2 := HT2.out.cell 2 rfl
    clear hm hb
    by_cases hk0 : k = 0
    · subst hk0
      rw [show errC A ((x, (0 : Int)) : Int × Int).2 = .nilIface from rfl]
      by_cases hgx : Gd (x)
      · have HGx := Lib.hid hgx
        have HGo2 := Lib.hid (fun w => good_yes (x) hgx.1 hgx.2 w)
        clear hgx
        go_wp2_with fail
        refine (HGo2.out _).mono ?_
        rintro e w' ⟨rfl, rfl⟩
        go_wp2_with fail
        refine (proll_any c ok b o H hc (x) how A _ HC2.out HE2.out).mono ?_
        rintro e w4 ⟨oo, ho, rfl, hb⟩
        have HO := Lib.hid ho
        have HB4 := Lib.hid (ext_trans HB2.out hb)
        clear ho hb
        go_wp2_with fail
        go_ret2
        exact ⟨oo, .inr (.inr (.inr ⟨HN.out, HK.out, HG.out, (x, 0), .inr (.inr (.inl ⟨rfl, HM.out⟩)), .inr ⟨rfl, HGx.out, HO.out⟩⟩)), rfl, HB4.out⟩
      · have HGx := Lib.hid hgx
        have HGo2 := Lib.hid (fun w => good_no (x) (by unfold Gd at hgx; omega) w)
        have h3 := HE2.out.v3
        unfold sentV at h3
        clear hgx
        go_wp2_with fail
        refine (HGo2.out _).mono ?_
        rintro e w' ⟨rfl, rfl⟩
        go_wp2_with fail
        go_quiet (fail)
        go_wp2_with fail
        go_ret2
        exact ⟨(0, 4), .inr (.inr (.inr ⟨HN.out, HK.out, HG.out, (x, 0), .inr (.inr (.inl ⟨rfl, HM.out⟩)), .inl ⟨.inr HGx.out, rfl⟩⟩)), rfl, ext_trans HB2.out (ext_drewN _ _)⟩
    · have he1 : errC A ((x, k) : Int × Int).2 = errV (A (k - 1).toNat) := by unfold errC; rw [if_neg hk0]
      rw [he1]
      have HK0 := Lib.hid hk0
      clear he1 hk0
      generalize A (k - 1).toNat = ea
      unfold errV
      have h3 := HE2.out.v3
      unfold sentV at h3
      go_wp2_with fail
      go_quiet (fail)
      go_wp2_with fail
      go_ret2
      exact ⟨(0, 4), .inr (.inr (.inr ⟨HN.out, HK.out, HG.out, (x, k), .inr (.inr (.inl ⟨rfl, HM.out⟩)), .inl ⟨.inl HK0.out, rfl⟩⟩)), rfl, ext_trans HB2.out (ext_drewN _ _)⟩
  · go_enter Tryd.func68, Tryd.ntmps68
    go_wp2_with fail
    refine HV.out.mono ?_
    rintro e w1 hv
    obtain ⟨rfl, hb⟩ := hv.2 HK.out
    have HB1 := Lib.hid (ext_trans HX.out hb)
    have HC1 := Lib.hid (HC.out.ext hb)
    have HE1 := Lib.hid (HE.out.below hb)
    have HT1 := Lib.hid (Sol.blk_ext HT.out hb)
    have t0 := HT1.out.cell 0 rfl
    have t1 := HT1.out.cell 1 rfl
    have t2 := HT1.out.cell 2 rfl
    rw [errC_zero]
    clear hv hb HX HC HE HT
    go_wp2_with fail
    refine (HGo.out _).mono ?_
    rintro e w' ⟨rfl, rfl⟩
    by_cases hgx : Gd (d + 7 * n)
    · have HGx := Lib.hid hgx
      have HGo2 := Lib.hid (fun w => good_yes (d + 7 * n) hgx.1 hgx.2 w)
      clear hgx
      go_wp2_with fail
      refine (HGo2.out _).mono ?_
      rintro e w' ⟨rfl, rfl⟩
      go_wp2_with fail
      refine (proll_any c ok b o H hc (d + 7 * n) how A _ HC1.out HE1.out).mono ?_
      rintro e w4 ⟨oo, ho, rfl, hb⟩
      have HO := Lib.hid ho
      have HB4 := Lib.hid (ext_trans HB1.out hb)
      clear ho hb
      go_wp2_with fail
      go_ret2
      exact ⟨oo, .inr (.inr (.inr ⟨HN.out, HK.out, HG.out, (d + 7 * n, 0), .inr (.inl ⟨rfl, rfl⟩), .inr ⟨rfl, HGx.out, HO.out⟩⟩)), rfl, HB4.out⟩
    · have HGx := Lib.hid hgx
      have HGo2 := Lib.hid (fun w => good_no (d + 7 * n) (by unfold Gd at hgx; omega) w)
      have h3 := HE1.out.v3
      unfold sentV at h3
      clear hgx
      go_wp2_with fail
      refine (HGo2.out _).mono ?_
      rintro e w' ⟨rfl, rfl⟩
      go_wp2_with fail
      go_quiet (fail)
      go_wp2_with fail
      go_ret2
      exact ⟨(0, 4), .inr (.inr (.inr ⟨HN.out, HK.out, HG.out, (d + 7 * n, 0), .inr (.inl ⟨rfl, rfl⟩), .inl ⟨.inr HGx.out, rfl⟩⟩)), rfl, ext_trans HB1.out (ext_drewN _ _)⟩
  · go_enter Tryd.func68, Tryd.ntmps68
    go_wp2_with fail
    refine HV.out.mono ?_
    rintro e w1 hv
    obtain ⟨rfl, hb⟩ := hv.2 HK.out
    have HB1 := Lib.hid (ext_trans HX.out hb)
    have HC1 := Lib.hid (HC.out.ext hb)
    have HE1 := Lib.hid (HE.out.below hb)
    have HT1 := Lib.hid (Sol.blk_ext HT.out hb)
    have t0 := HT1.out.cell 0 rfl
    have t1 := HT1.out.cell 1 rfl
    have t2 := HT1.out.cell 2 rfl
    rw [errC_zero]
    clear hv hb HX HC HE HT
    go_wp2_with fail
    refine (HGo.out _).mono ?_
    rintro e w' ⟨rfl, rfl⟩
    go_wp2_with fail
    refine (pmonths_any d n A _ HE1.out).mono ?_
    rintro e w2 ⟨m, hm, rfl, hb⟩
    obtain ⟨x, k⟩ := m
    have HM := Lib.hid hm
    have HB2 := Lib.hid (ext_trans HB1.out hb)
    have HC2 := Lib.hid (HC1.out.ext hb)
    have HE2 := Lib.hid (HE1.out.below hb)
    have HT2 := Lib.hid (Sol.blk_ext HT1.out hb)
    clear t0 t1 t2
    have t0 := HT2.out.cell 0 rfl
    have t1 := HT2.out.cell 1 rfl
    have t2 := HT2.out.cell 2 rfl
    clear hm hb
    by_cases hk0 : k = 0
    · subst hk0
      rw [show errC A ((x, (0 : Int)) : Int × Int).2 = .nilIface from rfl]
      by_cases hgx : Gd (x)
      · have HGx := Lib.hid hgx
        have HGo2 := Lib.hid (fun w => good_yes (x) hgx.1 hgx.2 w)
        clear hgx
        go_wp2_with fail
        refine (HGo2.out _).mono ?_
        rintro e w' ⟨rfl, rfl⟩
        go_wp2_with fail
        refine (proll_any c ok b o H hc (x) how A _ HC2.out HE2.out).mono ?_
        rintro e w4 ⟨oo, ho, rfl, hb⟩
        have HO := Lib.hid ho
        have HB4 := Lib.hid (ext_trans HB2.out hb)
        clear ho hb
        go_wp2_with fail
        go_ret2
        exact ⟨oo, .inr (.inr (.inr ⟨HN.out, HK.out, HG.out, (x, 0), .inr (.inr (.inr (.inl ⟨rfl, HM.out⟩))), .inr ⟨rfl, HGx.out, HO.out⟩⟩)), rfl, HB4.out⟩
      · have HGx := Lib.hid hgx
        have HGo2 := Lib.hid (fun w => good_no (x) (by unfold Gd at hgx; omega) w)
        have h3 := HE2.out.v3
        unfold sentV at h3
        clear hgx
        go_wp2_with fail
        refine (HGo2.out _).mono ?_
        rintro e w' ⟨rfl, rfl⟩
        go_wp2_with fail
        go_quiet (fail)
        go_wp2_with fail
        go_ret2
        exact ⟨(0, 4), .inr (.inr (.inr ⟨HN.out, HK.out, HG.out, (x, 0), .inr (.inr (.inr (.inl ⟨rfl, HM.out⟩))), .inl ⟨.inr HGx.out, rfl⟩⟩)), rfl, ext_trans HB2.out (ext_drewN _ _)⟩
    · have he1 : errC A ((x, k) : Int × Int).2 = errV (A (k - 1).toNat) := by unfold errC; rw [if_neg hk0]
      rw [he1]
      have HK0 := Lib.hid hk0
      clear he1 hk0
      generalize A (k - 1).toNat = ea
      unfold errV
      have h3 := HE2.out.v3
      unfold sentV at h3
      go_wp2_with fail
      go_quiet (fail)
      go_wp2_with fail
      go_ret2
      exact ⟨(0, 4), .inr (.inr (.inr ⟨HN.out, HK.out, HG.out, (x, k), .inr (.inr (.inr (.inl ⟨rfl, HM.out⟩))), .inl ⟨.inl HK0.out, rfl⟩⟩)), rfl, ext_trans HB2.out (ext_drewN _ _)⟩
  · go_enter Tryd.func68, Tryd.ntmps68
    go_wp2_with fail
    refine HV.out.mono ?_
    rintro e w1 hv
    obtain ⟨rfl, hb⟩ := hv.2 HK.out
    have HB1 := Lib.hid (ext_trans HX.out hb)
    have HC1 := Lib.hid (HC.out.ext hb)
    have HE1 := Lib.hid (HE.out.below hb)
    have HT1 := Lib.hid (Sol.blk_ext HT.out hb)
    have t0 := HT1.out.cell 0 rfl
    have t1 := HT1.out.cell 1 rfl
    have t2 := HT1.out.cell 2 rfl
    rw [errC_zero]
    clear hv hb HX HC HE HT
    go_wp2_with fail
    refine (HGo.out _).mono ?_
    rintro e w' ⟨rfl, rfl⟩
    go_wp2_with fail
    refine (pmonths_any d (12 * n) A _ HE1.out).mono ?_
    rintro e w2 ⟨m, hm, rfl, hb⟩
    obtain ⟨x, k⟩ := m
    have HM := Lib.hid hm
    have HB2 := Lib.hid (ext_trans HB1.out hb)
    have HC2 := Lib.hid (HC1.out.ext hb)
    have HE2 := Lib.hid (HE1.out.below hb)
    have HT2 := Lib.hid (Sol.blk_ext HT1.out hb)
    clear t0 t1 t2
    have t0 := HT2.out.cell 0 rfl
    have t1 := HT2.out.cell 1 rfl
    have t2 := HT2.out.cell 2 rfl
    clear hm hb
    by_cases hk0 : k = 0
    · subst hk0
      rw [show errC A ((x, (0 : Int)) : Int × Int).2 = .nilIface from rfl]
      by_cases hgx : Gd (x)
      · have HGx := Lib.hid hgx
        have HGo2 := Lib.hid (fun w => good_yes (x) hgx.1 hgx.2 w)
        clear hgx
        go_wp2_with fail
        refine (HGo2.out _).mono ?_
        rintro e w' ⟨rfl, rfl⟩
        go_wp2_with fail
        refine (proll_any c ok b o H hc (x) how A _ HC2.out HE2.out).mono ?_
        rintro e w4 ⟨oo, ho, rfl, hb⟩
        have HO := Lib.hid ho
        have HB4 := Lib.hid (ext_trans HB2.out hb)
        clear ho hb
        go_wp2_with fail
        go_ret2
        exact ⟨oo, .inr (.inr (.inr ⟨HN.out, HK.out, HG.out, (x, 0), .inr (.inr (.inr (.inr ⟨rfl, HM.out⟩))), .inr ⟨rfl, HGx.out, HO.out⟩⟩)), rfl, HB4.out⟩
      · have HGx := Lib.hid hgx
        have HGo2 := Lib.hid (fun w => good_no (x) (by unfold Gd at hgx; omega) w)
        have h3 := HE2.out.v3
        unfold sentV at h3
        clear hgx
        go_wp2_with fail
        refine (HGo2.out _).mono ?_
        rintro e w' ⟨rfl, rfl⟩
        go_wp2_with fail
        go_quiet (fail)
        go_wp2_with fail
        go_ret2
        exact ⟨(0, 4), .inr (.inr (.inr ⟨HN.out, HK.out, HG.out, (x, 0), .inr (.inr (.inr (.inr ⟨rfl, HM.out⟩))), .inl ⟨.inr HGx.out, rfl⟩⟩)), rfl, ext_trans HB2.out (ext_drewN _ _)⟩
    · have he1 : errC A ((x, k) : Int × Int).2 = errV (A (k - 1).toNat) := by unfold errC; rw [if_neg hk0]
      rw [he1]
      have HK0 := Lib.hid hk0
      clear he1 hk0
      generalize A (k - 1).toNat = ea
      unfold errV
      have h3 := HE2.out.v3
      unfold sentV at h3
      go_wp2_with fail
      go_quiet (fail)
      go_wp2_with fail
      go_ret2
      exact ⟨(0, 4), .inr (.inr (.inr ⟨HN.out, HK.out, HG.out, (x, k), .inr (.inr (.inr (.inr ⟨rfl, HM.out⟩))), .inl ⟨.inl HK0.out, rfl⟩⟩)), rfl, ext_trans HB2.out (ext_drewN _ _)⟩
set_option maxRecDepth 100000 in
set_option maxHeartbeats 2000000 in
theorem pdue_any (c : Cd) (ok : CdOk c) (b o : Nat) (H : Option Addr) (hc : Nat) (d n u how : Int) (A : Nat → Addr) (w : World) (h : CdA w b o c H hc) (hE : E3 w A) :
    Calls Tryd.prog 68 #[.pointer (some ⟨b, o, none⟩), .int .i64 d, .agg #[.int .i64 n, .int .i64 u, .int .i64 how]] w (PPost A (DueP c d n u how) w) := by
  by_cases hn : n < 0 ∨ 100000 < n
  · have HN := Lib.hid hn
    have hx := ext_alloc w (.cells #[.int .i64 n, .int .i64 u, .int .i64 how] 36)
    have HX := Lib.hid hx
    have HC := Lib.hid (h.ext hx)
    have HE := Lib.hid (hE.below hx)
    have HT := Lib.hid (Blk.new w 36 [.int .i64 n, .int .i64 u, .int .i64 how])
    clear hx h hE
    have HV := Lib.hid (valid_two n u how hn A _ HE.out)
    clear hn
    go_enter Tryd.func68, Tryd.ntmps68
    go_wp2_with fail
    refine HV.out.mono ?_
    rintro e w1 ⟨rfl, hb⟩
    have HB1 := Lib.hid (ext_trans HX.out hb)
    rw [errC_two]
    unfold errV
    clear hb
    go_wp2_with fail
    go_ret2
    exact ⟨(0, 2), .inl ⟨HN.out, rfl⟩, rfl, HB1.out⟩
  have hn' : 0 ≤ n ∧ n ≤ 100000 := by omega
  by_cases hk : KindBad u how
  · have HN := Lib.hid hn'
    have HK := Lib.hid hk
    have hx := ext_alloc w (.cells #[.int .i64 n, .int .i64 u, .int .i64 how] 36)
    have HX := Lib.hid hx
    have HC := Lib.hid (h.ext hx)
    have HE := Lib.hid (hE.below hx)
    have HT := Lib.hid (Blk.new w 36 [.int .i64 n, .int .i64 u, .int .i64 how])
    clear hx h hE
    have HV := Lib.hid (valid_kind n u how hn' A _ HE.out)
    clear hn hn' hk
    go_enter Tryd.func68, Tryd.ntmps68
    go_wp2_with fail
    refine HV.out.mono ?_
    rintro e w1 hv
    obtain ⟨rfl, hb⟩ := hv.1 HK.out
    have HB1 := Lib.hid (ext_trans HX.out hb)
    rw [errC_nine]
    unfold errV
    clear hb hv
    go_wp2_with fail
    go_ret2
    exact ⟨(0, 9), .inr (.inl ⟨HN.out, HK.out, rfl⟩), rfl, HB1.out⟩
  by_cases hg : Gd d
  · exact pdue_good c ok b o H hc d n u how hn' hk hg A w h hE
  · have HN := Lib.hid hn'
    have HK := Lib.hid hk
    have HG := Lib.hid hg
    have HGo := Lib.hid (fun w => good_no d (by unfold Gd at hg; omega) w)
    have hx := ext_alloc w (.cells #[.int .i64 n, .int .i64 u, .int .i64 how] 36)
    have HX := Lib.hid hx
    have HC := Lib.hid (h.ext hx)
    have HE := Lib.hid (hE.below hx)
    have HT := Lib.hid (Blk.new w 36 [.int .i64 n, .int .i64 u, .int .i64 how])
    clear hx h hE
    have HV := Lib.hid (valid_kind n u how hn' A _ HE.out)
    clear hn hn' hk hg
    go_enter Tryd.func68, Tryd.ntmps68
    go_wp2_with fail
    refine HV.out.mono ?_
    rintro e w1 hv
    obtain ⟨rfl, hb⟩ := hv.2 HK.out
    have HB1 := Lib.hid (ext_trans HX.out hb)
    have HC1 := Lib.hid (HC.out.ext hb)
    have HE1 := Lib.hid (HE.out.below hb)
    have HT1 := Lib.hid (Sol.blk_ext HT.out hb)
    have t0 := HT1.out.cell 0 rfl
    have t1 := HT1.out.cell 1 rfl
    have t2 := HT1.out.cell 2 rfl
    rw [errC_zero]
    clear hv hb HX HC HE HT
    go_wp2_with fail
    refine (HGo.out _).mono ?_
    rintro e w' ⟨rfl, rfl⟩
    have h3 := HE1.out.v3
    unfold sentV at h3
    go_wp2_with fail
    go_quiet (fail)
    go_wp2_with fail
    go_ret2
    exact ⟨(0, 4), .inr (.inr (.inl ⟨HN.out, HK.out, HG.out, rfl⟩)), rfl, ext_trans HB1.out (ext_drewN _ _)⟩
end Go.Proofs.YtjnkcpeicocjhaaDoor.CdM

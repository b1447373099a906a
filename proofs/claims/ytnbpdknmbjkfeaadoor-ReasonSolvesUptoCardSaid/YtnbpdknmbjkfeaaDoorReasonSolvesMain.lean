/- The law ReasonSolves answers true: the walk of the law. -/
import Derived.Test.YtnbpdknmbjkfeaaDoorAgree
import Derived.BigQuiet
import Derived.Deep.RegionHeld3
namespace Go.Proofs.YtnbpdknmbjkfeaaDoor.ReasonSolves
open Go.RowKit Mem Thy Nest Day Thm Sol Val Solve LawT ChkW App Sh Rng Err Agree WhySound

set_option maxRecDepth 100000 in
set_option maxHeartbeats 1000000 in
theorem walk_nil (A : Nat → Addr) (w : World) (hE : Errs w A) : Calls Tryd.prog 10 #[.pointer none] w (BoolT w) := by
  have HL := Lib.hid (live_any _ _ _ _ w (four hE))
  clear hE
  go_enter Tryd.func10, Tryd.ntmps10
  go_wp2_with fail
  refine HL.out.mono ?_
  rintro e w1 ⟨rfl, hb⟩
  have HB := Lib.hid hb
  clear hb
  go_wp2_with fail
  go_ret
  exact ⟨rfl, HB.out⟩
/-- the state of two marks -/
def stv (a b : Bool) : Int := if a then 1 else if b then 2 else 0
set_option maxHeartbeats 400000 in
theorem state_any (a b : Bool) (w : World) : Calls Tryd.prog 103 #[.bool a, .bool b] w fun e w' => e = .returned (.int .i64 (stv a b)) ∧ w = w' := by
  cases a <;> cases b
  all_goals
    go_enter Tryd.func103, Tryd.ntmps103
    go_wp2_with fail
    go_ret
    exact ⟨rfl, rfl⟩
theorem stv_at {t : Th} {s h : St} (g : Thy.Good t s h) (a : Bool) (q : Int) : stv (pick a s h q == val true) (pick a s h q == val false) = pick a s h q := by
  rcases g.each a q with z | ⟨b, e, _⟩
  · rw [z]; rfl
  · rw [e]; cases b <;> rfl
set_option maxRecDepth 100000 in
set_option maxHeartbeats 4000000 in
theorem same_any (p : ShP) (ok : p.Ok) (S H S2 H2 : List Int) (sb hb M : Nat) (hM : M = 2 * p.n) (w : World) (hS : Blk w sb 3 (ints S)) (hH : Blk w hb 3 (ints H)) (lS : S.length = 2 * p.n) (lH : H.length = 2 * p.n) (hSh : Sh w p S2 H2)
    (g : Thy.Good p.th (stOf S) (stOf H)) (f : Thy.Fin p.th (stOf S) (stOf H)) (g2 : Thy.Good p.th (stOf S2) (stOf H2)) (f2 : Thy.Fin p.th (stOf S2) (stOf H2)) :
    Calls Tryd.prog 51 #[.agg #[.slice (some ⟨sb, 0, none⟩) M M, .slice (some ⟨hb, 0, none⟩) M M], .pointer (some ⟨p.B, 0, none⟩)] w (BoolT w) := by
  obtain ⟨es, eh⟩ := g.same f g2 f2
  have hn := ok.n
  have HX := Lib.hid (ext_alloc w (.cells #[.slice (some ⟨sb, 0, none⟩) M M, .slice (some ⟨hb, 0, none⟩) M M] 107))
  have HSx := Lib.hid (Sol.blk_ext hS HX.out)
  have HHx := Lib.hid (Sol.blk_ext hH HX.out)
  have hShx := hSh.ext HX.out
  have x0 := hShx.blk.cell 0 rfl
  have x1 := hShx.blk.cell 1 rfl
  have c0 := (hShx.a ok).c0
  rw [← hM] at x1 lS lH
  have hw2 : IntKind.i64.wrap (2 * (p.n : Int)) = (M : Int) := by rw [IntWalk.i64_in _ (by omega)]; omega
  have hM2 : M ≤ 240 := by omega
  have HK := Lib.hid (Blk.new w 107 [.slice (some ⟨sb, 0, none⟩) M M, .slice (some ⟨hb, 0, none⟩) M M])
  have HVal := Lib.hid (fun pl (h : pl < M) => show ∃ (h1 : pl < S.length) (h2 : pl < H.length), stv (pick true (stOf S2) (stOf H2) (lit pl) == val true) (pick true (stOf S2) (stOf H2) (lit pl) == val false) = S[pl] ∧ stv (pick false (stOf S2) (stOf H2) (lit pl) == val true) (pick false (stOf S2) (stOf H2) (lit pl) == val false) = H[pl] from
    ⟨by omega, by omega, by rw [stv_at g2]; show stOf S2 (lit pl) = _; rw [← es, stOf_lit S (by omega)], by rw [stv_at g2]; show stOf H2 (lit pl) = _; rw [← eh, stOf_lit H (by omega)]⟩)
  have HMk := Lib.hid (fun pl (h : pl < M) => (⟨by have := hShx.at_ true true (lit_in (p := p) (pl := pl) (by omega)); rwa [place_lit] at this, by have := hShx.at_ true false (lit_in (p := p) (pl := pl) (by omega)); rwa [place_lit] at this, by have := hShx.at_ false true (lit_in (p := p) (pl := pl) (by omega)); rwa [place_lit] at this, by have := hShx.at_ false false (lit_in (p := p) (pl := pl) (by omega)); rwa [place_lit] at this⟩ :
    (w.alloc (.cells #[.slice (some ⟨sb, 0, none⟩) M M, .slice (some ⟨hb, 0, none⟩) M M] 107)).cell? ⟨p.lb, pl * 4 + 0, none⟩ = some (.bool (pick true (stOf S2) (stOf H2) (lit pl) == val true)) ∧
    (w.alloc (.cells #[.slice (some ⟨sb, 0, none⟩) M M, .slice (some ⟨hb, 0, none⟩) M M] 107)).cell? ⟨p.lb, pl * 4 + 1, none⟩ = some (.bool (pick true (stOf S2) (stOf H2) (lit pl) == val false)) ∧
    (w.alloc (.cells #[.slice (some ⟨sb, 0, none⟩) M M, .slice (some ⟨hb, 0, none⟩) M M] 107)).cell? ⟨p.lb, pl * 4 + 2, none⟩ = some (.bool (pick false (stOf S2) (stOf H2) (lit pl) == val true)) ∧
    (w.alloc (.cells #[.slice (some ⟨sb, 0, none⟩) M M, .slice (some ⟨hb, 0, none⟩) M M] 107)).cell? ⟨p.lb, pl * 4 + 3, none⟩ = some (.bool (pick false (stOf S2) (stOf H2) (lit pl) == val false))))
  have w0 := HK.out.cell 0 rfl
  have w1 := HK.out.cell 1 rfl
  have HSt := Lib.hid (fun a b w => state_any a b w)
  have LS := Lib.hid lS
  have LH := Lib.hid lH
  clear hS hH hSh hShx g f g2 f2 es eh hM lS lH
  go_enter Tryd.func51, Tryd.ntmps51
  go_wp2_with fail
  generalize hW : w.alloc (.cells #[.slice (some ⟨sb, 0, none⟩) M M, .slice (some ⟨hb, 0, none⟩) M M] 107) = W at *
  clear hW
  go_loopw [6] (fun t6 wr => ∃ pl : Nat, t6 = .int .i64 pl ∧ pl ≤ M ∧ Hid (∃ n, wr = W.drewN n)) (fun t6 _ => M - (intOf t6).toNat)
  case atStart => exact ⟨0, rfl, Nat.zero_le _, 0, rfl⟩
  case round =>
    obtain ⟨pl, rfl, hpl, HW⟩ := hrel
    have hXt : Below W.heap.size W wr := by obtain ⟨n, hn⟩ := HW.out; rw [hn]; exact ext_drewN W n
    have y0 := cell_ext hXt x0
    have y1 := cell_ext hXt x1
    have v0 := cell_ext hXt w0
    have v1 := cell_ext hXt w1
    by_cases hlt : pl < M
    · obtain ⟨h1, h2, e1, e2⟩ := HVal.out pl hlt
      obtain ⟨m0, m1, m2, m3⟩ := HMk.out pl hlt
      have s1 := cell_ext hXt (Sol.ints_at HSx.out h1)
      have s2 := cell_ext hXt (Sol.ints_at HHx.out h2)
      replace m0 := cell_ext hXt m0
      replace m1 := cell_ext hXt m1
      replace m2 := cell_ext hXt m2
      replace m3 := cell_ext hXt m3
      clear hXt
      rw [Nat.add_zero] at m0
      rw [← e1] at s1
      rw [← e2] at s2
      clear e1 e2 h1 h2
      generalize (pick true (stOf S2) (stOf H2) (lit pl) == val true) = b0 at *
      generalize (pick true (stOf S2) (stOf H2) (lit pl) == val false) = b1 at *
      generalize (pick false (stOf S2) (stOf H2) (lit pl) == val true) = b2 at *
      generalize (pick false (stOf S2) (stOf H2) (lit pl) == val false) = b3 at *
      have HS1 := Lib.hid (fun w => HSt.out b0 b1 w)
      have HS2 := Lib.hid (fun w => HSt.out b2 b3 w)
      generalize stv b0 b1 = z1 at *
      generalize stv b2 b3 = z2 at *
      go_wp2_with fail
      go_quiet ((first | (go_at_call_of 103 (Value.bool b0); exact Sol.quiet_same (HS1.out _)) | (go_at_call_of 103 (Value.bool b2); exact Sol.quiet_same (HS2.out _))))
      go_wp2_with fail
      go_roundw
      case rel => exact ⟨pl + 1, by go_num, by omega, by obtain ⟨n, hn⟩ := HW.out; exact ⟨n + nq, by rw [hn, World.drewN_drewN]⟩⟩
      case measure => simp [intOf]; omega
    · obtain rfl : M = pl := by omega
      go_wp2_with fail
      go_ret
      exact ⟨rfl, HX.out.trans (hXt.mono HX.out.size)⟩
set_option maxRecDepth 100000 in
set_option maxHeartbeats 1600000 in
theorem walk_ptr (b o : Nat) (N : Int) (rs : List Rw) (RA : Option Addr) (rc : Nat) (ov : List (Int × Int)) (OA : Option Addr) (oc : Nat) (A : Nat → Addr) (w : World) (h : ThA w b o N rs RA rc ov OA oc) (hE : Errs w A) :
    Calls Tryd.prog 10 #[.pointer (some ⟨b, o, none⟩)] w (BoolT w) := by
  have HL := Lib.hid (live_any _ _ _ _ w (four hE))
  have HA := Lib.hid h
  have HE := Lib.hid hE
  clear h hE
  go_enter Tryd.func10, Tryd.ntmps10
  go_wp2_with fail
  refine HL.out.mono ?_
  rintro e w1 ⟨rfl, hb1⟩
  have HB1 := Lib.hid hb1
  clear hb1
  go_wp2_with fail
  refine (few_any b o N rs RA rc ov OA oc _ (HA.out.ext HB1.out)).mono ?_
  rintro e w' ⟨⟨bf, rfl⟩, rfl⟩
  cases bf
  · go_wp2_with fail
    go_ret
    exact ⟨rfl, HB1.out⟩
  · go_wp2_with fail
    refine (theory_any b o N rs RA rc ov OA oc _ (HA.out.ext HB1.out)).mono ?_
    rintro e w2 ⟨rs', RA', rc', OA', oc', rfl, hrl, hR, hO, hb2⟩
    have HSm := Lib.hid (show Same rs rs' from hrl)
    have HB2 := Lib.hid (ext_trans HB1.out hb2)
    have hl3 := HA.out.l3
    have HSo := Lib.hid (solve_any N rs' RA' rc' ov (by omega) OA' oc' _ _ _ _ w2 hR hO (four (HE.out.below HB2.out)).e)
    clear hrl hR hO hb2
    go_wp2_with fail
    refine HSo.out.mono ?_
    rintro e w3 ⟨kv, ev, rfl, hb3, hs⟩
    have HB3 := Lib.hid (ext_trans HB2.out hb3)
    have HS := Lib.hid hs
    clear hb3 hs HSo
    rcases HS.out with ⟨_, hv, ⟨a, rfl⟩, rfl⟩ | ⟨hr, rfl, n, sb, hb, S, H, hn, rfl, hS, hH, lS, lH, hg, hf⟩
    · have HV := Lib.hid hv
      unfold errV
      clear hv
      go_wp2_with fail
      generalize hX : w3.alloc (.cells #[.slice none 0 0, .slice none 0 0] 107) = X at *
      have HBX := Lib.hid (show Below w.heap.size w X from hX ▸ ext_trans HB3.out (ext_alloc w3 _))
      have HK := Lib.hid (show Blk X w3.heap.size 107 [.slice none 0 0, .slice none 0 0] from hX ▸ Blk.new w3 _ [_, _])
      clear hX
      refine (vth_any b o N rs RA rc ov OA oc _ (HA.out.ext HBX.out)).mono ?_
      rintro e w4 ⟨c, rfl, hc, hb4⟩
      have HVC := Lib.hid hc
      have HB4 := Lib.hid (ext_trans HBX.out hb4)
      have HK4 := Lib.hid (Sol.blk_ext HK.out hb4)
      clear hb4 hc
      go_wp2_with fail
      refine (theory_any b o N rs RA rc ov OA oc _ (HA.out.ext HB4.out)).mono ?_
      rintro e w5 ⟨rs2, RA2, rc2, OA2, oc2, rfl, hrl, hR, hO, hb5⟩
      have HSm2 := Lib.hid (show Same rs rs2 from hrl)
      have HB5 := Lib.hid (ext_trans HB4.out hb5)
      have HK5 := Lib.hid (Sol.blk_ext HK4.out hb5)
      have HVa := Lib.hid (valid_any N rs2 RA2 rc2 ov (by omega) OA2 oc2 _ _ _ _ w5 hR hO (four (HE.out.below HB5.out)).e)
      clear hrl hR hO hb5
      go_wp2_with fail
      refine HVa.out.mono ?_
      rintro e w6 ⟨v, rfl, hv2, hb6⟩
      have HB6 := Lib.hid (ext_trans HB5.out hb6)
      have HK6 := Lib.hid (Sol.blk_ext HK5.out hb6)
      clear hb6
      have HNR := Lib.hid (show ¬ Right N rs ov from fun hr => (by assumption : ¬ Right N rs' ov) (HSm.out.symm.right hr))
      rcases agree HSm.out HV.out HVC.out with ⟨hr, _⟩ | ⟨_, k, hk, he, hc1⟩
      · exact absurd hr HNR.out
      · rcases agree HSm2.out hv2 HVC.out with ⟨hr, _⟩ | ⟨_, k2, hk2, rfl, hc2⟩
        · exact absurd hr HNR.out
        · obtain rfl : k2 = k := by omega
          subst hc1
          have hpos : decide (0 < (k2 : Int) + 1) = true := by simp
          have HCd := Lib.hid (fun w (h : Errs w A) => coded4_sent k2 hk ((k2 : Int) + 1) A w h)
          have HD := Lib.hid (show decide ((k2 : Int) + 1 = (k2 : Int) + 1) = true by simp)
          unfold sentV at he HCd
          obtain rfl : a = A k2 := by simpa [errV] using he
          clear hv2 he hc2
          generalize (k2 : Int) + 1 = kc at *
          unfold sentV
          go_wp2_with fail
          refine (HCd.out _ (HE.out.below HB6.out)).mono ?_
          rintro e w7 ⟨rfl, hb7⟩
          have HB7 := Lib.hid (ext_trans HB6.out hb7)
          have HK7 := Lib.hid (Sol.blk_ext HK6.out hb7)
          rw [HD.out]
          clear hb7
          go_wp2_with fail
          refine (HCd.out _ (HE.out.below HB7.out)).mono ?_
          rintro e w8 ⟨rfl, hb8⟩
          have HB8 := Lib.hid (ext_trans HB7.out hb8)
          have HK8 := Lib.hid (Sol.blk_ext HK7.out hb8)
          rw [HD.out]
          have k0 := HK8.out.cell 0 rfl
          have k1 := HK8.out.cell 1 rfl
          clear hb8
          go_wp2_with fail
          go_ret
          exact ⟨rfl, HB8.out⟩
    · subst hn
      have HRr := Lib.hid (HSm.out.right hr)
      have HSb := Lib.hid hS
      have HHb := Lib.hid hH
      have HG := Lib.hid (ReasonTotal.thOf_congr (n := n) (ov := ov) HSm.out ▸ hg)
      have HF := Lib.hid (ReasonTotal.thOf_congr (n := n) (ov := ov) HSm.out ▸ hf)
      have LS := Lib.hid lS
      have LH := Lib.hid lH
      clear hr hS hH hg hf lS lH
      obtain ⟨M, hM⟩ : ∃ M, M = 2 * n := ⟨_, rfl⟩
      have HM := Lib.hid hM
      rw [← hM]
      clear hM
      go_wp2_with fail
      generalize hX : w3.alloc (.cells #[.slice (some ⟨sb, 0, none⟩) M M, .slice (some ⟨hb, 0, none⟩) M M] 107) = X at *
      have HBX := Lib.hid (show Below w.heap.size w X from hX ▸ ext_trans HB3.out (ext_alloc w3 _))
      have HB3X := Lib.hid (show Below w3.heap.size w3 X from hX ▸ ext_alloc w3 _)
      have HK := Lib.hid (show Blk X w3.heap.size 107 [.slice (some ⟨sb, 0, none⟩) M M, .slice (some ⟨hb, 0, none⟩) M M] from hX ▸ Blk.new w3 _ [_, _])
      clear hX
      refine (vth_any b o n rs RA rc ov OA oc _ (HA.out.ext HBX.out)).mono ?_
      rintro e w4 ⟨c, rfl, hc, hb4⟩
      obtain rfl := (VCode.right hc).2 HRr.out
      have HVC := Lib.hid hc
      have HB4 := Lib.hid (ext_trans HBX.out hb4)
      have HB34 := Lib.hid (ext_trans HB3X.out hb4)
      have HK4 := Lib.hid (Sol.blk_ext HK.out hb4)
      clear hb4 hc
      go_wp2_with fail
      refine (theory_any b o n rs RA rc ov OA oc _ (HA.out.ext HB4.out)).mono ?_
      rintro e w5 ⟨rs2, RA2, rc2, OA2, oc2, rfl, hrl, hR, hO, hb5⟩
      have HSm2 := Lib.hid (show Same rs rs2 from hrl)
      have HB5 := Lib.hid (ext_trans HB4.out hb5)
      have HB35 := Lib.hid (ext_trans HB34.out hb5)
      have HK5 := Lib.hid (Sol.blk_ext HK4.out hb5)
      have HVa := Lib.hid (valid_any n rs2 RA2 rc2 ov (by omega) OA2 oc2 _ _ _ _ w5 hR hO (four (HE.out.below HB5.out)).e)
      clear hrl hR hO hb5
      go_wp2_with fail
      refine HVa.out.mono ?_
      rintro e w6 ⟨v, rfl, hv2, hb6⟩
      have HB6 := Lib.hid (ext_trans HB5.out hb6)
      have HB36 := Lib.hid (ext_trans HB35.out hb6)
      have HK6 := Lib.hid (Sol.blk_ext HK5.out hb6)
      clear hb6
      rcases agree HSm2.out hv2 HVC.out with ⟨_, rfl, _⟩ | ⟨hr, _⟩
      · clear hv2
        go_wp2_with fail
        refine (coded4_nil 0 _).mono ?_
        rintro e w7 ⟨rfl, rfl⟩
        simp only [decide_true]
        go_wp2_with fail
        refine (coded4_nil 0 _).mono ?_
        rintro e w7 ⟨rfl, rfl⟩
        simp only [decide_true]
        have k0 := HK6.out.cell 0 rfl
        have k1 := HK6.out.cell 1 rfl
        have HAd := Lib.hid (HA.out.ext (ext_trans HB6.out (ext_drewN w6 1)))
        have HSd := Lib.hid (solved_any _ b o n rs RA rc ov OA oc HAd.out HRr.out)
        have HOk := Lib.hid (mkSh_ok HAd.out HRr.out)
        obtain ⟨p, hp⟩ : ∃ p, p = mkSh (w6.drewN 1) b o n rs RA rc ov OA oc := ⟨_, rfl⟩
        rw [← hp] at HSd HOk
        have HPn := Lib.hid (show p.n = n by rw [hp]; rfl)
        have HPt := Lib.hid (show p.th = thOf n rs ov by rw [hp]; rfl)
        clear hp
        go_wp2_with fail
        go_region_held3 (fun w' => w'.cell? ⟨w3.heap.size, 0, none⟩ = some (.slice (some ⟨sb, 0, none⟩) M M) ∧ w'.cell? ⟨w3.heap.size, 1, none⟩ = some (.slice (some ⟨hb, 0, none⟩) M M))
          ((first | exact ⟨k0, k1⟩ | exact ⟨cell_ext HBs.out k0, cell_ext HBs.out k1⟩ | exact ⟨cell_ext HBt.out (cell_ext HBs.out k0), cell_ext HBt.out (cell_ext HBs.out k1)⟩))
          ((first
            | (go_at_call 52; refine HSd.out.mono ?_; rintro e w8 ⟨hb8, rfl, S2, H2, hSh, g2, f2⟩; have HBs := Lib.hid hb8; have HSh := Lib.hid hSh; have HG2 := Lib.hid g2; have HF2 := Lib.hid f2; clear hb8 hSh g2 f2)
            | (go_at_call 51; refine (same_any p HOk.out S H S2 H2 sb hb M (by rw [HPn.out]; exact HM.out) _ (Sol.blk_ext HSb.out (ext_trans HB36.out (ext_trans (ext_drewN w6 1) HBs.out))) (Sol.blk_ext HHb.out (ext_trans HB36.out (ext_trans (ext_drewN w6 1) HBs.out))) (by rw [HPn.out]; exact LS.out) (by rw [HPn.out]; exact LH.out) HSh.out (by rw [HPt.out]; exact HG.out) (by rw [HPt.out]; exact HF.out) HG2.out HF2.out).mono ?_; rintro e w9 ⟨rfl, hb9⟩; have HBt := Lib.hid hb9; clear hb9)))
        go_wp2_with fail
        go_ret
        exact ⟨rfl, ext_trans HB6.out (ext_trans (ext_drewN w6 1) (ext_trans HBs.out HBt.out))⟩
      · exact absurd HRr.out hr
end Go.Proofs.YtnbpdknmbjkfeaaDoor.ReasonSolves

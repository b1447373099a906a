/- The law WhyChecks answers true: the walk of the law. -/
import Derived.Test.YtnbpdknmbjkfeaaDoorAgree
namespace Go.Proofs.YtnbpdknmbjkfeaaDoor.WhyChecks
open Go.RowKit Mem Thy Nest Day Thm Sol Val Solve LawT ChkW App Sh Rng Err Agree WhySound

set_option maxRecDepth 100000 in
set_option maxHeartbeats 1000000 in
theorem walk_nil (LA : Option Addr) (ln lc : Nat) (A : Nat → Addr) (w : World) (hE : Errs w A) : Calls Tryd.prog 9 #[.pointer none, .slice LA ln lc] w (BoolT w) := by
  have HL := Lib.hid (checks_any _ _ _ _ w (four hE))
  clear hE
  go_enter Tryd.func9, Tryd.ntmps9
  go_wp2_with fail
  refine HL.out.mono ?_
  rintro e w1 ⟨rfl, hb⟩
  have HB := Lib.hid hb
  clear hb
  go_wp2_with fail
  go_ret
  exact ⟨rfl, HB.out⟩
set_option maxRecDepth 100000 in
set_option maxHeartbeats 1600000 in
theorem walk_ptr (b o : Nat) (N : Int) (rs : List Rw) (RA : Option Addr) (rc : Nat) (ov : List (Int × Int)) (OA : Option Addr) (oc : Nat) (l : List Sp) (hl : l.length ≤ 1048576) (LA : Option Addr) (lc : Nat) (A : Nat → Addr) (w : World) (h : ThA w b o N rs RA rc ov OA oc) (hE : Errs w A) (hLr : Rd w LA (l.flatMap spCells)) :
    Calls Tryd.prog 9 #[.pointer (some ⟨b, o, none⟩), .slice LA l.length lc] w (BoolT w) := by
  have HL := Lib.hid (checks_any _ _ _ _ w (four hE))
  have HA := Lib.hid h
  have HE := Lib.hid hE
  have HLr := Lib.hid hLr
  clear h hE hLr
  go_enter Tryd.func9, Tryd.ntmps9
  go_wp2_with fail
  refine HL.out.mono ?_
  rintro e w1 ⟨rfl, hb1⟩
  have HB1 := Lib.hid hb1
  clear hb1
  by_cases hbig : 200 < l.length
  · have hbig2 : (200 : Int) < (l.length : Int) := by omega
    go_wp2_with fail
    go_ret
    exact ⟨rfl, HB1.out⟩
  have hbig2 : ¬ (200 : Int) < (l.length : Int) := by omega
  go_wp2_with fail
  refine (few_any b o N rs RA rc ov OA oc _ (HA.out.ext HB1.out)).mono ?_
  rintro e w' ⟨⟨bf, rfl⟩, rfl⟩
  cases bf
  · go_wp2_with fail
    go_ret
    exact ⟨rfl, HB1.out⟩
  · go_wp2_with fail
    refine (theory_any b o N rs RA rc ov OA oc _ (HA.out.ext HB1.out)).mono ?_
    rintro e w2 ⟨rs', RA', rc', OA', oc', rfl, hrl, hR, hO, hb2⟩
    have HSm := Lib.hid (show Same rs rs' from hrl)
    have HB2 := Lib.hid (ext_trans HB1.out hb2)
    have HR := Lib.hid hR
    have HO := Lib.hid hO
    have hl3 := HA.out.l3
    clear hrl hR hO hb2
    go_wp2_with fail
    refine (steps_any l hl LA lc w2 (HLr.out.ext HB2.out)).mono ?_
    rintro e w3 ⟨LA2, lc2, rfl, hL2, hb3⟩
    have HB3 := Lib.hid (ext_trans HB2.out hb3)
    have HCk := Lib.hid (check_any N rs' RA' rc' ov (by omega) OA' oc' l (by omega) LA2 lc2 _ _ _ _ w3 (HR.out.ext hb3) (HO.out.ext hb3) (four (HE.out.below HB3.out)).e hL2)
    clear hL2 hb3
    go_wp2_with fail
    refine HCk.out.mono ?_
    rintro e w4 ⟨bc, ev, rfl, hb4, hc⟩
    have HB4 := Lib.hid (ext_trans HB3.out hb4)
    have HC := Lib.hid hc
    clear hb4 hc
    go_wp2_with fail
    refine (vth_any b o N rs RA rc ov OA oc _ (HA.out.ext HB4.out)).mono ?_
    rintro e w5 ⟨c, rfl, hc, hb5⟩
    have HB5 := Lib.hid (ext_trans HB4.out hb5)
    have HVC := Lib.hid hc
    clear hb5 hc
    rcases HC.out with ⟨_, hv, _, rfl⟩ | ⟨hr, rfl, n0, hn0, hck⟩
    · rcases agree HSm.out hv HVC.out with ⟨hr, rfl, _⟩ | ⟨_, k, hk, rfl, rfl⟩
      · exact absurd (HSm.out.symm.right hr) (by assumption)
      · have hpos : decide (0 < (k : Int) + 1) = true := by simp
        have HCd := Lib.hid (coded4_sent k hk ((k : Int) + 1) A _ (HE.out.below HB5.out))
        generalize (k : Int) + 1 = c at *
        unfold sentV at HCd ⊢
        clear hv
        go_wp2_with fail
        refine HCd.out.mono ?_
        rintro e w6 ⟨rfl, hb6⟩
        have HB6 := Lib.hid (ext_trans HB5.out hb6)
        clear hb6
        go_wp2_with fail
        go_ret
        exact ⟨ret_bool (by simp), HB6.out⟩
    · have hrr := HSm.out.right hr
      obtain rfl := (VCode.right HVC.out).2 hrr
      subst hn0
      have HCh := Lib.hid (checked_any _ b o n0 rs RA rc ov OA oc (HA.out.ext HB5.out) hrr l hl LA lc (HLr.out.ext HB5.out))
      have HK := Lib.hid (show bc = true ↔ Chk (thOf n0 rs ov) l (fun _ => 0) (fun _ => 0) by rw [← ReasonTotal.thOf_congr HSm.out]; exact hck)
      clear hr hrr hck
      go_wp2_with fail
      refine HCh.out.mono ?_
      rintro e w6 ⟨bl, rfl, hb1, hb6⟩
      have HB6 := Lib.hid (ext_trans HB5.out hb6)
      obtain rfl : bc = bl := by
        rw [Bool.eq_iff_iff, HK.out, hb1]
      clear hb1 hb6
      go_wp2_with fail
      go_ret
      exact ⟨ret_bool (by simp), HB6.out⟩
end Go.Proofs.YtnbpdknmbjkfeaaDoor.WhyChecks

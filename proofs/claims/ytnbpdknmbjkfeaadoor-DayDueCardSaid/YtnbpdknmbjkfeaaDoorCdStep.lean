/- Walking working days: the program's Works and step. -/
import Derived.Test.YtnbpdknmbjkfeaaDoorCdSet
import Derived.Test.YtnbpdknmbjkfeaaDoorCdR
import Derived.Test.YtnbpdknmbjkfeaaDoorDay
import Derived.Test.YtnbpdknmbjkfeaaDoorSolve
namespace Go.Proofs.YtnbpdknmbjkfeaaDoor.CdM
open Go.RowKit Mem CdP MapSet Solve CdR Day Nest

set_option maxHeartbeats 400000 in
theorem indexi_any (hol : List Int) (hh : hol.length ≤ 1048576) (A : Option Addr) (hc : Nat) (d : Int) (w : World) (h : Rd w A (ints hol)) :
    Calls Tryd.prog 112 #[.slice A hol.length hc, .int .i64 d] w fun e w' => (∃ r : Int, e = .returned (.int .i64 r) ∧ (0 ≤ r ↔ d ∈ hol)) ∧ w = w' := by
  have HR := Lib.hid h
  clear h
  go_enter Tryd.func112, Tryd.ntmps112
  go_wp2_with fail
  go_loop [8] (fun t8 => ∃ j : Nat, t8 = .int .i64 j ∧ j ≤ hol.length ∧ Hid (∀ k (h : k < hol.length), k < j → hol[k] ≠ d)) (fun t8 => hol.length - (intOf t8).toNat)
  case atStart => exact ⟨0, rfl, Nat.zero_le _, fun k _ hk => absurd hk (by omega)⟩
  case round =>
    obtain ⟨j, rfl, hj, HN⟩ := hrel
    by_cases hlt : j < hol.length
    · obtain ⟨b', o', rfl, hx⟩ := HR.out.int hlt
      have HX := Lib.hid (show hol[j] = d → d ∈ hol from fun e => e ▸ List.getElem_mem hlt)
      have HN2 := Lib.hid (show hol[j] ≠ d → ∀ k (h : k < hol.length), k < j + 1 → hol[k] ≠ d from fun hne k h hk => by
        by_cases e : k = j
        · subst e; exact hne
        · exact HN.out k h (by omega))
      generalize hol[j] = x at *
      by_cases hxd : x = d
      · have HC := Lib.hid (HX.out hxd)
        have hxd' : (d == x) = true := by simp [hxd]
        clear hxd HN2 HN
        go_wp2_with fail
        go_ret
        exact ⟨⟨_, rfl, iff_of_true (by omega) HC.out⟩, rfl⟩
      · have HNe := Lib.hid (HN2.out hxd)
        have hxd' : (d == x) = false := by simp; exact fun e => hxd e.symm
        clear hxd HN2 HN
        go_wp2_with fail
        go_round
        case rel => exact ⟨j + 1, by go_num, by omega, HNe.out⟩
        case measure => simp [intOf]; omega
    · obtain rfl : hol.length = j := by omega
      go_wp2_with fail
      go_ret
      refine ⟨⟨_, rfl, iff_of_false (by omega) fun e => ?_⟩, rfl⟩
      obtain ⟨k, hk, e⟩ := List.mem_iff_getElem.1 e
      exact HN.out k hk hk e
set_option maxHeartbeats 400000 in
theorem containsi_any (hol : List Int) (hh : hol.length ≤ 1048576) (A : Option Addr) (hc : Nat) (d : Int) (w : World) (h : Rd w A (ints hol)) :
    Calls Tryd.prog 64 #[.slice A hol.length hc, .int .i64 d] w fun e w' => e = .returned (.bool (hol.contains d)) ∧ w = w' := by
  have H := Lib.hid (indexi_any hol hh A hc d w h)
  clear h
  go_enter Tryd.func64, Tryd.ntmps64
  go_wp2_with fail
  refine H.out.mono ?_
  rintro e w' ⟨⟨r, rfl, hr⟩, rfl⟩
  have HR := Lib.hid hr
  clear hr
  go_wp2_with fail
  go_ret
  refine ⟨ret_bool ?_, rfl⟩
  rw [Bool.eq_iff_iff, List.contains_iff_mem, ← HR.out]
  simp
set_option maxHeartbeats 1000000 in
theorem pworks_any (c : Cd) (hh : c.hol.length ≤ 1048576) (b o : Nat) (A : Option Addr) (hc : Nat) (d : Int) (w : World) (h : CdA w b o c A hc) :
    Calls Tryd.prog 17 #[.pointer (some ⟨b, o, none⟩), .int .i64 d] w fun e w' => e = .returned (.bool (worksB c d)) ∧ ∃ n, w' = w.drewN n := by
  by_cases hg : Gd d
  · have HG := Lib.hid hg
    obtain ⟨g1, g2⟩ := hg
    have hf := h.flag d
    have h7 := h.hol
    have HGo := Lib.hid (fun w => good_yes d g1 g2 w)
    have HWk := Lib.hid (fun w => week_yes d g1 g2 w)
    have HCt := Lib.hid (fun n => containsi_any c.hol hh A hc d (w.drewN n) (h.rd.ext (ext_drewN w n)))
    have hm0 : (0 : Int) ≤ (d - 1) % 7 := by omega
    have hm1 : (d - 1) % 7 < 7 := by omega
    obtain ⟨f, hff⟩ : ∃ f, f = offAt c.off d := ⟨_, rfl⟩
    obtain ⟨g, hgg⟩ : ∃ g, g = c.hol.contains d := ⟨_, rfl⟩
    have HV := Lib.hid (show worksB c d = (!f && !g) by unfold worksB wk; rw [← hff, ← hgg]; simp [HG.out])
    rw [← hff] at hf
    rw [← hgg] at HCt
    rw [HV.out]
    clear h hff hgg
    generalize (d - 1) % 7 = m at *
    cases f
    · go_enter Tryd.func17, Tryd.ntmps17
      go_wp2_with fail
      go_quiet ((first | (go_at_call 62; exact Calls.quiet_of_same ((HGo.out _).mono fun e w' h => ⟨h.1, h.2.symm⟩)) | (go_at_call 63; exact Calls.quiet_of_same ((HWk.out _).mono fun e w' h => ⟨h.1, h.2.symm⟩)) | (go_at_call 64; exact Calls.quiet_of_same ((HCt.out _).mono fun e w' h => ⟨h.1, h.2.symm⟩))))
      go_wp2_with fail
      go_ret
      exact ⟨ret_bool (by simp), _, rfl⟩
    · go_enter Tryd.func17, Tryd.ntmps17
      go_wp2_with fail
      go_quiet ((first | (go_at_call 62; exact Calls.quiet_of_same ((HGo.out _).mono fun e w' h => ⟨h.1, h.2.symm⟩)) | (go_at_call 63; exact Calls.quiet_of_same ((HWk.out _).mono fun e w' h => ⟨h.1, h.2.symm⟩))))
      go_wp2_with fail
      go_ret
      exact ⟨ret_bool (by simp), _, rfl⟩
  · have HG := Lib.hid hg
    have HGo := Lib.hid (fun w => good_no d (by unfold Gd at hg; omega) w)
    clear hg h
    go_enter Tryd.func17, Tryd.ntmps17
    go_wp2_with fail
    go_quiet ((go_at_call 62; exact Calls.quiet_of_same ((HGo.out _).mono fun e w' h => ⟨h.1, h.2.symm⟩)))
    go_wp2_with fail
    go_ret
    have hr : worksB c d = false := by unfold worksB; simp [HG.out]
    exact ⟨ret_bool hr.symm, _, rfl⟩
end Go.Proofs.YtnbpdknmbjkfeaaDoor.CdM

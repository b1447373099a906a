/- Whether claims can be settled: the document's own test. -/
import Derived.Test.YtjnkcpeicocjhaaDoorLVal
import Derived.Test.YtjnkcpeicocjhaaDoorRefDay
import Derived.Test.YtjnkcpeicocjhaaDoorPart3
namespace Go.Proofs.YtjnkcpeicocjhaaDoor.Claims
open Go.RowKit Mem Pays Nest

theorem isday_b (d : Int) (w : World) : Calls Tryd.prog 72 #[.int .i64 d] w fun e w' => e = .returned (.bool (decide (1 ≤ d ∧ d ≤ 3652059))) ∧ w = w' := by
  by_cases h : 1 ≤ d ∧ d ≤ 3652059
  · exact (RefDay.isday_yes d h.1 h.2 w).mono fun e w' ⟨he, hw⟩ => ⟨by rw [he]; simp [h], hw⟩
  · exact (RefDay.isday_no d (by omega) w).mono fun e w' ⟨he, hw⟩ => ⟨by rw [he]; simp; omega, hw⟩
theorem small_b (n : Int) (w : World) : Calls Tryd.prog 44 #[.int .i64 n] w fun e w' => e = .returned (.bool (decide (-1000000000000 ≤ n ∧ n ≤ 1000000000000))) ∧ w = w' := by
  by_cases h : -1000000000000 ≤ n ∧ n ≤ 1000000000000
  · exact (Coin.small_yes n h.1 h.2 w).mono fun e w' ⟨he, hw⟩ => ⟨by rw [he]; simp [h], hw⟩
  · exact (Coin.small_no n (by omega) w).mono fun e w' ⟨he, hw⟩ => ⟨by rw [he]; simp; omega, hw⟩
/-- what the document's test says: an error's number -/
def RValidPost (rs : List Cl) (rate : Int) (w : World) (e : Ending) (w' : World) : Prop :=
  (∃ v : Int, e = .returned (.int .i64 v) ∧ ((VB rs rs.length ∧ v = 2) ∨ (¬ VB rs rs.length ∧ Upto (PD rs) rs.length ∧ v = 4) ∨ (¬ VB rs rs.length ∧ ¬ Upto (PD rs) rs.length ∧ VC rs rate rs.length ∧ v = 3) ∨ (¬ VB rs rs.length ∧ ¬ Upto (PD rs) rs.length ∧ ¬ VC rs rate rs.length ∧ v = 0))) ∧ Below w.heap.size w w'
theorem VB_up {rs : List Cl} {j : Nat} (h : j ≤ rs.length) (hv : VB rs j) : VB rs rs.length := by
  rcases hv with h1 | ⟨i, hi, hp⟩
  · exact .inl h1
  · exact .inr ⟨i, by omega, hp⟩
set_option maxRecDepth 100000 in
set_option maxHeartbeats 4000000 in
theorem rvalid_any (A : Option Addr) (c : Nat) (rs : List Cl) (rate : Int) (w : World) (hr : Cls w A rs) (hn : rs.length ≤ 1048576) (hd : ∀ r ∈ rs, r.dues.length ≤ 1048576) :
    Calls Tryd.prog 42 #[.slice A rs.length c, .int .i64 rate] w (RValidPost rs rate w) := by
  have HR := Lib.hid hr
  have HDL := Lib.hid hd
  clear hr hd
  by_cases hl : 400 < rs.length
  · have hl' : decide (400 < (rs.length : Int)) = true := by simp; omega
    have HL := Lib.hid hl
    clear hl
    go_enter Tryd.func42, Tryd.ntmps42
    go_upto_region 2 with fail
    go_cut [6] (fun _ wx => w = wx)
    case first =>
      by_cases hr0 : 0 ≤ rate
      · have hr0' : decide (0 ≤ rate) = true := by simp [hr0]
        go_wp2_with fail
        go_meet
        rfl
      · have hr0' : decide (0 ≤ rate) = false := by simp; omega
        go_wp2_with fail
        go_meet
        rfl
    case rest =>
      obtain rfl := hcut
      go_wp2_with fail
      go_ret
      exact ⟨⟨2, rfl, .inl ⟨.inl HL.out, rfl⟩⟩, Below.refl _ _⟩
  have hl' : decide (400 < (rs.length : Int)) = false := by simp; omega
  have HNB := Lib.hid (show ¬ VB rs 0 by unfold VB; simp [Upto.zero]; omega)
  obtain ⟨c0, hc0⟩ : ∃ b : Bool, (decide (0 ≤ rate) && decide (rate ≤ 10000)) = b := ⟨_, rfl⟩
  have HC0 := Lib.hid (show c0 = true ↔ ¬ VC rs rate 0 by
    rw [← hc0]; unfold VC; simp [Upto.zero])
  clear hl
  go_enter Tryd.func42, Tryd.ntmps42
  go_upto_region 2 with fail
  go_cut [6] (fun s6 wx => w = wx ∧ s6 = .bool c0)
  case first =>
    by_cases hr0 : 0 ≤ rate
    · have hr0' : decide (0 ≤ rate) = true := by simp [hr0]
      go_wp2_with fail
      go_meet
      exact ⟨rfl, by rw [← hc0]; simp [hr0]⟩
    · have hr0' : decide (0 ≤ rate) = false := by simp; omega
      go_wp2_with fail
      go_meet
      exact ⟨rfl, by rw [← hc0, hr0']; rfl⟩
  case rest =>
    obtain ⟨rfl, rfl⟩ := hcut
    clear hc0
    go_wp2_with fail
    go_loopw [5, 6, 7] (fun d ct i wr => Hid (Below w.heap.size w wr) ∧ ∃ (dd cc : Bool) (j : Nat), d = .bool dd ∧ ct = .bool cc ∧ i = .int .i64 j ∧ j ≤ rs.length ∧ Hid (¬ VB rs j) ∧ Hid (dd = true ↔ ¬ Upto (PD rs) j) ∧ Hid (cc = true ↔ ¬ VC rs rate j)) (fun _ _ i _ => (rs.length - intOf i).toNat)
    case atStart => exact ⟨Below.refl _ _, true, c0, 0, rfl, rfl, rfl, by omega, HNB.out, by show true = true ↔ _; simp [Upto.zero], HC0.out⟩
    case round =>
      clear HNB HC0
      obtain ⟨HB, dd, cc, j, rfl, rfl, rfl, hj, HVB, HVD, HVC⟩ := hrel
      by_cases hlt : j < rs.length
      · have HR2 := Lib.hid (HR.out.ext HB.out)
        obtain ⟨b, o, rfl, r0, r1⟩ := HR2.out.row hlt
        have hcl : (j : Int) < rs.length := by omega
        have HDU := Lib.hid (HR2.out.dues _ (List.getElem_mem hlt))
        by_cases h400 : 400 < rs[j].dues.length
        · have h4 : decide (400 < (rs[j].dues.length : Int)) = true := by simp; omega
          have HV := Lib.hid (show VB rs rs.length from .inr ⟨j, hlt, (PB_at hlt).2 h400⟩)
          go_wp2_with fail
          go_ret
          exact ⟨⟨2, rfl, .inl ⟨HV.out, rfl⟩⟩, HB.out⟩
        have h4 : decide (400 < (rs[j].dues.length : Int)) = false := by simp; omega
        have HVB2 := Lib.hid (show ¬ VB rs (j + 1) by
          have h := HVB.out
          unfold VB at h ⊢
          rw [Upto.succ, PB_at hlt, ← or_assoc]
          exact fun k => k.elim h h400)
        clear HVB h400
        go_wp2_with fail
        refine (isday_b _ _).mono ?_
        rintro e w' ⟨rfl, rfl⟩
        obtain ⟨g, hg⟩ : ∃ g : Bool, decide (1 ≤ rs[j].day ∧ rs[j].day ≤ 3652059) = g := ⟨_, rfl⟩
        have HG := Lib.hid (show g = true ↔ Gd rs[j].day by rw [← hg]; unfold Gd; simp)
        rw [hg]
        clear hg
        go_upto_region 11 with fail
        go_cut [5] (fun s5 wx => (∃ q, wx = wr.drewN q) ∧ ∃ d' : Bool, s5 = .bool d' ∧ Hid (d' = true ↔ ¬ (Upto (PD rs) j ∨ (¬ Gd rs[j].day ∨ Late rs j))))
        case first =>
          cases dd
          · go_quiet (fail)
            go_wp2_with fail
            go_meet
            refine ⟨⟨_, rfl⟩, false, rfl, ?_⟩
            show _ ↔ _
            have h : Upto (PD rs) j := Classical.byContradiction fun h => by simpa using HVD.out.2 h
            simp [h]
          · have HND := Lib.hid (show ¬ Upto (PD rs) j from HVD.out.1 rfl)
            cases g
            · go_quiet (fail)
              go_wp2_with fail
              go_meet
              refine ⟨⟨_, rfl⟩, false, rfl, ?_⟩
              show _ ↔ _
              have h : ¬ Gd rs[j].day := fun h => by simpa using HG.out.2 h
              simp [h]
            · have HG1 := Lib.hid (show Gd rs[j].day from HG.out.1 rfl)
              by_cases h0 : 0 < j
              · obtain ⟨i, rfl⟩ : ∃ i, j = i + 1 := ⟨j - 1, by omega⟩
                obtain ⟨b2, o2, hbo, m0, _⟩ := HR2.out.row (show i < rs.length by omega)
                cases hbo
                have hjw : IntKind.i64.wrap (i : Int) = i := IntWalk.i64_in _ (by omega)
                have hil : (i : Int) < rs.length := by omega
                have hip : (((i : Int) + 1) == 0) = false := by simp; omega
                go_quiet (fail)
                go_wp2_with fail
                go_meet
                refine ⟨⟨_, rfl⟩, _, rfl, ?_⟩
                show _ ↔ _
                rw [Late_at hlt (by omega)]
                simp [HND.out, HG1.out]
              · obtain rfl : j = 0 := by omega
                go_quiet (fail)
                go_wp2_with fail
                go_meet
                refine ⟨⟨_, rfl⟩, true, rfl, ?_⟩
                show _ ↔ _
                have hl : ¬ Late rs 0 := fun ⟨_, _, h, _⟩ => by omega
                simp [HND.out, HG1.out, hl]
        case rest =>
          clear HVD HG
          obtain ⟨⟨q, rfl⟩, d', rfl, HVD⟩ := hcut
          have HB0 := Lib.hid (ext_trans HB.out (ext_drewN wr q))
          have HDU1 := Lib.hid (HDU.out.ext (ext_drewN wr q))
          have HR3 := Lib.hid (HR2.out.ext (ext_drewN wr q))
          clear r0 r1 HB HDU HR2
          generalize wr.drewN q = w1 at *
          go_wp2_with fail
          go_loopw [5, 6, 9] (fun d ct i wi => Hid (Below w1.heap.size w1 wi) ∧ ∃ (dd cc : Bool) (k : Nat), d = .bool dd ∧ ct = .bool cc ∧ i = .int .i64 k ∧ k ≤ rs[j].dues.length ∧ Hid (dd = true ↔ ¬ ((Upto (PD rs) j ∨ (¬ Gd rs[j].day ∨ Late rs j)) ∨ Upto (QD rs[j]) k)) ∧ Hid (cc = true ↔ ¬ (VC rs rate j ∨ Upto (QC rs[j]) k))) (fun _ _ i _ => (rs[j].dues.length - intOf i).toNat)
          case atStart => exact ⟨Below.refl _ _, d', cc, 0, rfl, rfl, rfl, by omega, by have h := HVD.out; show _ ↔ _; rw [h]; simp [Upto.zero], by have h := HVC.out; show _ ↔ _; rw [h]; simp [Upto.zero]⟩
          case round =>
            clear HVD HVC
            obtain ⟨HBi, dd, cc, k, rfl, rfl, rfl, hk, HVD, HVC⟩ := hrel
            obtain ⟨b3, o3, hbo, r0, r1⟩ := (HR3.out.ext HBi.out).row hlt
            cases hbo
            by_cases hlk : k < rs[j].dues.length
            · have hck : (k : Int) < rs[j].dues.length := by omega
              have hdl : rs[j].dues.length ≤ 1048576 := HDL.out _ (List.getElem_mem hlt)
              obtain ⟨b2, o2, hA, p0, p1, p2⟩ := pay_at (HDU1.out.ext HBi.out) hlk
              rw [hA] at r1
              clear hA
              go_wp2_with fail
              refine (isday_b _ _).mono ?_
              rintro e w' ⟨rfl, rfl⟩
              obtain ⟨g1, hg⟩ : ∃ g : Bool, decide (1 ≤ rs[j].dues[k].1 ∧ rs[j].dues[k].1 ≤ 3652059) = g := ⟨_, rfl⟩
              have HG1 := Lib.hid (show g1 = true ↔ Gd rs[j].dues[k].1 by rw [← hg]; unfold Gd; simp)
              rw [hg]
              clear hg
              go_wp2_with fail
              refine (isday_b _ _).mono ?_
              rintro e w' ⟨rfl, rfl⟩
              obtain ⟨g2, hg⟩ : ∃ g : Bool, decide (1 ≤ rs[j].dues[k].2.1 ∧ rs[j].dues[k].2.1 ≤ 3652059) = g := ⟨_, rfl⟩
              have HG2 := Lib.hid (show g2 = true ↔ Gd rs[j].dues[k].2.1 by rw [← hg]; unfold Gd; simp)
              rw [hg]
              clear hg
              go_wp2_with fail
              refine (small_b _ _).mono ?_
              rintro e w' ⟨rfl, rfl⟩
              obtain ⟨g3, hg⟩ : ∃ g : Bool, decide (-1000000000000 ≤ rs[j].dues[k].2.2 ∧ rs[j].dues[k].2.2 ≤ 1000000000000) = g := ⟨_, rfl⟩
              have HG3 := Lib.hid (show g3 = true ↔ ¬ BadCent rs[j].dues[k] by rw [← hg]; unfold BadCent; simp)
              rw [hg]
              clear hg
              go_upto_region 19 with fail
              go_cut [5] (fun s5 wx => wr.alloc (.cells #[.int .i64 rs[j].dues[k].1, .int .i64 rs[j].dues[k].2.1, .int .i64 rs[j].dues[k].2.2] 123) = wx ∧ ∃ d2 : Bool, s5 = .bool d2 ∧ Hid (d2 = true ↔ ¬ (((Upto (PD rs) j ∨ (¬ Gd rs[j].day ∨ Late rs j)) ∨ Upto (QD rs[j]) k) ∨ BadPay rs[j].dues[k])))
              case first =>
                cases dd
                · go_wp2_with fail
                  go_meet
                  refine ⟨rfl, false, rfl, ?_⟩
                  show _ ↔ _
                  exact ⟨fun h => by simp at h, fun h => by simpa using HVD.out.2 (fun k => h (.inl k))⟩
                · have HND := Lib.hid (HVD.out.1 rfl)
                  cases g1
                  · have H1 := Lib.hid (show ¬ Gd rs[j].dues[k].1 from fun h => by simpa using HG1.out.2 h)
                    go_wp2_with fail
                    go_meet
                    refine ⟨rfl, false, rfl, ?_⟩
                    show _ ↔ _
                    exact ⟨fun h => by simp at h, fun h => absurd (.inr (.inl H1.out)) h⟩
                  · have H1 := Lib.hid (HG1.out.1 rfl)
                    cases g2
                    · have H2 := Lib.hid (show ¬ Gd rs[j].dues[k].2.1 from fun h => by simpa using HG2.out.2 h)
                      go_wp2_with fail
                      go_meet
                      refine ⟨rfl, false, rfl, ?_⟩
                      show _ ↔ _
                      exact ⟨fun h => by simp at h, fun h => absurd (.inr (.inr (.inl H2.out))) h⟩
                    · have H2 := Lib.hid (HG2.out.1 rfl)
                      go_wp2_with fail
                      go_meet
                      refine ⟨rfl, _, rfl, ?_⟩
                      show _ ↔ _
                      unfold BadPay
                      rw [or_iff_right HND.out, or_iff_right (fun h => h H1.out), or_iff_right (fun h => h H2.out)]
                      simp
              case rest =>
                clear HVD HG1 HG2
                obtain ⟨hww, d2, rfl, HVD⟩ := hcut
                subst hww
                cases cc
                · go_wp2_with fail
                  go_roundw
                  case rel =>
                    refine ⟨ext_trans HBi.out (ext_alloc wr _), d2, false, k + 1, rfl, rfl, by simp, by omega, ?_, ?_⟩
                    · have h := HVD.out
                      show _ ↔ _
                      rw [Upto.succ, QD_at hlk, h, or_assoc]
                    · show _ ↔ _
                      rw [Upto.succ, QC_at hlk, ← or_assoc]
                      exact ⟨fun h => by simp at h, fun h => by simpa using HVC.out.2 (fun k => h (.inl k))⟩
                  case measure => simp [intOf]; omega
                · have HNC := Lib.hid (HVC.out.1 rfl)
                  go_wp2_with fail
                  go_roundw
                  case rel =>
                    refine ⟨ext_trans HBi.out (ext_alloc wr _), d2, g3, k + 1, rfl, rfl, by simp, by omega, ?_, ?_⟩
                    · have h := HVD.out
                      show _ ↔ _
                      rw [Upto.succ, QD_at hlk, h, or_assoc]
                    · have h := HG3.out
                      show _ ↔ _
                      rw [Upto.succ, QC_at hlk, ← or_assoc, or_iff_right HNC.out]
                      exact h
                  case measure => simp [intOf]; omega
            · have hck : ¬ (k : Int) < rs[j].dues.length := by omega
              have hk2 : k = rs[j].dues.length := by omega
              go_wp2_with fail
              go_roundw
              case rel =>
                refine ⟨HB0.out.trans (HBi.out.mono HB0.out.size), dd, cc, j + 1, rfl, rfl, by simp, by omega, HVB2.out, ?_, ?_⟩
                · have h := HVD.out
                  show _ ↔ _
                  rw [Upto.succ, PD_at hlt, h, hk2, or_assoc]
                · have h := HVC.out
                  show _ ↔ _
                  unfold VC at h ⊢
                  rw [Upto.succ, PC_at hlt, h, hk2, or_assoc]
              case measure => simp [intOf]; omega
      · have hcl : ¬ (j : Int) < rs.length := by omega
        have hj2 : j = rs.length := by omega
        subst hj2
        cases dd
        · go_wp2_with fail
          go_ret
          exact ⟨⟨4, rfl, .inr (.inl ⟨HVB.out, Classical.byContradiction fun h => by simpa using HVD.out.2 h, rfl⟩)⟩, HB.out⟩
        · cases cc
          · go_wp2_with fail
            go_ret
            exact ⟨⟨3, rfl, .inr (.inr (.inl ⟨HVB.out, HVD.out.1 (by simp), Classical.byContradiction fun h => by simpa using HVC.out.2 h, rfl⟩))⟩, HB.out⟩
          · go_wp2_with fail
            go_ret
            exact ⟨⟨0, rfl, .inr (.inr (.inr ⟨HVB.out, HVD.out.1 (by simp), HVC.out.1 (by simp), rfl⟩))⟩, HB.out⟩
end Go.Proofs.YtjnkcpeicocjhaaDoor.Claims

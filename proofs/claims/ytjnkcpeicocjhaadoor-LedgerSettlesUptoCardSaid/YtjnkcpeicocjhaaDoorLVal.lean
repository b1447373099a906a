/- Whether claims can be settled: the ledger's own test. -/
import Derived.Test.YtjnkcpeicocjhaaDoorClaims
import Derived.Test.YtjnkcpeicocjhaaDoorLPlain
import Derived.Deep.DeepCutAuto
namespace Go.Proofs.YtjnkcpeicocjhaaDoor.Claims
open Go.RowKit Mem Pays Nest

def Upto (P : Nat → Prop) (j : Nat) : Prop := ∃ i, i < j ∧ P i
theorem Upto.zero (P : Nat → Prop) : ¬ Upto P 0 := fun ⟨_, h, _⟩ => by omega
theorem Upto.succ (P : Nat → Prop) (j : Nat) : Upto P (j + 1) ↔ Upto P j ∨ P j := by
  constructor
  · rintro ⟨i, hi, hp⟩
    by_cases e : i = j
    · subst e; exact .inr hp
    · exact .inl ⟨i, by omega, hp⟩
  · rintro (⟨i, hi, hp⟩ | hp)
    · exact ⟨i, by omega, hp⟩
    · exact ⟨j, by omega, hp⟩
def Gd (d : Int) : Prop := 1 ≤ d ∧ d ≤ 3652059
def BadPay (p : Pay) : Prop := ¬ Gd p.1 ∨ ¬ Gd p.2.1 ∨ p.2.1 ≤ p.1
def BadCent (p : Pay) : Prop := p.2.2 < -1000000000000 ∨ 1000000000000 < p.2.2
def QD (r : Cl) (k : Nat) : Prop := ∃ p, r.dues[k]? = some p ∧ BadPay p
def QC (r : Cl) (k : Nat) : Prop := ∃ p, r.dues[k]? = some p ∧ BadCent p
def Late (rs : List Cl) (i : Nat) : Prop := ∃ r r', 0 < i ∧ rs[i]? = some r ∧ rs[i - 1]? = some r' ∧ r.day ≤ r'.day
def PB (rs : List Cl) (i : Nat) : Prop := ∃ r, rs[i]? = some r ∧ 400 < r.dues.length
def PD (rs : List Cl) (i : Nat) : Prop := ∃ r, rs[i]? = some r ∧ ((¬ Gd r.day ∨ Late rs i) ∨ Upto (QD r) r.dues.length)
def PC (rs : List Cl) (i : Nat) : Prop := ∃ r, rs[i]? = some r ∧ Upto (QC r) r.dues.length
theorem PB_at {rs : List Cl} {j : Nat} (h : j < rs.length) : PB rs j ↔ 400 < rs[j].dues.length := by
  unfold PB
  rw [List.getElem?_eq_getElem h]
  simp
theorem PD_at {rs : List Cl} {j : Nat} (h : j < rs.length) : PD rs j ↔ (¬ Gd rs[j].day ∨ Late rs j) ∨ Upto (QD rs[j]) rs[j].dues.length := by
  unfold PD
  rw [List.getElem?_eq_getElem h]
  simp
theorem PC_at {rs : List Cl} {j : Nat} (h : j < rs.length) : PC rs j ↔ Upto (QC rs[j]) rs[j].dues.length := by
  unfold PC
  rw [List.getElem?_eq_getElem h]
  simp
theorem QD_at {r : Cl} {k : Nat} (h : k < r.dues.length) : QD r k ↔ BadPay r.dues[k] := by
  unfold QD
  rw [List.getElem?_eq_getElem h]
  simp
theorem QC_at {r : Cl} {k : Nat} (h : k < r.dues.length) : QC r k ↔ BadCent r.dues[k] := by
  unfold QC
  rw [List.getElem?_eq_getElem h]
  simp
theorem Late_at {rs : List Cl} {j : Nat} (h : j < rs.length) (h0 : 0 < j) : Late rs j ↔ rs[j].day ≤ rs[j - 1].day := by
  unfold Late
  rw [List.getElem?_eq_getElem h, List.getElem?_eq_getElem (show j - 1 < rs.length by omega)]
  simp [h0]
def VB (rs : List Cl) (j : Nat) : Prop := 400 < rs.length ∨ Upto (PB rs) j
def VC (rs : List Cl) (rate : Int) (j : Nat) : Prop := (rate < 0 ∨ 10000 < rate) ∨ Upto (PC rs) j

theorem day_yes (d : Int) (h : Gd d) (w : World) : Calls Tryd.prog 65 #[.int .i64 d] w fun e w' => e = .returned (.bool true) ∧ w' = w :=
  (Day.good_yes d h.1 h.2 w).mono fun _ _ ⟨he, hw⟩ => ⟨he, hw.symm⟩
theorem day_no (d : Int) (h : ¬ Gd d) (w : World) : Calls Tryd.prog 65 #[.int .i64 d] w fun e w' => e = .returned (.bool false) ∧ w' = w :=
  (Day.good_no d (by unfold Gd at h; omega) w).mono fun _ _ ⟨he, hw⟩ => ⟨he, hw.symm⟩
/-- what the test says -/
def ValidPost (rs : List Cl) (rate : Int) (EB ED EC : Value) (w : World) (e : Ending) (w' : World) : Prop :=
  (∃ v, e = .returned v ∧ ((VB rs rs.length ∧ v = EB) ∨ (¬ VB rs rs.length ∧ Upto (PD rs) rs.length ∧ v = ED) ∨ (¬ VB rs rs.length ∧ ¬ Upto (PD rs) rs.length ∧ VC rs rate rs.length ∧ v = EC) ∨ (¬ VB rs rs.length ∧ ¬ Upto (PD rs) rs.length ∧ ¬ VC rs rate rs.length ∧ v = .nilIface))) ∧ Below w.heap.size w w'
set_option maxRecDepth 100000 in
set_option maxHeartbeats 2000000 in
theorem valid_any (A : Option Addr) (c : Nat) (rs : List Cl) (rate : Int) (w : World) (hr : Cls w A rs) (hn : rs.length ≤ 1048576) (hd : ∀ r ∈ rs, r.dues.length ≤ 1048576) (EB ED EC : Value) (hB : w.cell? ⟨1, 0, none⟩ = some EB) (hD : w.cell? ⟨2, 0, none⟩ = some ED) (hC : w.cell? ⟨0, 0, none⟩ = some EC) :
    Calls Tryd.prog 38 #[.slice A rs.length c, .int .i64 rate] w (ValidPost rs rate EB ED EC w) := by
  have HR := Lib.hid hr
  have HDL := Lib.hid hd
  have HEB := Lib.hid hB
  have HED := Lib.hid hD
  have HEC := Lib.hid hC
  clear hr hd hB hD hC
  obtain ⟨b0, hb0⟩ : ∃ b : Bool, decide (400 < (rs.length : Int)) = b := ⟨_, rfl⟩
  have HB0 := Lib.hid (show b0 = true ↔ VB rs 0 by
    rw [← hb0]; unfold VB; simp [Upto.zero]; omega)
  obtain ⟨c0, hc0⟩ : ∃ b : Bool, (decide (rate < 0) || decide (10000 < rate)) = b := ⟨_, rfl⟩
  have HC0 := Lib.hid (show c0 = true ↔ VC rs rate 0 by
    rw [← hc0]; unfold VC; simp [Upto.zero])
  go_enter Tryd.func38, Tryd.ntmps38
  go_upto_region 2 with fail
  go_cut [6, 7] (fun s6 s7 wx => w = wx ∧ s6 = .bool false ∧ s7 = .bool c0)
  case first =>
    by_cases hr0 : rate < 0
    · go_wp2_with fail
      go_meet
      exact ⟨rfl, rfl, by rw [← hc0]; simp [hr0]⟩
    · go_wp2_with fail
      go_meet
      exact ⟨rfl, rfl, by rw [← hc0]; simp; omega⟩
  case rest =>
    obtain ⟨rfl, rfl, rfl⟩ := hcut
    clear hb0 hc0
    go_wp2_with fail
    go_loopw [5, 6, 7, 23] (fun b d ct i wr => Hid (Below w.heap.size w wr) ∧ ∃ (bb dd cc : Bool) (j : Nat), b = .bool bb ∧ d = .bool dd ∧ ct = .bool cc ∧ i = .int .i64 j ∧ j ≤ rs.length ∧ Hid (bb = true ↔ VB rs j) ∧ Hid (dd = true ↔ Upto (PD rs) j) ∧ Hid (cc = true ↔ VC rs rate j)) (fun _ _ _ i _ => (rs.length - intOf i).toNat)
    case atStart => exact ⟨Below.refl _ _, b0, false, c0, 0, rfl, rfl, rfl, rfl, by omega, HB0.out, by show false = true ↔ _; simp [Upto.zero], HC0.out⟩
    case round =>
      obtain ⟨HB, bb, dd, cc, j, rfl, rfl, rfl, rfl, hj, HVB, HVD, HVC⟩ := hrel
      by_cases hlt : j < rs.length
      · have HR2 := Lib.hid (HR.out.ext HB.out)
        obtain ⟨b, o, rfl, r0, r1⟩ := HR2.out.row hlt
        have hcl : (j : Int) < rs.length := by omega
        have HDU := Lib.hid (HR2.out.dues _ (List.getElem_mem hlt))
        go_upto_region 6 with fail
        go_cut [5] (fun s5 wx => wr.alloc (.cells #[.int .i64 rs[j].day, .slice rs[j].A rs[j].dues.length rs[j].c] 113) = wx ∧ ∃ b' : Bool, s5 = .bool b' ∧ Hid (b' = true ↔ VB rs (j + 1)))
        case first =>
          cases bb
          · go_wp2_with fail
            go_meet
            refine ⟨rfl, _, rfl, ?_⟩
            have h := HVB.out
            show _ ↔ VB rs (j + 1)
            unfold VB at h ⊢
            rw [Upto.succ, PB_at hlt, ← or_assoc, ← h]
            simp
            omega
          · go_wp2_with fail
            go_meet
            refine ⟨rfl, true, rfl, ?_⟩
            have h := HVB.out.1 trivial
            show _ ↔ VB rs (j + 1)
            unfold VB at h ⊢
            rw [Upto.succ, ← or_assoc]
            simp [h]
        case rest =>
          clear HVB
          obtain ⟨hww, b', rfl, HVB⟩ := hcut
          subst hww
          go_upto_region 7 with fail
          go_cut [6] (fun s6 wx => Hid (Below wr.heap.size wr wx) ∧ Hid (Blk wx wr.heap.size 113 [.int .i64 rs[j].day, .slice rs[j].A rs[j].dues.length rs[j].c]) ∧ ∃ d' : Bool, s6 = .bool d' ∧ Hid (d' = true ↔ Upto (PD rs) j ∨ (¬ Gd rs[j].day ∨ Late rs j)))
          case first =>
            cases dd
            · have hnd : ¬ Upto (PD rs) j := fun h => by simpa using HVD.out.2 h
              by_cases hg : Gd rs[j].day
              · by_cases h0 : 0 < j
                · obtain ⟨i, rfl⟩ : ∃ i, j = i + 1 := ⟨j - 1, by omega⟩
                  have HG := Lib.hid hg
                  have HND := Lib.hid hnd
                  clear hg hnd
                  obtain ⟨b2, o2, hbo, m0, _⟩ := HR2.out.row (show i < rs.length by omega)
                  cases hbo
                  have hjw : IntKind.i64.wrap (i : Int) = i := IntWalk.i64_in _ (by omega)
                  have hil : (i : Int) < rs.length := by omega
                  have m1 := cell_ext (ext_alloc wr (.cells #[.int .i64 rs[i + 1].day, .slice rs[i + 1].A rs[i + 1].dues.length rs[i + 1].c] 113)) m0
                  have hip : (0 : Int) < (i : Int) + 1 := by omega
                  go_quiet ((go_at_call 65; exact Calls.quiet_of_same (day_yes _ HG.out _)))
                  go_wp2_with fail
                  go_meet
                  refine ⟨ext_trans (ext_alloc wr _) (ext_drewN _ nq), (Blk.new wr _ [_, _]).ext (below_drewN (Below.refl _ _) nq), _, rfl, ?_⟩
                  show _ ↔ _
                  rw [Late_at hlt (by omega)]
                  simp [HND.out, HG.out]
                · obtain rfl : j = 0 := by omega
                  have HG := Lib.hid hg
                  have HND := Lib.hid hnd
                  clear hg hnd
                  go_quiet ((go_at_call 65; exact Calls.quiet_of_same (day_yes _ HG.out _)))
                  go_wp2_with fail
                  go_meet
                  refine ⟨ext_trans (ext_alloc wr _) (ext_drewN _ nq), (Blk.new wr _ [_, _]).ext (below_drewN (Below.refl _ _) nq), _, rfl, ?_⟩
                  show _ ↔ _
                  have hl : ¬ Late rs 0 := fun ⟨_, _, h, _⟩ => by omega
                  simp [HND.out, HG.out, hl]
              · have HG := Lib.hid hg
                have HND := Lib.hid hnd
                clear hg hnd
                go_quiet ((go_at_call 65; exact Calls.quiet_of_same (day_no _ HG.out _)))
                go_wp2_with fail
                go_meet
                refine ⟨ext_trans (ext_alloc wr _) (ext_drewN _ nq), (Blk.new wr _ [_, _]).ext (below_drewN (Below.refl _ _) nq), _, rfl, ?_⟩
                show _ ↔ _
                simp [HG.out]
            · go_quiet (fail)
              go_wp2_with fail
              go_meet
              refine ⟨ext_trans (ext_alloc wr _) (ext_drewN _ nq), (Blk.new wr _ [_, _]).ext (below_drewN (Below.refl _ _) nq), _, rfl, ?_⟩
              show _ ↔ _
              have h := HVD.out.1 trivial
              simp [h]
          case rest =>
            clear HVD
            obtain ⟨HB1, HX1, d', rfl, HVD⟩ := hcut
            have HB0 := Lib.hid (ext_trans HB.out HB1.out)
            have HDU1 := Lib.hid (HDU.out.ext HB1.out)
            have x1 := HX1.out.cell 1 rfl
            clear r0 r1 HB HB1 HDU HX1
            obtain ⟨w1, hw1⟩ : ∃ w1, w1 = wc := ⟨_, rfl⟩
            subst hw1
            go_wp2_with fail
            go_loopw [6, 7, 60] (fun d ct i wi => Hid (Below w1.heap.size w1 wi) ∧ ∃ (dd cc : Bool) (k : Nat), d = .bool dd ∧ ct = .bool cc ∧ i = .int .i64 k ∧ k ≤ rs[j].dues.length ∧ Hid (dd = true ↔ (Upto (PD rs) j ∨ (¬ Gd rs[j].day ∨ Late rs j)) ∨ Upto (QD rs[j]) k) ∧ Hid (cc = true ↔ VC rs rate j ∨ Upto (QC rs[j]) k)) (fun _ _ i _ => (rs[j].dues.length - intOf i).toNat)
            case atStart => exact ⟨Below.refl _ _, d', cc, 0, rfl, rfl, rfl, by omega, by have h := HVD.out; show _ ↔ _; rw [h]; simp [Upto.zero], by have h := HVC.out; show _ ↔ _; rw [h]; simp [Upto.zero]⟩
            case round =>
              clear x1 HVD HVC
              obtain ⟨HBi, dd, cc, k, rfl, rfl, rfl, hk, HVD, HVC⟩ := hrel
              by_cases hlk : k < rs[j].dues.length
              · have hck : (k : Int) < rs[j].dues.length := by omega
                have hdl : rs[j].dues.length ≤ 1048576 := HDL.out _ (List.getElem_mem hlt)
                obtain ⟨b2, o2, hA, p0, p1, p2⟩ := pay_at (HDU1.out.ext HBi.out) hlk
                rw [hA]
                go_upto_region 11 with fail
                go_cut [6] (fun s6 wx => wr.alloc (.cells #[.int .i64 rs[j].dues[k].1, .int .i64 rs[j].dues[k].2.1, .int .i64 rs[j].dues[k].2.2] 110) = wx ∧ ∃ d2 : Bool, s6 = .bool d2 ∧ Hid (d2 = true ↔ ((Upto (PD rs) j ∨ (¬ Gd rs[j].day ∨ Late rs j)) ∨ Upto (QD rs[j]) k) ∨ BadPay rs[j].dues[k]))
                case first =>
                  cases dd
                  · have HND := Lib.hid (show ¬ ((Upto (PD rs) j ∨ (¬ Gd rs[j].day ∨ Late rs j)) ∨ Upto (QD rs[j]) k) from fun h => by simpa using HVD.out.2 h)
                    by_cases g1 : Gd rs[j].dues[k].1
                    · have G1 := Lib.hid g1
                      clear g1
                      by_cases g2 : Gd rs[j].dues[k].2.1
                      · have G2 := Lib.hid g2
                        clear g2
                        go_wp2_with fail
                        refine (day_yes _ G1.out _).mono ?_
                        rintro e w' ⟨rfl, rfl⟩
                        go_wp2_with fail
                        refine (day_yes _ G2.out _).mono ?_
                        rintro e w' ⟨rfl, rfl⟩
                        go_wp2_with fail
                        go_meet
                        refine ⟨rfl, _, rfl, ?_⟩
                        show _ ↔ _
                        unfold BadPay
                        rw [or_iff_right HND.out, or_iff_right (fun h => h G1.out), or_iff_right (fun h => h G2.out)]
                        simp
                      · have G2 := Lib.hid g2
                        clear g2
                        go_wp2_with fail
                        refine (day_yes _ G1.out _).mono ?_
                        rintro e w' ⟨rfl, rfl⟩
                        go_wp2_with fail
                        refine (day_no _ G2.out _).mono ?_
                        rintro e w' ⟨rfl, rfl⟩
                        go_wp2_with fail
                        go_meet
                        refine ⟨rfl, _, rfl, ?_⟩
                        show _ ↔ _
                        exact ⟨fun _ => .inr (.inr (.inl G2.out)), fun _ => rfl⟩
                    · have G1 := Lib.hid g1
                      clear g1
                      go_wp2_with fail
                      refine (day_no _ G1.out _).mono ?_
                      rintro e w' ⟨rfl, rfl⟩
                      go_wp2_with fail
                      go_meet
                      refine ⟨rfl, _, rfl, ?_⟩
                      show _ ↔ _
                      exact ⟨fun _ => .inr (.inl G1.out), fun _ => rfl⟩
                  · go_wp2_with fail
                    go_meet
                    refine ⟨rfl, _, rfl, ?_⟩
                    show _ ↔ _
                    exact ⟨fun _ => .inl (HVD.out.1 trivial), fun _ => rfl⟩
                case rest =>
                  clear HVD
                  obtain ⟨hww, d2, rfl, HVD⟩ := hcut
                  subst hww
                  cases cc
                  · have HNC := Lib.hid (show ¬ (VC rs rate j ∨ Upto (QC rs[j]) k) from fun h => by simpa using HVC.out.2 h)
                    by_cases g1 : BadCent rs[j].dues[k]
                    · have G1 := Lib.hid g1
                      clear g1
                      go_wp2_with fail
                      refine (Coin.good_no _ G1.out _).mono ?_
                      rintro e w' ⟨rfl, rfl⟩
                      go_wp2_with fail
                      go_roundw
                      case rel =>
                        refine ⟨ext_trans HBi.out (ext_alloc wr _), d2, _, k + 1, rfl, rfl, by simp, by omega, ?_, ?_⟩
                        · have h := HVD.out
                          show _ ↔ _
                          rw [Upto.succ, QD_at hlk, h, or_assoc]
                        · show _ ↔ _
                          rw [Upto.succ, QC_at hlk, ← or_assoc]
                          exact ⟨fun _ => .inr G1.out, fun _ => rfl⟩
                      case measure => simp [intOf]; omega
                    · have G1 := Lib.hid g1
                      clear g1
                      go_wp2_with fail
                      refine (Coin.good_yes _ (by have := G1.out; unfold BadCent at this; omega) (by have := G1.out; unfold BadCent at this; omega) _).mono ?_
                      rintro e w' ⟨rfl, rfl⟩
                      go_wp2_with fail
                      go_roundw
                      case rel =>
                        refine ⟨ext_trans HBi.out (ext_alloc wr _), d2, _, k + 1, rfl, rfl, by simp, by omega, ?_, ?_⟩
                        · have h := HVD.out
                          show _ ↔ _
                          rw [Upto.succ, QD_at hlk, h, or_assoc]
                        · show _ ↔ _
                          rw [Upto.succ, QC_at hlk, ← or_assoc]
                          rw [or_iff_right HNC.out]
                          exact ⟨fun h => by simp at h, fun h => absurd h G1.out⟩
                      case measure => simp [intOf]; omega
                  · skip
                    · go_wp2_with fail
                      go_roundw
                      case rel =>
                        refine ⟨ext_trans HBi.out (ext_alloc wr _), d2, _, k + 1, rfl, rfl, by simp, by omega, ?_, ?_⟩
                        · have h := HVD.out
                          show _ ↔ _
                          rw [Upto.succ, QD_at hlk, h, or_assoc]
                        · show _ ↔ _
                          rw [Upto.succ, QC_at hlk, ← or_assoc]
                          exact ⟨fun _ => .inl (HVC.out.1 rfl), fun _ => rfl⟩
                      case measure => simp [intOf]; omega
              · have hck : ¬ (k : Int) < rs[j].dues.length := by omega
                have hk2 : k = rs[j].dues.length := by omega
                go_wp2_with fail
                go_roundw
                case rel =>
                  refine ⟨HB0.out.trans (HBi.out.mono HB0.out.size), b', dd, cc, j + 1, rfl, rfl, rfl, by simp, by omega, HVB.out, ?_, ?_⟩
                  · have h := HVD.out
                    show _ ↔ _
                    rw [Upto.succ, PD_at hlt, h, hk2, or_assoc]
                  · have h := HVC.out
                    show _ ↔ _
                    unfold VC at h ⊢
                    rw [Upto.succ, PC_at hlt, h, hk2, or_assoc]
                case measure => simp [intOf]; omega
      · have hcl : ¬ (j : Int) < rs.length := by omega
        have hj2 : j = rs.length := by omega
        subst hj2
        have g1 := cell_ext HB.out HEB.out
        have g2 := cell_ext HB.out HED.out
        have g3 := cell_ext HB.out HEC.out
        cases bb
        · cases dd
          · cases cc
            · go_wp2_with fail
              go_ret
              exact ⟨⟨_, rfl, .inr (.inr (.inr ⟨fun h => by simpa using HVB.out.2 h, fun h => by simpa using HVD.out.2 h, fun h => by simpa using HVC.out.2 h, rfl⟩))⟩, HB.out⟩
            · go_wp2_with fail
              go_ret
              exact ⟨⟨_, rfl, .inr (.inr (.inl ⟨fun h => by simpa using HVB.out.2 h, fun h => by simpa using HVD.out.2 h, HVC.out.1 trivial, rfl⟩))⟩, HB.out⟩
          · go_wp2_with fail
            go_ret
            exact ⟨⟨_, rfl, .inr (.inl ⟨fun h => by simpa using HVB.out.2 h, HVD.out.1 trivial, rfl⟩)⟩, HB.out⟩
        · go_wp2_with fail
          go_ret
          exact ⟨⟨_, rfl, .inl ⟨HVB.out.1 trivial, rfl⟩⟩, HB.out⟩
end Go.Proofs.YtjnkcpeicocjhaaDoor.Claims

/- What bands come to: the document's Bands. -/
import Derived.Test.YtdfajigepchccaaGreatDoorBnW
import Derived.Deep.CutBlock
import Derived.Deep.Cut
namespace Go.Proofs.YtdfajigepchccaaGreatDoor.Bn
open Go.RowKit Mem Rnd Nest Flt

def RBandsPost (am : Int) (l : List Bd) (way : Int) (w : World) (e : Ending) (w' : World) : Prop :=
  e = .returned (.tuple #[.int .i64 (bandsF am l way).1, .int .i64 ((bandsF am l way).2 : Int)]) ∧ Below w.heap.size w w'
theorem rpost_of {am way : Int} {l : List Bd} {w w' : World} {o : Int × Nat} (ho : bandsF am l way = o) (hb : Below w.heap.size w w') : RBandsPost am l way w (.returned (.tuple #[.int .i64 o.1, .int .i64 (o.2 : Int)])) w' := by
  unfold RBandsPost; rw [ho]; exact ⟨rfl, hb⟩
theorem any_take {l : List Bd} {k : Nat} (h : k < l.length) : (l.take (k + 1)).any badB = ((l.take k).any badB || badB l[k]) := by
  rw [List.take_succ_eq_append_getElem h, List.any_append]
  simp
def smallOk (am : Int) : Bool := decide (am < 0) || decide (1000000000000 < am)
set_option maxRecDepth 100000 in
set_option maxHeartbeats 4000000 in
theorem rbands_any (am way : Int) (l : List Bd) (A : Option Addr) (c : Nat) (hl : l.length ≤ 1048576) (w : World) (hr : Rd w A (l.flatMap bdCells)) :
    Calls Tryz.prog 12 #[.int .i64 am, .slice A l.length c, .int .i64 way] w (RBandsPost am l way w) := by
  by_cases c1 : way < 0 ∨ 5 < way
  · have HP := Lib.hid (bands_way (am := am) (l := l) c1)
    clear hr
    go_enter Tryz.func12, Tryz.ntmps12
    go_wp2_with fail
    refine (Coin.isway_no _ c1 _).mono ?_
    rintro e w' ⟨rfl, rfl⟩
    clear c1
    go_wp2_with fail
    go_ret2
    exact rpost_of HP.out (Below.refl _ _)
  · have c1a : 0 ≤ way := by omega
    have c1b : way ≤ 5 := by omega
    have HC1 := Lib.hid c1
    have HR := Lib.hid hr
    clear hr c1
    obtain ⟨b0, hb0⟩ : ∃ b0, b0 = smallOk am := ⟨_, rfl⟩
    have HB0 := Lib.hid hb0
    clear hb0
    go_enter Tryz.func12, Tryz.ntmps12
    go_wp2_with fail
    refine (Coin.isway_yes _ c1a c1b _).mono ?_
    rintro e w' ⟨rfl, rfl⟩
    go_upto_region 4 with fail
    go_cut [9] (fun s9 wx => w = wx ∧ s9 = .bool (!(decide (am < -1000000000000) || decide (1000000000000 < am))))
    case first =>
      by_cases hsm : am < -1000000000000 ∨ 1000000000000 < am
      · have HS := Lib.hid (show (!(decide (am < -1000000000000) || decide (1000000000000 < am))) = false by simp; omega)
        go_wp2_with fail
        refine (Coin.small_no _ hsm _).mono ?_
        rintro e w' ⟨rfl, rfl⟩
        clear hsm
        go_wp2_with fail
        go_meet
        exact ⟨rfl, by rw [HS.out]⟩
      · have HS := Lib.hid (show (!(decide (am < -1000000000000) || decide (1000000000000 < am))) = true by simp; omega)
        go_wp2_with fail
        refine (Coin.small_yes _ (by omega) (by omega) _).mono ?_
        rintro e w' ⟨rfl, rfl⟩
        clear hsm
        go_wp2_with fail
        go_meet
        exact ⟨rfl, by rw [HS.out]⟩
    case rest =>
      obtain ⟨hwx, rfl⟩ := hcut
      subst hwx
      obtain ⟨sm, hsm⟩ : ∃ sm, sm = (!(decide (am < -1000000000000) || decide (1000000000000 < am))) := ⟨_, rfl⟩
      rw [← hsm]
      have HSm := Lib.hid hsm
      clear hsm
      go_upto_region 5 with fail
      go_cut [10] (fun s10 wx => w = wx ∧ s10 = .bool b0)
      case first =>
        cases sm
        · have hb : b0 = true := by
            have h1 := HSm.out
            have h2 := HB0.out
            unfold smallOk at h2
            rw [h2]
            simp at h1 ⊢
            omega
          go_wp2_with fail
          go_meet
          exact ⟨rfl, by rw [hb]⟩
        · have hb : b0 = decide (am < 0) := by
            have h1 := HSm.out
            have h2 := HB0.out
            unfold smallOk at h2
            rw [h2]
            simp at h1 ⊢
            omega
          go_wp2_with fail
          go_meet
          exact ⟨rfl, by rw [hb]⟩
      case rest =>
        obtain ⟨hwx, rfl⟩ := hcut
        subst hwx
        go_wp2_with fail
        go_loop [9, 10, 11] (fun s9 s10 s11 => ∃ (k : Nat) (bd ok : Bool), s9 = .bool ok ∧ s10 = .bool bd ∧ s11 = .int .i64 k ∧ k ≤ l.length ∧ Hid (bd = (b0 || (l.take k).any badB))) (fun _ _ s11 => (l.length - intOf s11).toNat)
        case atStart => exact ⟨0, b0, sm, rfl, rfl, rfl, Nat.zero_le _, by show b0 = _; simp⟩
        case round =>
          clear HSm
          obtain ⟨k, bd, ok, rfl, rfl, rfl, hk, HBd⟩ := hrel
          by_cases hlt : k < l.length
          · have hltc : (k : Int) < (l.length : Int) := by omega
            obtain ⟨b, o, rfl, r0, r1⟩ := band_at HR.out hlt
            have HN := Lib.hid (any_take hlt)
            obtain ⟨bx, hbx⟩ : ∃ bx, bx = l[k] := ⟨_, rfl⟩
            rw [← hbx] at r0 r1
            have HN2 := Lib.hid (show (bd || badB bx) = (b0 || (l.take (k + 1)).any badB) by rw [hbx, HN.out, HBd.out, Bool.or_assoc])
            clear hbx HN HBd
            obtain ⟨x0, x1⟩ := bx
            simp only at r0 r1
            by_cases hsm : x0 < -1000000000000 ∨ 1000000000000 < x0
            · have HV := Lib.hid (show badB (x0, x1) = true by unfold badB; simp; omega)
              go_wp2_with fail
              refine (Coin.small_no _ hsm _).mono ?_
              rintro e w' ⟨rfl, rfl⟩
              clear hsm
              cases bd
              all_goals
                go_wp2_with fail
                go_round
                case rel => exact ⟨k + 1, true, false, rfl, rfl, by go_num, by omega, by show true = _; have := HN2.out; rw [HV.out] at this; simpa using this⟩
                case measure => simp [intOf]; omega
            · have s1 : -1000000000000 ≤ x0 := by omega
              have s2 : x0 ≤ 1000000000000 := by omega
              clear hsm
              go_wp2_with fail
              refine (Coin.small_yes _ s1 s2 _).mono ?_
              rintro e w' ⟨rfl, rfl⟩
              cases bd
              · by_cases h1 : x0 < 0
                · have HV := Lib.hid (show badB (x0, x1) = true by unfold badB; simp [h1])
                  go_wp2_with fail
                  go_round
                  case rel => exact ⟨k + 1, true, true, rfl, rfl, by go_num, by omega, by show true = _; have := HN2.out; rw [HV.out] at this; simpa using this⟩
                  case measure => simp [intOf]; omega
                · by_cases h2 : x1 < 0
                  · have HV := Lib.hid (show badB (x0, x1) = true by unfold badB; simp [h2])
                    go_wp2_with fail
                    go_round
                    case rel => exact ⟨k + 1, true, true, rfl, rfl, by go_num, by omega, by show true = _; have := HN2.out; rw [HV.out] at this; simpa using this⟩
                    case measure => simp [intOf]; omega
                  · by_cases h3 : 1000000 < x1
                    · have HV := Lib.hid (show badB (x0, x1) = true by unfold badB; simp [h3])
                      go_wp2_with fail
                      go_round
                      case rel => exact ⟨k + 1, true, true, rfl, rfl, by go_num, by omega, by show true = _; have := HN2.out; rw [HV.out] at this; simpa using this⟩
                      case measure => simp [intOf]; omega
                    · have HV := Lib.hid (show badB (x0, x1) = false by unfold badB; simp; omega)
                      go_wp2_with fail
                      go_round
                      case rel => exact ⟨k + 1, false, true, rfl, by congr 1; simp; omega, by go_num, by omega, by show false = _; have := HN2.out; rw [HV.out] at this; simpa using this⟩
                      case measure => simp [intOf]; omega
              · go_wp2_with fail
                go_round
                case rel => exact ⟨k + 1, true, true, rfl, rfl, by go_num, by omega, by show true = _; have := HN2.out; simpa using this⟩
                case measure => simp [intOf]; omega
          · have hltc : ¬ (k : Int) < (l.length : Int) := by omega
            have hkl : k = l.length := by omega
            subst hkl
            have HBd2 := Lib.hid (show bd = (b0 || l.any badB) by have := HBd.out; rwa [List.take_length] at this)
            clear HBd
            cases bd
            · have HN3 := Lib.hid (show ¬ (am < 0 ∨ 1000000000000 < am ∨ l.any badB = true) by
                have h1 := HBd2.out
                rw [HB0.out] at h1
                unfold smallOk at h1
                have h2 := h1.symm
                simp only [Bool.or_eq_false_iff, decide_eq_false_iff_not] at h2
                obtain ⟨⟨h3, h4⟩, h5⟩ := h2
                rw [h5]; simp; omega)
              have hab : 0 ≤ am ∧ am ≤ 1000000000000 := by have := HN3.out; omega
              obtain ⟨ha0, ha1⟩ := hab
              have HAll := Lib.hid (show ∀ b ∈ l, badB b = false from fun b hb => by
                cases hh : badB b with
                | false => rfl
                | true => exact absurd (.inr (.inr (List.any_eq_true.2 ⟨b, hb, hh⟩))) HN3.out)
              by_cases c5 : 60 < l.length
              · have HP := Lib.hid (bands_order (am := am) (l := l) HC1.out HN3.out (.inl c5))
                have c5' : (60 : Int) < (l.length : Int) := by omega
                go_wp2_with fail
                go_ret2
                exact rpost_of HP.out (Below.refl _ _)
              · have c5' : (l.length : Int) ≤ 60 := by omega
                go_wp2_with fail
                go_loopw [12] (fun i wr => Hid (Below w.heap.size w wr) ∧ ∃ j : Nat, i = .int .i64 ((j : Int) + 1) ∧ j ≤ l.length ∧ Hid (∀ q, q < j → ∀ h : q + 1 < l.length, (l[q]'(by omega)).1 < l[q + 1].1)) (fun i _ => (l.length + 1 - intOf i).toNat)
                case atStart => exact ⟨Below.refl _ _, 0, rfl, Nat.zero_le _, fun q hq => absurd hq (by omega)⟩
                case round =>
                  clear hltc hlt hk
                  obtain ⟨HB, j, rfl, hj, hno⟩ := hrel
                  by_cases hlt : j + 1 < l.length
                  · have hltc : (j : Int) + 1 < (l.length : Int) := by omega
                    obtain ⟨b, o, rfl, r0, _⟩ := band_at (HR.out.ext HB.out) (show j < l.length by omega)
                    obtain ⟨b', o', hA, r1, _⟩ := band_at (HR.out.ext HB.out) hlt
                    cases hA
                    obtain ⟨y0, hy0⟩ : ∃ y, y = (l[j]'(by omega)).1 := ⟨_, rfl⟩
                    obtain ⟨y1, hy1⟩ : ∃ y, y = l[j + 1].1 := ⟨_, rfl⟩
                    rw [← hy0] at r0
                    rw [← hy1] at r1
                    have HY0 := Lib.hid hy0
                    have HY1 := Lib.hid hy1
                    clear hy0 hy1
                    by_cases hle : y1 ≤ y0
                    · have HP := Lib.hid (bands_order (am := am) (l := l) HC1.out HN3.out (.inr (not_inc (i := j + 1) (by omega) hlt (by have := HY0.out; have := HY1.out; simp only [Nat.add_sub_cancel]; omega))))
                      go_wp2_with fail
                      go_quiet (fail)
                      go_wp2_with fail
                      go_ret2
                      exact rpost_of HP.out (HB.out.trans ((ext_drewN _ _).mono HB.out.size))
                    · go_wp2_with fail
                      go_quiet (fail)
                      go_wp2_with fail
                      go_roundw
                      case rel =>
                        refine ⟨HB.out.trans ((ext_drewN _ _).mono HB.out.size), j + 1, by go_num, by omega, fun q hq h => ?_⟩
                        by_cases e : q = j
                        · subst e; rw [← HY0.out, ← HY1.out]; omega
                        · exact hno.out q (by omega) h
                      case measure => simp [intOf]; omega
                  · have hltc : ¬ (j : Int) + 1 < (l.length : Int) := by omega
                    have HInc := Lib.hid (show Inc l from fun q hq => hno.out q (by omega) hq)
                    have HN8 := Lib.hid (show ¬ (60 < l.length ∨ ¬ Inc l) from fun h => h.elim c5 (fun h => h HInc.out))
                    have hps := psum_small (am := am) (by omega) (by omega) HInc.out HAll.out
                    obtain ⟨tot, htot⟩ : ∃ tot, tot = psum am l := ⟨_, rfl⟩
                    rw [← htot] at hps
                    obtain ⟨hp0, hp1⟩ := hps
                    have HT := Lib.hid htot
                    clear htot
                    go_wp2_with fail
                    go_loopw [13, 14, 15] (fun lf s i wr => Hid (Below w.heap.size w wr) ∧ ∃ (k : Nat) (T z : Int), i = .int .i64 ((k : Int) - 1) ∧ k ≤ l.length ∧ lf = .int .i64 T ∧ s = .int .i64 z ∧ Hid (T = lim am (l.drop k)) ∧ Hid (z = psum am (l.drop k))) (fun _ _ i _ => (intOf i + 1).toNat)
                    case atStart => exact ⟨HB.out, l.length, am, 0, rfl, Nat.le_refl _, rfl, rfl, by show am = _; rw [lim_end (by omega)], by show 0 = _; rw [List.drop_eq_nil_of_le (by omega)]; rfl⟩
                    case round =>
                      clear HB hno hj hlt hltc
                      obtain ⟨HB, k, T, z, rfl, hk, rfl, rfl, HTl, HZ⟩ := hrel
                      cases k with
                      | zero =>
                        have hzz : z = tot := by rw [HZ.out, List.drop_zero, HT.out]
                        subst hzz
                        clear HZ HTl
                        go_wp2_with fail
                        refine (Coin.round_any _ _ _ (by omega) (by omega) (by omega) (by omega) c1a c1b _).mono ?_
                        rintro e w2 ⟨rfl, rfl⟩
                        obtain ⟨n, hn⟩ : ∃ n, n = rnd z 10000 way := ⟨_, rfl⟩
                        rw [← hn]
                        have HN := Lib.hid (show n = rnd (psum am l) 10000 way by rw [← HT.out]; exact hn)
                        clear hn
                        by_cases c6 : n < -1000000000000 ∨ 1000000000000 < n
                        · have HP := Lib.hid (bands_high HC1.out HN3.out HN8.out HN.out c6)
                          go_wp2_with fail
                          refine (Coin.small_no _ c6 _).mono ?_
                          rintro e w' ⟨rfl, rfl⟩
                          clear c6
                          go_wp2_with fail
                          go_ret2
                          exact rpost_of HP.out HB.out
                        · have HP := Lib.hid (bands_ok HC1.out HN3.out HN8.out HN.out c6)
                          go_wp2_with fail
                          refine (Coin.small_yes _ (by omega) (by omega) _).mono ?_
                          rintro e w' ⟨rfl, rfl⟩
                          clear c6
                          go_wp2_with fail
                          go_ret2
                          exact rpost_of HP.out HB.out
                      | succ k =>
                        have hlt : k < l.length := by omega
                        obtain ⟨b, o, rfl, r0, r1⟩ := band_at (HR.out.ext HB.out) hlt
                        obtain ⟨bx, hbx⟩ : ∃ bx, bx = l[k] := ⟨_, rfl⟩
                        rw [← hbx] at r0 r1
                        have hb0 := badB_no (by rw [hbx]; exact HAll.out _ (List.getElem_mem hlt) : badB bx = false)
                        have hst := psum_drop (am := am) hlt
                        have hls := lim_step_drop (am := am) HInc.out hlt
                        rw [← hbx, ← HTl.out, ← HZ.out] at hst
                        rw [← hbx, ← HTl.out] at hls
                        have htb := term_bd (top := T) (b := bx) (by rw [hbx]; exact HAll.out _ (List.getElem_mem hlt))
                        have hdn := psum_small (am := am) (l := l.drop k) (by omega) (by omega) (HInc.out.drop _) (fun b hb => HAll.out b (List.mem_of_mem_drop hb))
                        have hd1 := psum_small (am := am) (l := l.drop (k + 1)) (by omega) (by omega) (HInc.out.drop _) (fun b hb => HAll.out b (List.mem_of_mem_drop hb))
                        have hlm := lim_le am (l.drop (k + 1))
                        rw [← HTl.out] at hlm
                        rw [← HZ.out] at hd1
                        rw [hst] at hdn
                        have HSt := Lib.hid hst
                        have HLs := Lib.hid hls
                        obtain ⟨x0, x1⟩ := bx
                        simp only at r0 r1 hb0 htb
                        obtain ⟨hx0, hx1, hx2, hx3⟩ := hb0
                        obtain ⟨tm, htm⟩ : ∃ tm, tm = term T (x0, x1) := ⟨_, rfl⟩
                        rw [← htm] at hdn htb
                        have HTm := Lib.hid htm
                        obtain ⟨ht0, _, _⟩ := htb
                        obtain ⟨hdn0, hdn1⟩ := hdn
                        obtain ⟨hd10, hd11⟩ := hd1
                        clear hst hls htm hbx HZ HTl
                        by_cases hx : x0 < T
                        · have htv : (T - x0) * x1 = tm := by rw [HTm.out]; unfold term; rw [if_pos hx]
                          have HL2 := Lib.hid (show x0 = lim am (l.drop k) by rw [HLs.out, if_pos hx])
                          go_wp2_with fail
                          go_quiet (fail)
                          go_wp2_with fail
                          go_roundw
                          case rel => exact ⟨HB.out.trans ((ext_drewN _ _).mono HB.out.size), k, x0, z + tm, by go_num, by omega, rfl, by go_num, HL2.out, by show z + tm = _; exact (by rw [HSt.out, HTm.out, Int.add_comm])⟩
                          case measure => simp [intOf]
                        · have HTz := Lib.hid (show tm = 0 by rw [HTm.out]; unfold term; rw [if_neg hx])
                          have HL2 := Lib.hid (show T = lim am (l.drop k) by rw [HLs.out, if_neg hx])
                          go_wp2_with fail
                          go_roundw
                          case rel => exact ⟨HB.out, k, T, z, by go_num, by omega, rfl, rfl, HL2.out, by show z = _; exact (by rw [HSt.out, ← HTm.out, HTz.out, Int.zero_add])⟩
                          case measure => simp [intOf]
            · have HP := Lib.hid (bands_coin (am := am) (l := l) HC1.out (by
                have h1 := HBd2.out
                rw [HB0.out] at h1
                unfold smallOk at h1
                have h2 := h1.symm
                simp only [Bool.or_eq_true, decide_eq_true_eq] at h2
                rcases h2 with (h | h) | h
                · exact .inl h
                · exact .inr (.inl h)
                · exact .inr (.inr h)))
              go_wp2_with fail
              go_ret2
              exact rpost_of HP.out (Below.refl _ _)
end Go.Proofs.YtdfajigepchccaaGreatDoor.Bn

/- What bands come to: the program's Bands. -/
import Derived.Test.YtdfajigepchccaaDoorBnW
namespace Go.Proofs.YtdfajigepchccaaDoor.Bn
open Go.RowKit Mem Rnd Nest Flt

/-- the error of such a number -/
def bandE (c : Nat) (EC EO EK : Value) : Value := if c = 0 then .nilIface else if c = 3 then EC else if c = 8 then EO else EK
def BandsPost (am : Int) (l : List Bd) (way : Int) (EC EO EK : Value) (w : World) (e : Ending) (w' : World) : Prop :=
  e = .returned (.tuple #[.int .i64 (bandsF am l way).1, bandE (bandsF am l way).2 EC EO EK]) ∧ Below w.heap.size w w'
theorem post_of {am way : Int} {l : List Bd} {EC EO EK : Value} {w w' : World} {o : Int × Nat} (ho : bandsF am l way = o) (hb : Below w.heap.size w w') : BandsPost am l way EC EO EK w (.returned (.tuple #[.int .i64 o.1, bandE o.2 EC EO EK])) w' := by
  unfold BandsPost; rw [ho]; exact ⟨rfl, hb⟩
theorem lim_next {am : Int} {l : List Bd} {k : Nat} (h : k + 1 < l.length) : lim am (l.drop (k + 1)) = min am l[k + 1].1 := lim_drop h
set_option maxRecDepth 100000 in
set_option maxHeartbeats 4000000 in
theorem bands_any (am way : Int) (l : List Bd) (A : Option Addr) (c : Nat) (hl : l.length ≤ 1048576) (EC EO EK : Value) (w : World) (hr : Rd w A (l.flatMap bdCells))
    (hC : w.cell? ⟨3, 0, none⟩ = some EC) (hO : w.cell? ⟨7, 0, none⟩ = some EO) (hK : w.cell? ⟨8, 0, none⟩ = some EK) :
    Calls Tryd.prog 31 #[.int .i64 am, .slice A l.length c, .int .i64 way] w (BandsPost am l way EC EO EK w) := by
  by_cases c1 : way < 0 ∨ 5 < way
  · have HP := Lib.hid (bands_way (am := am) (l := l) c1)
    clear hr hC hO
    go_enter Tryd.func31, Tryd.ntmps31
    go_wp2_with fail
    refine (Coin.way_no _ c1 _).mono ?_
    rintro e w' ⟨rfl, rfl⟩
    clear c1
    go_wp2_with fail
    go_quiet (fail)
    go_wp2
    go_ret2
    exact post_of HP.out (ext_drewN _ _)
  · by_cases c2 : am < 0
    · have HP := Lib.hid (bands_coin (am := am) (l := l) c1 (.inl c2))
      have c1a : 0 ≤ way := by omega
      have c1b : way ≤ 5 := by omega
      clear hr hK hO c1
      go_enter Tryd.func31, Tryd.ntmps31
      go_wp2_with fail
      refine (Coin.way_yes _ c1a c1b _).mono ?_
      rintro e w' ⟨rfl, rfl⟩
      go_wp2_with fail
      go_quiet (fail)
      go_wp2
      go_ret2
      exact post_of HP.out (ext_drewN _ _)
    · by_cases c3 : 1000000000000 < am
      · have HP := Lib.hid (bands_coin (am := am) (l := l) c1 (.inr (.inl c3)))
        have c1a : 0 ≤ way := by omega
        have c1b : way ≤ 5 := by omega
        clear hr hK hO c1
        go_enter Tryd.func31, Tryd.ntmps31
        go_wp2_with fail
        refine (Coin.way_yes _ c1a c1b _).mono ?_
        rintro e w' ⟨rfl, rfl⟩
        go_wp2_with fail
        refine (Coin.good_no _ (.inr c3) _).mono ?_
        rintro e w' ⟨rfl, rfl⟩
        go_wp2_with fail
        go_quiet (fail)
        go_wp2
        go_ret2
        exact post_of HP.out (ext_drewN _ _)
      · have c1a : 0 ≤ way := by omega
        have c1b : way ≤ 5 := by omega
        have HC1 := Lib.hid c1
        have HR := Lib.hid hr
        have HCC := Lib.hid (bcontains_any l A c hl w hr)
        have HgC := Lib.hid hC
        have HgO := Lib.hid hO
        clear hr hK hO hC c1
        go_enter Tryd.func31, Tryd.ntmps31
        go_wp2_with fail
        refine (Coin.way_yes _ c1a c1b _).mono ?_
        rintro e w' ⟨rfl, rfl⟩
        go_wp2_with fail
        refine (Coin.good_yes _ (by omega) (by omega) _).mono ?_
        rintro e w' ⟨rfl, rfl⟩
        go_wp2_with fail
        refine HCC.out.mono ?_
        rintro e w1 ⟨rfl, hb1⟩
        have HB1 := Lib.hid hb1
        have hC1 := cell_ext hb1 HgC.out
        have hO1 := cell_ext hb1 HgO.out
        clear hb1 HCC
        cases hany : l.any badB with
        | true =>
          have HP := Lib.hid (bands_coin (am := am) (l := l) HC1.out (.inr (.inr hany)))
          clear hany
          go_wp2_with fail
          go_quiet (fail)
          go_wp2
          go_ret2
          exact post_of HP.out (HB1.out.trans ((ext_drewN _ _).mono HB1.out.size))
        | false =>
          have HN3 := Lib.hid (show ¬ (am < 0 ∨ 1000000000000 < am ∨ l.any badB = true) by rw [hany]; simp; omega)
          have HAll := Lib.hid (show ∀ b ∈ l, badB b = false from fun b hb => by
            cases hh : badB b with
            | false => rfl
            | true => have := List.any_eq_true.2 ⟨b, hb, hh⟩; rw [hany] at this; cases this)
          clear hany
          by_cases c5 : 60 < l.length
          · have HP := Lib.hid (bands_order (am := am) (l := l) HC1.out HN3.out (.inl c5))
            have c5' : (60 : Int) < (l.length : Int) := by omega
            go_wp2_with fail
            go_quiet (fail)
            go_wp2
            go_ret2
            exact post_of HP.out (HB1.out.trans ((ext_drewN _ _).mono HB1.out.size))
          · have c5' : (l.length : Int) ≤ 60 := by omega
            go_wp2_with fail
            clear hC1 hO1
            go_loopw [8] (fun i wr => Hid (Below w.heap.size w wr) ∧ ∃ j : Nat, i = .int .i64 ((j : Int) + 1) ∧ j ≤ l.length ∧ Hid (∀ q, q < j → ∀ h : q + 1 < l.length, (l[q]'(by omega)).1 < l[q + 1].1)) (fun i _ => (l.length + 1 - intOf i).toNat)
            case atStart => exact ⟨HB1.out, 0, rfl, Nat.zero_le _, fun q hq => absurd hq (by omega)⟩
            case round =>
              obtain ⟨HB, j, rfl, hj, hno⟩ := hrel
              by_cases hlt : j + 1 < l.length
              · have hltc : (j : Int) + 1 < (l.length : Int) := by omega
                obtain ⟨b, o, rfl, r0, _⟩ := band_at (HR.out.ext HB.out) (show j < l.length by omega)
                obtain ⟨b', o', hA, r1, _⟩ := band_at (HR.out.ext HB.out) hlt
                cases hA
                have hOr := cell_ext HB.out HgO.out
                obtain ⟨y0, hy0⟩ : ∃ y, y = (l[j]'(by omega)).1 := ⟨_, rfl⟩
                obtain ⟨y1, hy1⟩ : ∃ y, y = l[j + 1].1 := ⟨_, rfl⟩
                rw [← hy0] at r0
                rw [← hy1] at r1
                have HY0 := Lib.hid hy0
                have HY1 := Lib.hid hy1
                clear hy0 hy1
                by_cases hle : y1 ≤ y0
                · have HP := Lib.hid (bands_order (am := am) (l := l) HC1.out HN3.out (.inr (not_inc (i := j + 1) (by omega) hlt (by have := HY0.out; have := HY1.out; simp only [Nat.add_sub_cancel]; omega))))
                  go_wp2_with fail
                  go_quiet (fail)
                  go_wp2_with fail
                  go_quiet (fail)
                  go_wp2
                  go_ret2
                  exact post_of HP.out (HB.out.trans ((ext_trans (ext_drewN _ _) (ext_drewN _ _)).mono HB.out.size))
                · go_wp2_with fail
                  go_quiet (fail)
                  go_wp2_with fail
                  go_roundw
                  case rel =>
                    refine ⟨HB.out.trans ((ext_drewN _ _).mono HB.out.size), j + 1, by go_num, by omega, fun q hq h => ?_⟩
                    by_cases e : q = j
                    · subst e; rw [← HY0.out, ← HY1.out]; omega
                    · exact hno.out q (by omega) h
                  case measure => simp [intOf]; omega
              · have hltc : ¬ (j : Int) + 1 < (l.length : Int) := by omega
                have HInc := Lib.hid (show Inc l from fun q hq => hno.out q (by omega) hq)
                have HN8 := Lib.hid (show ¬ (60 < l.length ∨ ¬ Inc l) from fun h => h.elim c5 (fun h => h HInc.out))
                have hps := psum_small (am := am) (by omega) (by omega) HInc.out HAll.out
                obtain ⟨tot, htot⟩ : ∃ tot, tot = psum am l := ⟨_, rfl⟩
                rw [← htot] at hps
                obtain ⟨hp0, hp1⟩ := hps
                have HT := Lib.hid htot
                clear htot
                go_wp2_with fail
                go_loopw [9, 55] (fun s i wr => Hid (Below w.heap.size w wr) ∧ ∃ (k : Nat) (z : Int), i = .int .i64 k ∧ k ≤ l.length ∧ s = .int .i64 z ∧ 0 ≤ z ∧ z ≤ tot ∧ Hid (z + psum am (l.drop k) = tot)) (fun _ i _ => (l.length - intOf i).toNat)
                case atStart => exact ⟨HB.out, 0, 0, rfl, Nat.zero_le _, rfl, by omega, by omega, by show (0 : Int) + psum am (l.drop 0) = tot; rw [List.drop_zero, HT.out]; omega⟩
                case round =>
                  clear HB hno hj hlt hltc
                  obtain ⟨HB, k, z, rfl, hk, rfl, hz0, hz1, HZ⟩ := hrel
                  by_cases hlt : k < l.length
                  · have hltc : (k : Int) < (l.length : Int) := by omega
                    obtain ⟨b, o, rfl, r0, r1⟩ := band_at (HR.out.ext HB.out) hlt
                    obtain ⟨bx, hbx⟩ : ∃ bx, bx = l[k] := ⟨_, rfl⟩
                    rw [← hbx] at r0 r1
                    have hb0 := badB_no (by rw [hbx]; exact HAll.out _ (List.getElem_mem hlt) : badB bx = false)
                    have hst := psum_drop (am := am) hlt
                    rw [← hbx] at hst
                    have hdn := (psum_small (am := am) (l := l.drop (k + 1)) (by omega) (by omega) (HInc.out.drop _) (fun b hb => HAll.out b (List.mem_of_mem_drop hb))).1
                    have hlm := lim_le am (l.drop (k + 1))
                    obtain ⟨T, hT⟩ : ∃ T, T = lim am (l.drop (k + 1)) := ⟨_, rfl⟩
                    rw [← hT] at hst hlm
                    have htb := term_bd (top := T) (b := bx) (by rw [hbx]; exact HAll.out _ (List.getElem_mem hlt))
                    have hz := HZ.out
                    rw [hst] at hz
                    obtain ⟨pn, hpn⟩ : ∃ pn, pn = psum am (l.drop (k + 1)) := ⟨_, rfl⟩
                    rw [← hpn] at hz hdn
                    have HPn := Lib.hid hpn
                    have HTl := Lib.hid hT
                    obtain ⟨x0, x1⟩ := bx
                    simp only at r0 r1 hb0 htb
                    obtain ⟨hx0, hx1, hx2, hx3⟩ := hb0
                    obtain ⟨tm, htm⟩ : ∃ tm, tm = term T (x0, x1) := ⟨_, rfl⟩
                    rw [← htm] at hz htb
                    have HTm := Lib.hid htm
                    have HZ' := Lib.hid hz
                    obtain ⟨ht0, _, _⟩ := htb
                    have hzt : z + tm ≤ tot := by omega
                    clear hst hT hpn hbx htm HZ hz
                    have q0 := (Blk.new wr 113 [.int .i64 x0, .int .i64 x1]).cell 0 rfl
                    have q1 := (Blk.new wr 113 [.int .i64 x0, .int .i64 x1]).cell 1 rfl
                    by_cases hnx : k + 1 < l.length
                    · have hnxc : (k : Int) + 1 < (l.length : Int) := by omega
                      obtain ⟨b', o', hA, n0, _⟩ := band_at (HR.out.ext HB.out) hnx
                      cases hA
                      have n0' := cell_ext (ext_alloc wr (.cells #[.int .i64 x0, .int .i64 x1] 113)) n0
                      obtain ⟨y1, hy1⟩ : ∃ y, y = l[k + 1].1 := ⟨_, rfl⟩
                      rw [← hy1] at n0 n0'
                      have hmin : T = min am y1 := by rw [HTl.out, lim_next hnx, hy1]
                      clear hy1 n0
                      by_cases hya : y1 < am
                      · have hTy : T = y1 := by omega
                        subst hTy
                        clear hmin
                        by_cases hx : x0 < T
                        · have htv : (T - x0) * x1 = tm := by rw [HTm.out]; unfold term; rw [if_pos hx]
                          go_wp2_with fail
                          go_roundw
                          case rel => exact ⟨HB.out.trans ((ext_alloc _ _).mono HB.out.size), k + 1, z + tm, by go_num, by omega, rfl, by omega, by omega, by show z + tm + psum _ (l.drop (k + 1)) = tot; rw [← HPn.out]; have := HZ'.out; omega⟩
                          case measure => simp [intOf]; omega
                        · have HTz := Lib.hid (show tm = 0 by rw [HTm.out]; unfold term; rw [if_neg hx])
                          go_wp2_with fail
                          go_roundw
                          case rel => exact ⟨HB.out.trans ((ext_alloc _ _).mono HB.out.size), k + 1, z, by go_num, by omega, rfl, by omega, by omega, by show z + psum _ (l.drop (k + 1)) = tot; rw [← HPn.out]; have := HZ'.out; have := HTz.out; omega⟩
                          case measure => simp [intOf]; omega
                      · have hTy : T = am := by omega
                        subst hTy
                        clear hmin
                        by_cases hx : x0 < T
                        · have htv : (T - x0) * x1 = tm := by rw [HTm.out]; unfold term; rw [if_pos hx]
                          go_wp2_with fail
                          go_roundw
                          case rel => exact ⟨HB.out.trans ((ext_alloc _ _).mono HB.out.size), k + 1, z + tm, by go_num, by omega, rfl, by omega, by omega, by show z + tm + psum _ (l.drop (k + 1)) = tot; rw [← HPn.out]; have := HZ'.out; omega⟩
                          case measure => simp [intOf]; omega
                        · have HTz := Lib.hid (show tm = 0 by rw [HTm.out]; unfold term; rw [if_neg hx])
                          go_wp2_with fail
                          go_roundw
                          case rel => exact ⟨HB.out.trans ((ext_alloc _ _).mono HB.out.size), k + 1, z, by go_num, by omega, rfl, by omega, by omega, by show z + psum _ (l.drop (k + 1)) = tot; rw [← HPn.out]; have := HZ'.out; have := HTz.out; omega⟩
                          case measure => simp [intOf]; omega
                    · have hnxc : ¬ (k : Int) + 1 < (l.length : Int) := by omega
                      have hTa : T = am := by rw [HTl.out, lim_end (by omega)]
                      subst hTa
                      by_cases hx : x0 < T
                      · have htv : (T - x0) * x1 = tm := by rw [HTm.out]; unfold term; rw [if_pos hx]
                        go_wp2_with fail
                        go_roundw
                        case rel => exact ⟨HB.out.trans ((ext_alloc _ _).mono HB.out.size), k + 1, z + tm, by go_num, by omega, rfl, by omega, by omega, by show z + tm + psum _ (l.drop (k + 1)) = tot; rw [← HPn.out]; have := HZ'.out; omega⟩
                        case measure => simp [intOf]; omega
                      · have HTz := Lib.hid (show tm = 0 by rw [HTm.out]; unfold term; rw [if_neg hx])
                        go_wp2_with fail
                        go_roundw
                        case rel => exact ⟨HB.out.trans ((ext_alloc _ _).mono HB.out.size), k + 1, z, by go_num, by omega, rfl, by omega, by omega, by show z + psum _ (l.drop (k + 1)) = tot; rw [← HPn.out]; have := HZ'.out; have := HTz.out; omega⟩
                        case measure => simp [intOf]; omega
                  · have hkl : k = l.length := by omega
                    have hzz : z = tot := by
                      have := HZ.out
                      rw [List.drop_eq_nil_of_le (by omega)] at this
                      simp only [psum] at this
                      omega
                    subst hkl hzz
                    have hC3 := cell_ext HB.out HgC.out
                    clear HZ
                    go_wp2_with fail
                    refine (Coin.rounded_any _ _ _ (by omega) (by omega) (by omega) (by omega) c1a c1b _).mono ?_
                    rintro e w2 ⟨rfl, q, rfl⟩
                    obtain ⟨n, hn⟩ : ∃ n, n = rnd z 10000 way := ⟨_, rfl⟩
                    rw [← hn]
                    have HN := Lib.hid (show n = rnd (psum am l) 10000 way by rw [← HT.out]; exact hn)
                    clear hn
                    by_cases c6 : n < -1000000000000 ∨ 1000000000000 < n
                    · have HP := Lib.hid (bands_high HC1.out HN3.out HN8.out HN.out c6)
                      go_wp2_with fail
                      refine (Coin.good_no _ c6 _).mono ?_
                      rintro e w' ⟨rfl, rfl⟩
                      clear c6
                      go_wp2_with fail
                      go_quiet (fail)
                      go_wp2
                      go_ret2
                      exact post_of HP.out (HB.out.trans ((ext_trans (ext_drewN _ _) (ext_drewN _ _)).mono HB.out.size))
                    · have HP := Lib.hid (bands_ok HC1.out HN3.out HN8.out HN.out c6)
                      go_wp2_with fail
                      refine (Coin.good_yes _ (by omega) (by omega) _).mono ?_
                      rintro e w' ⟨rfl, rfl⟩
                      clear c6
                      go_wp2_with fail
                      go_ret2
                      exact post_of HP.out (HB.out.trans ((ext_drewN _ _).mono HB.out.size))
end Go.Proofs.YtdfajigepchccaaDoor.Bn

/- The law SumsSplit answers true: the walk of the main case. -/
import Derived.Test.YtipbmpakdcmdoaaDoorSumsSplitWalk
import Derived.Laws.StructEq
import Derived.BigQuiet
import Derived.IntWalk
namespace Go.Proofs.YtipbmpakdcmdoaaDoor.SumsSplit
open Go.RowKit Cal Day Mem Pays Rnd Sums RefDay

theorem int_info : (Tryd.prog.info? 3).map (fun i => (i.zero, i.size, i.bytes)) = some (some (.int .i64 0), 1, 8) := by kernel_rfl
theorem len_months : ∀ {ps : List Pay} {xs : List Int} {f way : Int}, MonthsR ps xs f way → ps.length ≤ xs.length
  | [], _, _, _, _ => by simp
  | p :: ps, xs, f, way, h => by
    obtain ⟨y, m, d, hv, hn, hx, hp, hr⟩ := h
    have ih := len_months hr
    have hl := List.length_pos_iff.2 hx
    have : 1 ≤ span xs y m d := by unfold span; unfold Vld at hv; omega
    rw [List.length_drop] at ih
    simp only [List.length_cons]
    omega
set_option maxRecDepth 100000 in
set_option maxHeartbeats 2000000 in
theorem walk_main (a y m : Int) (xs : List Int) (A : Option Addr) (c : Nat) (hc : xs.length ≤ c) (aD aB aC aK : Addr) (w : World) (hF : Four w aD aB aC aK) (hr : Rd w A (ints xs)) (ha : -1000000000000 ≤ a) (ha' : a ≤ 1000000000000) (hv : Vld y m 1) (hm : mon y m 1 ≤ 119999) :
    Calls Tryd.prog 5 #[.int .i64 a, .slice A xs.length c, .int .i64 y, .int .i64 m] w fun e w' => e = .returned (.bool true) ∧ Below w.heap.size w w' := by
  have HF := Lib.hid hF
  have HV := Lib.hid hv
  have HM := Lib.hid hm
  have HR := Lib.hid hr
  have HX := Lib.hid (next_month hv hm)
  obtain ⟨dm1, dm2⟩ := dim_bd y m
  obtain ⟨nb1, nb2⟩ := hv.num_bd
  have nb3 : num y m 1 + dim y m ≤ 3652060 := by
    have h := (show Vld y m (dim y m) by unfold Vld at hv ⊢; omega).num_bd.2
    unfold num at h ⊢
    omega
  obtain ⟨i0, hi, hz0, hz1, hz2⟩ := info_parts int_info
  have HI := Lib.hid hi
  have HZ0 := Lib.hid hz0
  have HZ1 := Lib.hid hz1
  have HZ2 := Lib.hid hz2
  clear hi hz0 hz1 hz2
  clear hF hv hm hr
  go_enter Tryd.func5, Tryd.ntmps5
  go_wp2_with fail
  refine (pays_any _).mono ?_
  rintro e w1 ⟨rfl, hb1⟩
  have HB := Lib.hid hb1
  clear hb1
  go_wp2_with fail
  refine (Coin.small_yes _ ha ha' _).mono ?_
  rintro e w' ⟨rfl, rfl⟩
  go_wp2_with fail
  refine (of_yes _ _ _ HV.out _).mono ?_
  rintro e w' ⟨rfl, rfl⟩
  go_wp2_with fail
  refine (months_yes _ _ _ _ HV.out HX.out.2 HM.out _).mono ?_
  rw [HX.out.1]
  rintro e w' ⟨rfl, rfl⟩
  by_cases c1 : 200 < xs.length
  · have c1' : decide (200 < (xs.length : Int)) = true := by simp; omega
    go_wp2_with fail
    go_ret
    exact ⟨rfl, HB.out⟩
  · have c1' : decide (200 < (xs.length : Int)) = false := by simp; omega
    by_cases c2 : (xs.length : Int) < dim y m
    · have c2' : decide ((xs.length : Int) < num y m 1 + dim y m - num y m 1) = true := by simp; omega
      go_wp2_with fail
      go_ret
      exact ⟨rfl, HB.out⟩
    · have c2' : decide ((xs.length : Int) < num y m 1 + dim y m - num y m 1) = false := by simp; omega
      go_wp2_with fail
      clear c2'
      go_loopw [15, 16] (fun s i wr => Hid (Below w.heap.size w wr) ∧ ∃ k : Nat, (k : Int) ≤ dim y m ∧ i = .int .i64 (num y m 1 + k) ∧ Hid (wr.ownsRow w.heap.size 3 1 s k (ints (List.replicate k a)))) (fun _ i _ => (num y m 1 + dim y m - intOf i).toNat)
      case atStart => exact ⟨HB, 0, by omega, by simp, World.ownsRow_nil _ _ _ _⟩
      case round =>
        clear HB
        obtain ⟨HB, k, hk, rfl, hO⟩ := hrel
        by_cases hlt : (k : Int) < dim y m
        · go_wp2_with (at_builtin; refine wpList_append_own _ rfl (.tmp 71) (.tmp 73) _ rfl w.heap.size 3 i0 _ 1 8 Tryd.underlying49 HI.out HZ0.out HZ1.out HZ2.out rfl (by omega) u15 k _ rfl (World.ownsRow.alloc hO.out _) ⟨wr.heap.size, 0, none⟩ 1 1 [.int .i64 a] rfl rfl (new_cells wr [.int .i64 a] _ _ rfl) (by intro u hu; simp only [List.mem_cons, List.not_mem_nil, or_false] at hu; rcases hu with rfl; rfl) (by simp only [maxLen]; omega) (by omega) (Nat.le_trans HB.out.size (by simp)) ?_; intro v1 w1 hown1 hg1 _; have HO1 := Lib.hid hown1; have HB1 := Lib.hid (grown_ext (HB.out.trans ((ext_alloc wr _).mono HB.out.size)) rfl (World.ownsRow.alloc hO.out _) hg1); clear hown1 hg1)
          go_roundw
          case rel =>
            refine ⟨HB1, k + 1, by omega, by go_num, ?_⟩
            have ho := HO1.out
            show World.ownsRow _ _ _ _ _ _ _
            rw [List.replicate_succ']
            simpa [ints] using ho
          case measure => simp [intOf]; omega
        · have hkd : (k : Int) = dim y m := by omega
          obtain ⟨g, cap, rfl⟩ : ∃ g cap, u15 = .slice (some ⟨g, 0, none⟩) k cap := by
            rcases hO.out.2 with ⟨_, h0⟩ | ⟨g, cap, cur, h, _⟩
            · omega
            · exact ⟨g, cap, h⟩
          have HK := Lib.hid hkd
          have hcap : k ≤ cap := by
            rcases hO.out.2 with ⟨h, _⟩ | ⟨g', cap', cur, h, _, _, hcap, _⟩
            · cases h
            · injection h with _ _ h3; omega
          have hM := months_ok (List.replicate k a) (num y m 1) 4 (some ⟨g, 0, none⟩) cap (by rw [List.length_replicate]; exact hcap) (by intro e; have := congrArg List.length e; simp at this; omega) ⟨by omega, by omega, by rw [List.length_replicate]; omega, by omega, by rw [List.length_replicate]; omega, by intro x hx; rw [List.mem_replicate] at hx; omega⟩ wr (Rd.of_own hO.out)
          rw [List.length_replicate] at hM
          have HMo := Lib.hid hM
          clear hM hkd
          go_wp2_with fail
          refine HMo.out.mono ?_
          rintro e w2 ⟨ps, A', c', rfl, hm, hr, hc', hb⟩
          have e1 := MonthsR.unique hm (by have := same_plain a HV.out; rwa [show (dim y m).toNat = k by have := HK.out; omega] at this)
          subst e1
          obtain ⟨b, o, rfl, _, _, c2⟩ := one_row hr
          have HB2 := Lib.hid (HB.out.trans (hb.mono HB.out.size))
          have hc1 : 1 ≤ c' := hc'
          clear hm hr hc' hb HMo
          have hF2 := Lib.hid (HF.out.ext HB2.out)
          have hR2 := Lib.hid (HR.out.ext HB2.out)
          have hxne : xs ≠ [] := by intro e; subst e; simp at c2; omega
          have HXN := Lib.hid hxne
          obtain ⟨b0, o0, rfl, _⟩ := HR.out.int (List.length_pos_iff.2 HXN.out)
          clear hxne
          go_wp2_with fail
          by_cases cD : 3652060 < num y m 1 + xs.length
          · refine (months_day xs _ 2 (some ⟨b0, o0, none⟩) c (by omega) (by omega) (by omega) HXN.out (.inr cD) _ _ hF2.out.d).mono ?_
            rintro e w' ⟨rfl, q, rfl⟩
            go_wp2_with fail
            go_ret
            exact ⟨rfl, HB2.out.trans ((ext_drewN _ q).mono HB2.out.size)⟩
          · by_cases cC : xs.any bad = true
            · have HCC := Lib.hid cC
              clear cC
              refine (months_coin xs _ 2 (some ⟨b0, o0, none⟩) c (by omega) (by omega) (by omega) HXN.out (by omega) (by omega) HCC.out _ _ hR2.out hF2.out.c).mono ?_
              rintro e w' ⟨rfl, q, rfl⟩
              go_wp2_with fail
              go_ret
              exact ⟨rfl, HB2.out.trans ((ext_drewN _ q).mono HB2.out.size)⟩
            · have hco : ∀ x ∈ xs, -1000000000000 ≤ x ∧ x ≤ 1000000000000 := by
                intro x hx
                have : bad x = false := by
                  cases e : bad x with
                  | false => rfl
                  | true => exact absurd (List.any_eq_true.2 ⟨x, hx, e⟩) cC
                unfold bad at this
                simp at this
                omega
              have HCO := Lib.hid hco
              clear hco cC
              refine (months_ok xs _ 2 (some ⟨b0, o0, none⟩) c hc HXN.out ⟨by omega, by omega, by omega, by omega, by omega, HCO.out⟩ _ hR2.out).mono ?_
              rintro e w3 ⟨all, Aa, ca, rfl, hma, hra, hca, hb3⟩
              obtain ⟨p, rest, rfl, hmp, hmr⟩ := split_plain HV.out (by omega) hma
              have HB3 := Lib.hid (HB2.out.trans (hb3.mono HB2.out.size))
              have hR3 := Lib.hid (HR.out.ext HB3.out)
              have HRA := Lib.hid hra
              have HMP := Lib.hid hmp
              have HMR := Lib.hid hmr
              clear hma hra hmp hmr hb3 hR2 hF2
              go_wp2_with fail
              rw [show num y m 1 + dim y m - num y m 1 = (k : Int) from by have := HK.out; omega, Int.toNat_natCast]
              have hkl : k ≤ xs.length := by have := HK.out; omega
              have htl : (xs.take k).length = k := by rw [List.length_take]; omega
              have hMx := months_ok (xs.take k) (num y m 1) 2 (some ⟨b0, o0, none⟩) c (by omega) (by intro e; have := congrArg List.length e; rw [htl] at this; simp at this; omega) ⟨by omega, by omega, by omega, by omega, by omega, fun x hx => HCO.out x (List.mem_of_mem_take hx)⟩ w3 (by have := hR3.out.take k; rwa [ints, ← List.map_take] at this)
              rw [htl] at hMx
              have HMx := Lib.hid hMx
              clear hMx htl
              refine HMx.out.mono ?_
              rintro e w4 ⟨px, Ax, cx, rfl, hmx, hrx, hcx, hb4⟩
              have ex := MonthsR.unique hmx (by have := HMP.out; rwa [show (dim y m).toNat = k by have := HK.out; omega] at this)
              subst ex
              have HB4 := Lib.hid (HB3.out.trans (hb4.mono HB3.out.size))
              have hR4 := Lib.hid (HR.out.ext HB4.out)
              have HRA4 := Lib.hid (HRA.out.ext hb4)
              have HRX := Lib.hid hrx
              clear hmx hrx hb4 hR3 HRA HMx
              have hca1 : rest.length + 1 ≤ ca := hca
              have hcx1 : 1 ≤ cx := hcx
              clear hca hcx
              by_cases hkl2 : k < xs.length
              · have hdl : (xs.drop k).length = xs.length - k := List.length_drop
                have hMy := months_ok (xs.drop k) (num y m 1 + dim y m) 2 (some ⟨b0, o0 + k, none⟩) (c - k) (by omega) (by intro e; have := congrArg List.length e; rw [hdl] at this; simp at this; omega) ⟨by omega, by omega, by omega, by omega, by have := HK.out; omega, fun x hx => HCO.out x (List.mem_of_mem_drop hx)⟩ w4 (by have := hR4.out.drop k; rw [show (ints xs).drop k = ints (xs.drop k) by simp [ints, List.map_drop]] at this; simpa [Addr.add_lit] using this)
                rw [hdl] at hMy
                have HMy := Lib.hid hMy
                clear hMy hdl
                go_wp2_with fail
                refine HMy.out.mono ?_
                rintro e w5 ⟨py, Ay, cy, rfl, hmy, hry, hcy, hb5⟩
                have ey := MonthsR.unique hmy (by have := HMR.out; rwa [show (dim y m).toNat = k by have := HK.out; omega] at this)
                subst ey
                have HB5 := Lib.hid (HB4.out.trans (hb5.mono HB4.out.size))
                have HRA5 := Lib.hid (HRA4.out.ext hb5)
                have HRX5 := Lib.hid (HRX.out.ext hb5)
                have HRY := Lib.hid hry
                clear hmy hry hb5 HMy
                obtain ⟨ba, oa, rfl, ra0, ra1, ra2⟩ := one_row HRA5.out
                obtain ⟨bx, ox, rfl, rx0, rx1, rx2⟩ := one_row HRX5.out
                have hlen : ((py.length : Int) + 1 != 1 + (py.length : Int)) = false := by simp; omega
                go_wp2_with fail
                have hpl : py.length ≤ xs.length := by
                  have := len_months HMR.out
                  rw [List.length_drop] at this
                  omega
                have hlw : IntKind.i64.wrap (1 + (py.length : Int)) = 1 + py.length := IntWalk.i64_in _ (by omega)
                go_quiet (fail)
                clear ra0 ra1 ra2 rx0 rx1 rx2 hlen hlw
                go_wp2_with fail
                go_loopw [22] (fun i wr => ∃ (q j : Nat), wr = w5.drewN q ∧ j ≤ py.length ∧ i = .int .i64 j) (fun i _ => (py.length - intOf i).toNat)
                case atStart => exact ⟨nq, 0, rfl, by omega, rfl⟩
                case round =>
                  obtain ⟨q, j, rfl, hj, rfl⟩ := hrel
                  by_cases hlt : j < py.length
                  · obtain ⟨b1, o1, e1, r1⟩ := HRA5.out.row payCells_len (k := j + 1) (by simp; omega) (by omega)
                    obtain ⟨b2, o2, rfl, r2⟩ := HRY.out.row payCells_len (k := j) (by omega) (by omega)
                    cases e1
                    have s0 := r1 0 _ rfl
                    have s1 := r1 1 _ rfl
                    have s2 := r1 2 _ rfl
                    have t0 := r2 0 _ rfl
                    have t1 := r2 1 _ rfl
                    have t2 := r2 2 _ rfl
                    simp only [List.getElem_cons_succ, ← Nat.add_assoc, Nat.add_zero] at s0 s1 s2 t0 t1 t2
                    clear r1 r2
                    have hjw : IntKind.i64.wrap ((j : Int) + 1) = j + 1 := IntWalk.i64_in _ (by omega)
                    have hcl : (j : Int) < py.length := by omega
                    go_wp2_with fail
                    go_quiet (fail)
                    clear s0 s1 s2 t0 t1 t2 hjw
                    go_wp2_with fail
                    go_roundw
                    case rel => exact ⟨q + nq, j + 1, rfl, by omega, by simp⟩
                    case measure => simp [intOf]; omega
                  · have hcl : ¬ (j : Int) < py.length := by omega
                    go_wp2_with fail
                    go_ret
                    exact ⟨rfl, HB5.out.trans ((ext_drewN _ q).mono HB5.out.size)⟩
              · have hkl3 : k = xs.length := by omega
                have hre : rest = [] := by
                  have h := len_months HMR.out
                  rw [List.length_drop] at h
                  exact List.eq_nil_of_length_eq_zero (by have := HK.out; omega)
                subst hre
                obtain ⟨ba, oa, rfl, ra0, ra1, ra2⟩ := one_row HRA4.out
                obtain ⟨bx, ox, rfl, rx0, rx1, rx2⟩ := one_row HRX.out
                go_wp2_with fail
                all_goals
                  refine (months_none _ 2 _ _ (by omega) (by omega) _).mono ?_
                  rintro e w' ⟨rfl, rfl⟩
                  go_wp2_with fail
                  go_quiet (fail)
                  clear ra0 ra1 ra2 rx0 rx1 rx2
                  go_wp2_with fail
                  go_loopw [22] (fun i wr => wr = w4.drewN nq ∧ i = .int .i64 0) (fun i _ => 0)
                  case atStart => exact ⟨rfl, rfl⟩
                  case round =>
                    obtain ⟨rfl, rfl⟩ := hrel
                    go_wp2_with fail
                    go_ret
                    exact ⟨rfl, HB4.out.trans ((ext_drewN _ nq).mono HB4.out.size)⟩
end Go.Proofs.YtipbmpakdcmdoaaDoor.SumsSplit

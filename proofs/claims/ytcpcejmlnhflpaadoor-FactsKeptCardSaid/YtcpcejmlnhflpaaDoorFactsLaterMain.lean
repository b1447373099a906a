/- FactsLater: the law's walk. -/
import Derived.Test.YtcpcejmlnhflpaaDoorFkN
namespace Go.Proofs.YtcpcejmlnhflpaaDoor.FactsLater
open Go.RowKit Mem Nest Err App Go.Sort Fk

def LawPost (w : World) (e : Ending) (w' : World) : Prop := e = .returned (.bool true) ∧ Below w.heap.size w w'
theorem early_len (kn : Int) (l : List Fa) : (earlyF kn l).length ≤ l.length := List.length_filter_le _ _
theorem oth40 (wh : Int) (nm : List UInt8) (on kn : Int) (l : List Fa) : (othersF wh nm on kn l).length ≤ 100000 := by
  unfold othersF
  have := oth_len (fun o => standsB (bestF wh nm on kn o l)) 40
  omega
theorem early_sub {kn : Int} {l : List Fa} {P : Fa → Prop} (h : ∀ x ∈ l, P x) : ∀ x ∈ earlyF kn l, P x := fun x hx => h x (List.mem_filter.1 hx).1
set_option maxRecDepth 20000 in
set_option maxHeartbeats 8000000 in
theorem walk (l : List Fa) (hl : l.length ≤ 9223372036854775807) (LA : Option Addr) (lc : Nat) (A : Nat → Addr) (wh : Int) (nm : List UInt8) (on kn : Int) (w : World) (hE : Errs w A) (hL : Rd w LA (l.flatMap faC)) :
    Calls Tryd.prog 3 #[.slice LA l.length lc, .int .i64 wh, .string ⟨nm.toArray⟩, .int .i64 on, .int .i64 kn] w (LawPost w) := by
  have HE := Lib.hid hE
  have HL := Lib.hid hL
  obtain ⟨i0, hi, hz0, hz1, hz2⟩ := info_parts rfact_info
  have HI := Lib.hid hi
  have HZ0 := Lib.hid hz0
  have HZ1 := Lib.hid hz1
  have HZ2 := Lib.hid hz2
  clear hE hL hi hz0 hz1 hz2
  go_enter Tryd.func3, Tryd.ntmps3
  go_wp2_with fail
  refine (few_facts l LA lc _ HL.out hl).mono ?_
  rintro e w1 ⟨rfl, hb1⟩
  have HB1 := Lib.hid hb1
  clear hb1
  obtain ⟨fw, hfw⟩ : ∃ fw, fewF l = fw := ⟨_, rfl⟩
  rw [hfw]
  have HFW := Lib.hid hfw
  clear hfw
  go_wp2_with fail
  refine (files_any [] (by simp) (fun x h => by cases h) none 0 A _ (HE.out.below HB1.out) Rd.nil).mono ?_
  rintro e w2 ⟨a0, b0, rfl, _, _, hb2⟩
  have HB2 := Lib.hid (ext_trans HB1.out hb2)
  clear hb2
  by_cases hgo : fw = true ∧ nm.length ≤ 3000 ∧ l.length ≤ 400
  · obtain ⟨rfl, hnl, hl4⟩ := hgo
    have hnc : ¬ (3000 : Int) < (nm.length : Int) := by omega
    have hlc4 : ¬ (400 : Int) < (l.length : Int) := by omega
    have hfew := HFW.out
    unfold fewF at hfew
    rw [Bool.and_eq_true, List.all_eq_true, decide_eq_true_eq] at hfew
    have HN5 := Lib.hid (show ∀ x ∈ l, x.name.length ≤ 100 from fun x hx => by simpa using hfew.1 x hx)
    clear hfew
    go_wp2_with fail
    refine (files_any l (by omega) HN5.out LA lc A _ (HE.out.below HB2.out) (HL.out.ext HB2.out)).mono ?_
    rintro e w3 ⟨pa, pb, rfl, hfa, _, hb3⟩
    have HB3 := Lib.hid (ext_trans HB2.out hb3)
    obtain ⟨A1, c1, hr1⟩ := hfa.fr
    have HR1 := Lib.hid hr1
    clear hfa hr1 hb3
    go_wp2_with fail
    go_loopw [15, 16] (fun t15 t16 wr => ∃ i : Nat, t16 = .int .i64 i ∧ i ≤ l.length ∧ Hid (Below w3.heap.size w3 wr) ∧ Hid (wr.ownsRow w3.heap.size 29 7 t15 (earlyF kn (l.take i)).length ((earlyF kn (l.take i)).flatMap faC))) (fun _ t16 _ => l.length - (intOf t16).toNat)
    case atStart => exact ⟨0, rfl, Nat.zero_le _, Below.refl _ _, World.ownsRow_nil _ _ _ _⟩
    case round =>
      obtain ⟨i, rfl, hi, HB, HO⟩ := hrel
      by_cases hlt : i < l.length
      · have hltc : (i : Int) < (l.length : Int) := by omega
        have HTK := Lib.hid (early_take (kn := kn) hlt)
        have hel : (earlyF kn (l.take i)).length ≤ i := by
          have := early_len kn (l.take i)
          rw [List.length_take] at this
          omega
        obtain ⟨fb, fo, rfl, r0, r1, r2, r3, r4, r5, r6⟩ := fact_at (HL.out.ext (ext_trans HB3.out HB.out)) hlt
        generalize earlyF kn (l.take i) = R at HO HTK hel
        generalize l[i] = x at r0 r1 r2 r3 r4 r5 r6 HTK
        obtain ⟨xw, xn, xo, xv, xf, xt, xl⟩ := x
        simp only at r0 r1 r2 r3 r4 r5 r6 HTK
        by_cases hk : xl ≤ kn
        · have HK := Lib.hid (HTK.out.trans (by rw [if_pos hk]))
          clear HTK
          go_wp2_with (at_builtin; refine wpList_append_own _ rfl _ _ _ rfl w3.heap.size 29 i0 _ 7 64 Tryd.underlying22 HI.out HZ0.out HZ1.out HZ2.out rfl (by omega) u15 R.length _ rfl (World.ownsRow.alloc HO.out _) ⟨wr.heap.size, 0, none⟩ 1 1 (faC ⟨xw, xn, xo, xv, xf, xt, xl⟩) rfl rfl (new_cells wr (faC ⟨xw, xn, xo, xv, xf, xt, xl⟩) _ _ rfl) (faC_one _) (by simp only [maxLen]; omega) (by omega) (by have := HB.out.size; simp; omega) ?_; intro v1 w5 hown hg _; have HO2 := Lib.hid hown; have HB2x := Lib.hid (Below.grown (ext_trans HB.out (ext_alloc wr _)) hg (by have := HB.out.size; simp; omega) (fun g hg => (HO.out.lt g hg).1)); clear hown hg)
          go_roundw
          case rel =>
            refine ⟨i + 1, by go_num, by omega, HB2x.out, ?_⟩
            have ho := HO2.out
            show World.ownsRow _ _ _ _ _ _ _
            rw [HK.out]
            simpa using ho
          case measure => simp [intOf] <;> omega
        · have HK := Lib.hid (HTK.out.trans (by rw [if_neg hk, List.append_nil]))
          clear HTK
          go_wp2_with fail
          go_roundw
          case rel => exact ⟨i + 1, by go_num, by omega, HB.out, by show World.ownsRow _ _ _ _ _ _ _; rw [HK.out]; exact HO.out⟩
          case measure => simp [intOf] <;> omega
      · obtain rfl : l.length = i := by omega
        have hlc : ¬ (l.length : Int) < (l.length : Int) := by omega
        obtain ⟨A2, c2, rfl, _⟩ := own_slice HO.out
        have HEy := Lib.hid (show Rd wr A2 ((earlyF kn l).flatMap faC) by
          have h := Rd.of_own HO.out
          rw [List.take_length] at h
          exact h)
        have hel := early_len kn l
        have hne : (earlyF kn (l.take l.length)).length = (earlyF kn l).length := by rw [List.take_length]
        rw [hne]
        have HB4 := Lib.hid (ext_trans HB3.out HB.out)
        have HR4 := Lib.hid (HR1.out.ext HB.out)
        clear HO HB HR1 hne
        go_wp2_with fail
        refine (files_any (earlyF kn l) (by omega) (early_sub HN5.out) A2 c2 A _ (HE.out.below HB4.out) HEy.out).mono ?_
        rintro e w5 ⟨pc, pd, rfl, hfc, _, hb5⟩
        obtain ⟨A3, c3, hr3⟩ := hfc.fr
        rw [keep_early hl4] at hr3
        have HR3 := Lib.hid hr3
        have HB5 := Lib.hid (ext_trans HB4.out hb5)
        have HR5 := Lib.hid (HR4.out.ext hb5)
        have hk5 := keep_len _ l rfl
        have HKK := Lib.hid (keep_kept l)
        have HOO := Lib.hid (keep_oks l)
        obtain ⟨ls, hls⟩ : ∃ ls, ls = keepF l := ⟨_, rfl⟩
        rw [← hls] at HR3 HR5 hk5 HKK HOO
        clear hls hfc hb5 hr3 HR4 HEy hel
        have hk6 := early_len kn ls
        have HBE := Lib.hid (fun on => best_early wh nm on kn (-1) ls)
        go_wp2_with fail
        refine (pvalue_any ls hk5 HOO.out pa A1 c1 wh nm on kn _ HR5.out).mono ?_
        rintro e w6 ⟨rfl, hb6⟩
        have HB6 := Lib.hid (ext_trans HB5.out hb6)
        have HR6 := Lib.hid (HR5.out.ext hb6)
        have HR7 := Lib.hid (HR3.out.ext hb6)
        clear hb6 HR5 HR3
        go_wp2_with fail
        refine (pvalue_any (earlyF kn ls) (by omega) (early_sub HOO.out) pc A3 c3 wh nm on kn _ HR7.out).mono ?_
        rintro e w7 ⟨rfl, hb7⟩
        have HB7 := Lib.hid (ext_trans HB6.out hb7)
        have HR8 := Lib.hid (HR6.out.ext hb7)
        clear hb7 HR6 HR7
        rw [show bestF wh nm on kn (-1) (earlyF kn ls) = bestF wh nm on kn (-1) ls from HBE.out on]
        obtain ⟨vv, hvv⟩ : ∃ vv, vv = valF (bestF wh nm on kn (-1) ls) := ⟨_, rfl⟩
        rw [← hvv]
        have HVV := Lib.hid hvv
        clear hvv
        obtain ⟨v, b⟩ := vv
        have q0 : (v != v) = false := by simp
        have q1 : (b != b) = false := by simp
        go_wp2_with fail
        refine (pturns_any ls hk5 pa A1 c1 wh kn _ HR8.out).mono ?_
        rintro e w8 ⟨A4, c4, rfl, hs8, hb8⟩
        have HB8 := Lib.hid (ext_trans HB7.out hb8)
        have HR9 := Lib.hid (HR8.out.ext hb8)
        have HS8 := Lib.hid hs8
        obtain ⟨ts, hts⟩ : ∃ ts, ts = turnsF wh kn ls := ⟨_, rfl⟩
        have htl : ts.length ≤ 1000 := by
          have h1 := days_len (turnsR wh kn ls)
          have h2 := turnsR_len wh kn ls
          rw [hts]
          unfold turnsF
          omega
        rw [← hts] at HS8 ⊢
        have HTS := Lib.hid hts
        clear hts hs8 hb8 HR8
        go_wp2_with fail
        go_loopw [25, 26] (fun t25 t26 wr => ∃ i : Nat, t26 = .int .i64 i ∧ t25 = .int .i64 (lastF (ts.take i) on) ∧ i ≤ ts.length ∧ wr = w8) (fun _ t26 _ => ts.length - (intOf t26).toNat)
        case atStart => exact ⟨0, rfl, rfl, Nat.zero_le _, rfl⟩
        case round =>
          obtain ⟨i, rfl, rfl, hi, rfl⟩ := hrel
          by_cases hlt : i < ts.length
          · have hltc : (i : Int) < (ts.length : Int) := by omega
            have HTK := Lib.hid (last_take (on := on) hlt)
            obtain ⟨xb, xo, rfl, r0⟩ := HS8.out.rd.int hlt
            generalize lastF (ts.take i) on = z at HTK
            generalize ts[i] = d at r0 HTK
            by_cases hd : d ≤ on
            · have HK := Lib.hid (HTK.out.trans (if_pos hd))
              clear HTK
              go_wp2_with fail
              go_roundw
              case rel => exact ⟨i + 1, by go_num, by rw [HK.out], by omega, trivial⟩
              case measure => simp [intOf] <;> omega
            · have HK := Lib.hid (HTK.out.trans (if_neg hd))
              clear HTK
              go_wp2_with fail
              go_roundw
              case rel => exact ⟨i + 1, by go_num, by rw [HK.out], by omega, trivial⟩
              case measure => simp [intOf] <;> omega
          · obtain rfl : ts.length = i := by omega
            have hlc : ¬ (ts.length : Int) < (ts.length : Int) := by omega
            by_cases ho : on < 1
            · go_wp2_with fail
              go_ret
              exact ⟨rfl, HB8.out⟩
            · have h1 : 1 ≤ on := by omega
              have HLB := Lib.hid (best_last (w := wh) (n := nm) (on := on) (kn := kn) (o := -1) (l := ls) h1)
              have HLO := Lib.hid (others_last (w := wh) (n := nm) (on := on) (kn := kn) (l := ls) h1)
              rw [← HTS.out] at HLB HLO
              rw [List.take_length]
              generalize lastF ts on = z at HLB HLO
              clear h1
              go_wp2_with fail
              refine (pvalue_any ls hk5 HOO.out pa A1 c1 wh nm z kn _ HR9.out).mono ?_
              rintro e wa ⟨rfl, hba⟩
              have HBA := Lib.hid (ext_trans HB8.out hba)
              have HRA := Lib.hid (HR9.out.ext hba)
              clear hba HR9 HS8
              rw [HLB.out, ← HVV.out]
              go_wp2_with fail
              refine (pothers_any ls hk5 HOO.out HKK.out pa A1 c1 wh nm on kn _ HRA.out).mono ?_
              rintro e wb ⟨A5, c5, rfl, hs5, hbb⟩
              have HBB := Lib.hid (ext_trans HBA.out hbb)
              have HRB := Lib.hid (HRA.out.ext hbb)
              have HS5 := Lib.hid hs5
              clear hs5 hbb HRA
              go_wp2_with fail
              refine (pothers_any ls hk5 HOO.out HKK.out pa A1 c1 wh nm z kn _ HRB.out).mono ?_
              rintro e wc ⟨A6, c6, rfl, hs6, hbc⟩
              have HBC := Lib.hid (ext_trans HBB.out hbc)
              have HS5 := Lib.hid (HS5.out.ext hbc)
              rw [HLO.out] at hs6 ⊢
              have HS6 := Lib.hid hs6
              have h40 := oth40 wh nm on kn ls
              generalize othersF wh nm on kn ls = os at HS5 HS6 h40
              clear hs6 hbc HRB
              go_wp2_with fail
              refine (same_ints os os A5 A6 c5 c6 _ HS5.out HS6.out h40).mono ?_
              rintro e wd ⟨rfl, hbd⟩
              have HBD := Lib.hid (ext_trans HBC.out hbd)
              rw [show decide (os = os) = true from decide_eq_true rfl]
              clear hbd
              have q2 : (v == v) = true := by simp
              have q3 : (b == b) = true := by simp
              go_wp2_with fail
              go_ret
              exact ⟨rfl, HBD.out⟩
  · cases fw with
    | false =>
      go_wp2_with fail
      go_ret
      exact ⟨rfl, HB2.out⟩
    | true =>
      by_cases hn : nm.length ≤ 3000
      · have hnc : ¬ (3000 : Int) < (nm.length : Int) := by omega
        have hlc : (400 : Int) < (l.length : Int) := by
          have : ¬ l.length ≤ 400 := fun h => hgo ⟨rfl, hn, h⟩
          omega
        clear hgo
        go_wp2_with fail
        go_ret
        exact ⟨rfl, HB2.out⟩
      · have hnc : (3000 : Int) < (nm.length : Int) := by omega
        clear hgo
        go_wp2_with fail
        go_ret
        exact ⟨rfl, HB2.out⟩
end Go.Proofs.YtcpcejmlnhflpaaDoor.FactsLater

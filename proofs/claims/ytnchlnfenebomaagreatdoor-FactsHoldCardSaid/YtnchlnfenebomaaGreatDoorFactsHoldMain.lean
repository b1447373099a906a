/- FactsHold: the law's walk. -/
import Derived.Test.YtnchlnfenebomaaGreatDoorHdW
import Derived.Test.YtnchlnfenebomaaGreatDoorFkK2
import Derived.Test.YtnchlnfenebomaaGreatDoorFactsLaterMain
namespace Go.Proofs.YtnchlnfenebomaaGreatDoor.FactsHold
open Go.RowKit Mem Nest Err Fk FactsLater Hd

theorem ask_ok {q : Hd.Ask} (hq : Okq q) (d : Nat) (x : Nd) (who : Int) : (askH d q x who).2 = 0 ∨ (askH d q x who).2 = 3 ∨ (askH d q x who).2 = 9 := by
  unfold askH
  split
  · rcases evH_ok hq d x who with h | ⟨_, h⟩
    · exact .inl h
    · exact .inr h
  · exact .inr (.inr rfl)
theorem ask_okS {q : Hd.Ask} (hq : Okq q) (d : Nat) (x : Nd) (who : Int) : (askS d q x who).2 = 0 ∨ (askS d q x who).2 = 3 ∨ (askS d q x who).2 = 9 := by
  unfold askS
  split
  · rcases (evS_ok hq d x who).2 with h | ⟨_, h⟩
    · exact .inl h
    · exact .inr h
  · exact .inr (.inr rfl)
theorem coded3_nine (A : Nat → Addr) (w : World) (hE : Errs w A) :
    Calls Tryz.prog 12 #[Coin.partE 9 (sentV (A 2)) (sentV (A 8)), .int .i64 9] w fun e w' => e = .returned (.bool true) ∧ Below w.heap.size w w' :=
  (coded3_sent 8 (by omega) 9 A w hE).mono fun e w' ⟨h1, h2⟩ => ⟨h1, h2⟩
theorem askH_eq {q : Hd.Ask} {d : Nat} {x y : Nd} {who : Int} (h : Eqv d x y) : askH d q y who = askH d q x who := by
  unfold askH
  rw [evH_eq q d x y who h]
theorem askS_eq {q : Hd.Ask} {d : Nat} {x y : Nd} {who : Int} (h : Eqv d x y) : askS d q y who = askS d q x who := by
  unfold askS
  rw [evS_eq q d x y who h]
set_option maxRecDepth 20000 in
set_option maxHeartbeats 16000000 in
theorem hold_walk (l : List Fa) (hl : l.length ≤ 9223372036854775807) (LA : Option Addr) (lc : Nat) (A : Nat → Addr) (d : Nat) (k s : List UInt8) (n : Int) (NA : Option Addr) (c : Nat) (ns : List Nd) (wh on kn : Int) (w : World) (hE : Errs w A) (hL : Rd w LA (l.flatMap faC)) (hN : InW w (fun _ => False) (d + 1) (.mk k s n NA c ns)) :
    Calls Tryz.prog 3 #[.slice LA l.length lc, .agg #[.string ⟨k.toArray⟩, .string ⟨s.toArray⟩, .int .i64 n, .slice NA ns.length c], .int .i64 wh, .int .i64 on, .int .i64 kn] w (LawPost w) := by
  obtain ⟨W, hW⟩ : ∃ W, W = w.alloc (.cells (List.toArray [.string ⟨k.toArray⟩, .string ⟨s.toArray⟩, .int .i64 n, .slice NA ns.length c]) 25) := ⟨_, rfl⟩
  obtain ⟨B, hB⟩ : ∃ B, B = w.heap.size := ⟨_, rfl⟩
  have hbk := Blk.new w 25 [.string ⟨k.toArray⟩, .string ⟨s.toArray⟩, .int .i64 n, .slice NA ns.length c]
  have hx := ext_alloc w (.cells (List.toArray [.string ⟨k.toArray⟩, .string ⟨s.toArray⟩, .int .i64 n, .slice NA ns.length c]) 25)
  rw [← hW] at hx hbk
  rw [← hB] at hbk
  have HX := Lib.hid hx
  have HN := Lib.hid (hN.ext hx)
  have HE := Lib.hid (hE.below hx)
  have HL := Lib.hid (hL.ext hx)
  have y0 := hbk.cell 0 rfl
  have y1 := hbk.cell 1 rfl
  have y2 := hbk.cell 2 rfl
  have y3 := hbk.cell 3 rfl
  clear hbk hx hN hE hL
  go_enter Tryz.func3, Tryz.ntmps3
  go_upto_region 1 with fail
  rw [show w.alloc (.cells #[.string ⟨k.toArray⟩, .string ⟨s.toArray⟩, .int .i64 n, .slice NA ns.length c] 25) = W from hW.symm, ← hB]
  clear hW hB
  go_wp2_with fail
  refine (few_facts l LA lc _ HL.out hl).mono ?_
  rintro e w1 ⟨rfl, hb1⟩
  have HB1 := Lib.hid hb1
  clear hb1
  obtain ⟨fw, hfw⟩ : ∃ fw, fewF l = fw := ⟨_, rfl⟩
  rw [hfw]
  have HFW := Lib.hid hfw
  clear hfw
  have y0 := cell_ext HB1.out y0
  have y1 := cell_ext HB1.out y1
  have y2 := cell_ext HB1.out y2
  have y3 := cell_ext HB1.out y3
  have HF := Lib.hid (by have h := few_any _ (d + 1) (.mk k s n NA c ns) _ (HN.out.ext HB1.out); unfold ndV at h; exact h)
  go_wp2_with fail
  refine HF.out.mono ?_
  rintro e w2 ⟨fn, rfl, hb2, hsm⟩
  have HB2 := Lib.hid (ext_trans HB1.out hb2)
  have HSm := Lib.hid hsm
  have y0 := cell_ext hb2 y0
  have y1 := cell_ext hb2 y1
  have y2 := cell_ext hb2 y2
  have y3 := cell_ext hb2 y3
  clear hb2 hsm HF
  go_wp2_with fail
  refine (files_any [] (by simp) (fun x h => by cases h) none 0 A _ (HE.out.below HB2.out) Rd.nil).mono ?_
  rintro e w3 ⟨a0, b0, rfl, _, _, hb3⟩
  have HB3 := Lib.hid (ext_trans HB2.out hb3)
  have y0 := cell_ext hb3 y0
  have y1 := cell_ext hb3 y1
  have y2 := cell_ext hb3 y2
  have y3 := cell_ext hb3 y3
  clear hb3
  by_cases hgo : fw = true ∧ fn = true ∧ l.length ≤ 120
  · obtain ⟨rfl, rfl, h120⟩ := hgo
    have hnc : ¬ (120 : Int) < (l.length : Int) := by omega
    have hfew := HFW.out
    unfold fewF at hfew
    rw [Bool.and_eq_true, List.all_eq_true, decide_eq_true_eq] at hfew
    have HN5 := Lib.hid (show ∀ x ∈ l, x.name.length ≤ 100 from fun x hx => by simpa using hfew.1 x hx)
    have HSmall := Lib.hid (HSm.out rfl)
    clear hfew HSm
    go_wp2_with fail
    refine (files_any l (by omega) HN5.out LA lc A _ (HE.out.below HB3.out) (HL.out.ext HB3.out)).mono ?_
    rintro e w4 ⟨pa, pb, rfl, hfa, hfb, hb4⟩
    have HB4 := Lib.hid (ext_trans HB3.out hb4)
    have y0 := cell_ext hb4 y0
    have y1 := cell_ext hb4 y1
    have y2 := cell_ext hb4 y2
    have y3 := cell_ext hb4 y3
    obtain ⟨A1, c1, hr1⟩ := hfa.fr
    obtain ⟨A2, c2, hr2⟩ := hfb.fr
    obtain ⟨q, hq⟩ : ∃ q : Hd.Ask, q = ⟨keepF l, on, kn⟩ := ⟨_, rfl⟩
    have HOK := Lib.hid (show Okq q by rw [hq]; exact askq l on kn)
    have HOn := Lib.hid (show q.on = on by rw [hq])
    have HKn := Lib.hid (show q.kn = kn by rw [hq])
    have HLk := Lib.hid (show Lk A 149 q pa w4 from ⟨⟨A1, c1, by rw [hq]; exact hr1⟩, HE.out.below HB4.out⟩)
    have HLf := Lib.hid (show Lf q pb w4 from ⟨A2, c2, by rw [hq]; exact hr2⟩)
    clear hq hfa hfb hr1 hr2 hb4
    obtain ⟨g, hg⟩ : ∃ g, goodQ wh on kn = g := ⟨_, rfl⟩
    obtain ⟨r, hr⟩ : ∃ r, askH (d + 1) q (.mk k s n NA c ns) wh = r := ⟨_, rfl⟩
    obtain ⟨r', hr'⟩ : ∃ r, askS (d + 1) q (.mk k s n NA c ns) wh = r := ⟨_, rfl⟩
    have HRC := Lib.hid (show r.2 = 0 ∨ r.2 = 3 ∨ r.2 = 9 by rw [← hr]; exact ask_ok HOK.out _ _ _)
    have HSC := Lib.hid (show r'.2 = 0 ∨ r'.2 = 3 ∨ r'.2 = 9 by rw [← hr']; exact ask_okS HOK.out _ _ _)
    have HR := Lib.hid hr
    have HS := Lib.hid hr'
    have HRE := Lib.hid (show r = (if g = true then evH (d + 1) q (.mk k s n NA c ns) wh else (false, 9)) by rw [← hr, ← hg]; unfold askH; rw [HOn.out, HKn.out])
    have HSE := Lib.hid (show r' = (if g = true then evS (d + 1) q (.mk k s n NA c ns) wh else (0, 9)) by rw [← hr', ← hg]; unfold askS; rw [HOn.out, HKn.out])
    have HAC := Lib.hid (show askC wh on kn = (if g = true then 0 else 9) by rw [← hg]; rfl)
    clear hr hr' hg
    have bx := Blk.new w4 37 [.pointer (some ⟨pb, 0, none⟩), .int .i64 wh, .int .i64 on, .int .i64 kn, .slice none 0 0, .slice none 0 0, .slice none 0 0, .int .i64 4]
    have hx1 := ext_alloc w4 (.cells (List.toArray [.pointer (some ⟨pb, 0, none⟩), .int .i64 wh, .int .i64 on, .int .i64 kn, .slice none 0 0, .slice none 0 0, .slice none 0 0, .int .i64 4]) 37)
    obtain ⟨V, hV⟩ : ∃ V, V = w4.alloc (.cells (List.toArray [.pointer (some ⟨pb, 0, none⟩), .int .i64 wh, .int .i64 on, .int .i64 kn, .slice none 0 0, .slice none 0 0, .slice none 0 0, .int .i64 4]) 37) := ⟨_, rfl⟩
    obtain ⟨K, hK⟩ : ∃ K, K = w4.heap.size := ⟨_, rfl⟩
    rw [← hV] at bx hx1
    rw [← hK] at bx
    have HB5 := Lib.hid (ext_trans HB4.out hx1)
    have HBV := Lib.hid hx1
    have HLr := Lib.hid (show Lr q pb K wh V from ⟨by rw [HOn.out, HKn.out]; exact bx⟩)
    have HLk5 := Lib.hid (HLk.out.ext hx1)
    have HLf5 := Lib.hid (HLf.out.ext hx1)
    have z0 := cell_ext hx1 y0
    have z1 := cell_ext hx1 y1
    have z2 := cell_ext hx1 y2
    have z3 := cell_ext hx1 y3
    clear bx hx1 y0 y1 y2 y3
    cases g with
    | false =>
      have hac : askC wh on kn = 9 := HAC.out
      go_wp2_with fail
      refine (asked_any wh on kn _).mono ?_
      rintro e w' ⟨rfl, rfl⟩
      rw [hac]
      clear hac
      go_upto_region 11 with fail
      rw [show w'.alloc (.cells #[.pointer (some ⟨pb, 0, none⟩), .int .i64 wh, .int .i64 on, .int .i64 kn, .slice none 0 0, .slice none 0 0, .slice none 0 0, .int .i64 4] 37) = V from hV.symm, ← hK]
      clear hV hK
      have HFr := Lib.hid (by have h := from_any _ (d + 1) (.mk k s n NA c ns) _ (HN.out.ext HB5.out) HSmall.out; unfold ndV at h; exact h)
      go_wp2_with fail
      refine HFr.out.mono ?_
      rintro e wa ⟨x', rfl, hq', hb, hN'⟩
      have HV := Lib.hid hb
      have z0 := cell_ext hb z0
      have z1 := cell_ext hb z1
      have z2 := cell_ext hb z2
      have z3 := cell_ext hb z3
      have HH := Lib.hid (by have h := fholds_any HOK.out A pa _ (d + 1) x' wh r wa (by rw [askH_eq hq']; exact HR.out) hN' (HLk5.out.ext HV.out); rw [HOn.out, HKn.out] at h; exact h)
      clear hb hq' hN' HFr
      go_wp2_with fail
      refine HH.out.mono ?_
      rintro e wb ⟨he, hb⟩
      subst he
      have HV := Lib.hid (ext_trans HV.out hb)
      have z0 := cell_ext hb z0
      have z1 := cell_ext hb z1
      have z2 := cell_ext hb z2
      have z3 := cell_ext hb z3
      clear hb HH
      obtain rfl : r = (false, 9) := HRE.out
      obtain rfl : r' = (0, 9) := HSE.out
      dsimp only
      have HCo := Lib.hid (fun w (hE : Errs w A) => coded3_nine A w hE)
      go_wp2_with fail
      refine (HCo.out _ (HE.out.below (ext_trans HB5.out HV.out))).mono ?_
      rintro e wd ⟨rfl, hb⟩
      have HV := Lib.hid (ext_trans HV.out hb)
      have z0 := cell_ext hb z0
      have z1 := cell_ext hb z1
      have z2 := cell_ext hb z2
      have z3 := cell_ext hb z3
      clear hb HCo
      have HFr := Lib.hid (by have h := from_any _ (d + 1) (.mk k s n NA c ns) _ ((HN.out.ext HB5.out).ext HV.out) HSmall.out; unfold ndV at h; exact h)
      go_wp2_with fail
      refine HFr.out.mono ?_
      rintro e wa ⟨x', rfl, hq', hb, hN'⟩
      have HV := Lib.hid (ext_trans HV.out hb)
      have z0 := cell_ext hb z0
      have z1 := cell_ext hb z1
      have z2 := cell_ext hb z2
      have z3 := cell_ext hb z3
      have HH := Lib.hid (by have h := fsum_any HOK.out A pa _ (d + 1) x' wh (0, 9) wa (by rw [askS_eq hq']; exact HS.out) hN' (HLk5.out.ext HV.out); rw [HOn.out, HKn.out] at h; exact h)
      clear hb hq' hN' HFr
      go_wp2_with fail
      refine HH.out.mono ?_
      rintro e wb ⟨he, hb⟩
      subst he
      have HV := Lib.hid (ext_trans HV.out hb)
      have z0 := cell_ext hb z0
      have z1 := cell_ext hb z1
      have z2 := cell_ext hb z2
      have z3 := cell_ext hb z3
      clear hb HH
      dsimp only
      have HCo := Lib.hid (fun w (hE : Errs w A) => coded3_nine A w hE)
      go_wp2_with fail
      refine (HCo.out _ (HE.out.below (ext_trans HB5.out HV.out))).mono ?_
      rintro e wd ⟨rfl, hb⟩
      have HV := Lib.hid (ext_trans HV.out hb)
      have z0 := cell_ext hb z0
      have z1 := cell_ext hb z1
      have z2 := cell_ext hb z2
      have z3 := cell_ext hb z3
      clear hb HCo
      go_wp2_with fail
      go_ret
      exact ⟨rfl, ext_trans HX.out (ext_trans HB5.out HV.out)⟩
    | true =>
      have hac : askC wh on kn = 0 := HAC.out
      go_wp2_with fail
      refine (asked_any wh on kn _).mono ?_
      rintro e w' ⟨rfl, rfl⟩
      rw [hac]
      clear hac
      go_upto_region 11 with fail
      rw [show w'.alloc (.cells #[.pointer (some ⟨pb, 0, none⟩), .int .i64 wh, .int .i64 on, .int .i64 kn, .slice none 0 0, .slice none 0 0, .slice none 0 0, .int .i64 4] 37) = V from hV.symm, ← hK]
      clear hV hK
      have HFr := Lib.hid (by have h := from_any _ (d + 1) (.mk k s n NA c ns) _ (HN.out.ext HB5.out) HSmall.out; unfold ndV at h; exact h)
      go_wp2_with fail
      refine HFr.out.mono ?_
      rintro e wa ⟨x', rfl, hq', hb, hN'⟩
      have HV := Lib.hid hb
      have z0 := cell_ext hb z0
      have z1 := cell_ext hb z1
      have z2 := cell_ext hb z2
      have z3 := cell_ext hb z3
      have HH := Lib.hid (by have h := fholds_any HOK.out A pa _ (d + 1) x' wh r wa (by rw [askH_eq hq']; exact HR.out) hN' (HLk5.out.ext HV.out); rw [HOn.out, HKn.out] at h; exact h)
      clear hb hq' hN' HFr
      go_wp2_with fail
      refine HH.out.mono ?_
      rintro e wb ⟨he, hb⟩
      subst he
      have HV := Lib.hid (ext_trans HV.out hb)
      have z0 := cell_ext hb z0
      have z1 := cell_ext hb z1
      have z2 := cell_ext hb z2
      have z3 := cell_ext hb z3
      clear hb HH
      have HRE := Lib.hid (show r = evH (d + 1) q (.mk k s n NA c ns) wh from HRE.out)
      have HSE := Lib.hid (show r' = evS (d + 1) q (.mk k s n NA c ns) wh from HSE.out)
      obtain ⟨b, cc⟩ := r
      obtain ⟨sm, sc⟩ := r'
      dsimp only
      have HT := Lib.hid (by have h := truth_any HOK.out pb _ (d + 1) (.mk k s n NA c ns) wh K wb ((HN.out.ext HB5.out).ext HV.out) (HLr.out.ext HV.out) (HLf5.out.ext HV.out); rw [← HRE.out] at h; unfold ndV at h; exact h)
      go_wp2_with fail
      refine HT.out.mono ?_
      rintro e wc ⟨he, hb⟩
      subst he
      have HV := Lib.hid (ext_trans HV.out hb)
      have z0 := cell_ext hb z0
      have z1 := cell_ext hb z1
      have z2 := cell_ext hb z2
      have z3 := cell_ext hb z3
      clear hb HT
      dsimp only
      have HCo := Lib.hid (fun w (hE : Errs w A) => coded3_part A cc HRC.out w hE)
      go_wp2_with fail
      refine (HCo.out _ (HE.out.below (ext_trans HB5.out HV.out))).mono ?_
      rintro e wd ⟨rfl, hb⟩
      have HV := Lib.hid (ext_trans HV.out hb)
      have z0 := cell_ext hb z0
      have z1 := cell_ext hb z1
      have z2 := cell_ext hb z2
      have z3 := cell_ext hb z3
      clear hb HCo
      have q0 : (b != b) = false := by simp
      have HFr := Lib.hid (by have h := from_any _ (d + 1) (.mk k s n NA c ns) _ ((HN.out.ext HB5.out).ext HV.out) HSmall.out; unfold ndV at h; exact h)
      go_wp2_with fail
      refine HFr.out.mono ?_
      rintro e wa ⟨x', rfl, hq', hb, hN'⟩
      have HV := Lib.hid (ext_trans HV.out hb)
      have z0 := cell_ext hb z0
      have z1 := cell_ext hb z1
      have z2 := cell_ext hb z2
      have z3 := cell_ext hb z3
      have HH := Lib.hid (by have h := fsum_any HOK.out A pa _ (d + 1) x' wh (sm, sc) wa (by rw [askS_eq hq']; exact HS.out) hN' (HLk5.out.ext HV.out); rw [HOn.out, HKn.out] at h; exact h)
      clear hb hq' hN' HFr
      go_wp2_with fail
      refine HH.out.mono ?_
      rintro e wb ⟨he, hb⟩
      subst he
      have HV := Lib.hid (ext_trans HV.out hb)
      have z0 := cell_ext hb z0
      have z1 := cell_ext hb z1
      have z2 := cell_ext hb z2
      have z3 := cell_ext hb z3
      clear hb HH
      dsimp only
      have HT := Lib.hid (by have h := rsum_any HOK.out pb _ (d + 1) (.mk k s n NA c ns) wh K wb ((HN.out.ext HB5.out).ext HV.out) (HLr.out.ext HV.out) (HLf5.out.ext HV.out); rw [← HSE.out] at h; unfold ndV at h; exact h)
      go_wp2_with fail
      refine HT.out.mono ?_
      rintro e wc ⟨he, hb⟩
      subst he
      have HV := Lib.hid (ext_trans HV.out hb)
      have z0 := cell_ext hb z0
      have z1 := cell_ext hb z1
      have z2 := cell_ext hb z2
      have z3 := cell_ext hb z3
      clear hb HT
      dsimp only
      have HCo := Lib.hid (fun w (hE : Errs w A) => coded3_part A sc HSC.out w hE)
      go_wp2_with fail
      refine (HCo.out _ (HE.out.below (ext_trans HB5.out HV.out))).mono ?_
      rintro e wd ⟨rfl, hb⟩
      have HV := Lib.hid (ext_trans HV.out hb)
      have z0 := cell_ext hb z0
      have z1 := cell_ext hb z1
      have z2 := cell_ext hb z2
      have z3 := cell_ext hb z3
      clear hb HCo
      have q1 : (sm == sm) = true := by simp
      go_wp2_with fail
      go_ret
      exact ⟨rfl, ext_trans HX.out (ext_trans HB5.out HV.out)⟩
  · cases fw with
    | false =>
      go_wp2_with fail
      go_ret
      exact ⟨rfl, ext_trans HX.out HB3.out⟩
    | true =>
      cases fn with
      | false =>
        go_wp2_with fail
        go_ret
        exact ⟨rfl, ext_trans HX.out HB3.out⟩
      | true =>
        have hnc : (120 : Int) < (l.length : Int) := by
          have : ¬ l.length ≤ 120 := fun h => hgo ⟨rfl, rfl, h⟩
          omega
        clear hgo
        go_wp2_with fail
        go_ret
        exact ⟨rfl, ext_trans HX.out HB3.out⟩
end Go.Proofs.YtnchlnfenebomaaGreatDoor.FactsHold

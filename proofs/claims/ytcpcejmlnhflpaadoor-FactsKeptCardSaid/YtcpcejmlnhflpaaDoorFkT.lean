/- Facts: the document's turns. -/
import Derived.Test.YtcpcejmlnhflpaaDoorFkJ
namespace Go.Proofs.YtcpcejmlnhflpaaDoor.Fk
open Go.RowKit Mem Nest Err App

theorem turns_no {who kn : Int} {x : Fa} (h : kn < x.learnt ∨ (0 ≤ who ∧ x.who ≠ who)) : turnsOf who kn x = [] := by unfold turnsOf; rw [if_pos h]
theorem turns_one {who kn : Int} {x : Fa} (h : ¬ (kn < x.learnt ∨ (0 ≤ who ∧ x.who ≠ who))) (h0 : x.to_ = 0) : turnsOf who kn x = [x.from_] := by unfold turnsOf; rw [if_neg h, if_neg (by simp [h0])]
theorem turns_two {who kn : Int} {x : Fa} (h : ¬ (kn < x.learnt ∨ (0 ≤ who ∧ x.who ≠ who))) (h0 : x.to_ ≠ 0) : turnsOf who kn x = [x.from_, x.to_] := by unfold turnsOf; rw [if_neg h, if_pos h0]
set_option maxRecDepth 20000 in
set_option maxHeartbeats 4000000 in
theorem rturns_any (l : List Fa) (hl : l.length ≤ 500) (b : Nat) (A : Option Addr) (c : Nat) (who kn : Int) (w : World) (hF : FR 39 w b A c l) :
    Calls Tryd.prog 16 #[.pointer (some ⟨b, 0, none⟩), .int .i64 who, .int .i64 kn] w (IntsPost (turnsF who kn l) w) := by
  have HF := Lib.hid hF
  clear hF
  go_enter Tryd.func16, Tryd.ntmps16
  go_wp2_with fail
  go_loopw [7, 8] (fun t7 t8 wr => ∃ (i : Nat) (zs : List Int) (A : Option Addr) (c : Nat), t8 = .int .i64 i ∧ i ≤ l.length ∧ t7 = .slice A zs.length c ∧ zs.length ≤ 2 * i ∧ Hid (zs = daysF (turnsR who kn (l.take i))) ∧ Hid (SL wr A c zs) ∧ Hid (Below w.heap.size w wr)) (fun _ t8 _ => l.length - (intOf t8).toNat)
  case atStart => exact ⟨0, [], none, 0, rfl, Nat.zero_le _, rfl, Nat.le_refl _, rfl, SL.empty _, Below.refl _ _⟩
  case round =>
    obtain ⟨i, zs, SA, sc, rfl, hi, rfl, hzi, HZ, HS, HB⟩ := hrel
    have HFr := Lib.hid (HF.out.ext HB.out)
    have c0 := HFr.out.1.cell 0 rfl
    by_cases hlt : i < l.length
    · have hltc : (i : Int) < (l.length : Int) := by omega
      have HRd := HFr.out.2
      obtain ⟨fb, fo, rfl, r0, r1, r2, r3, r4, r5, r6⟩ := fact_at HRd hlt
      have HTS := Lib.hid (turnsR_snoc (who := who) (kn := kn) hlt)
      obtain ⟨x, hx⟩ : ∃ x, x = l[i] := ⟨_, rfl⟩
      rw [← hx] at r0 r1 r2 r3 r4 r5 r6 HTS
      clear hx HRd
      obtain ⟨xw, xn, xo, xv, xf, xt, xl⟩ := x
      simp only at r0 r1 r2 r3 r4 r5 r6
      have bx := Blk.new wr 29 [.int .i64 xw, .string ⟨xn.toArray⟩, .int .i64 xo, .int .i64 xv, .int .i64 xf, .int .i64 xt, .int .i64 xl]
      have hx1 := ext_alloc wr (.cells (List.toArray [.int .i64 xw, .string ⟨xn.toArray⟩, .int .i64 xo, .int .i64 xv, .int .i64 xf, .int .i64 xt, .int .i64 xl]) 29)
      obtain ⟨W, hW⟩ : ∃ W, W = wr.alloc (.cells (List.toArray [.int .i64 xw, .string ⟨xn.toArray⟩, .int .i64 xo, .int .i64 xv, .int .i64 xf, .int .i64 xt, .int .i64 xl]) 29) := ⟨_, rfl⟩
      obtain ⟨K, hK⟩ : ∃ K, K = wr.heap.size := ⟨_, rfl⟩
      rw [← hW] at bx hx1
      rw [← hK] at bx
      have HB1 := Lib.hid (HB.out.trans (hx1.mono HB.out.size))
      have HS1 := Lib.hid (HS.out.ext hx1)
      have HBX := Lib.hid bx
      have k0 := bx.cell 0 rfl
      have k4 := bx.cell 4 rfl
      have k5 := bx.cell 5 rfl
      have k6 := bx.cell 6 rfl
      clear bx hx1
      go_upto_region 6 with fail
      rw [show wr.alloc (.cells #[.int .i64 xw, .string ⟨xn.toArray⟩, .int .i64 xo, .int .i64 xv, .int .i64 xf, .int .i64 xt, .int .i64 xl] 29) = W from hW.symm, ← hK]
      clear hW hK r0 r1 r2 r3 r4 r5 r6
      by_cases hkn : kn < xl
      · have HNO := Lib.hid (turns_no (who := who) (kn := kn) (x := (⟨xw, xn, xo, xv, xf, xt, xl⟩ : Fa)) (.inl hkn))
        have HK := Lib.hid (show zs = daysF (turnsR who kn (l.take (i + 1))) by rw [HTS.out, HNO.out, List.append_nil]; exact HZ.out)
        go_wp2_with fail
        go_roundw
        case rel => exact ⟨i + 1, zs, SA, sc, by go_num, by omega, rfl, by omega, HK.out, HS1.out, HB1.out⟩
        case measure => simp [intOf]; omega
      · by_cases hw0 : 0 ≤ who
        · by_cases hw : xw = who
          · have q1 : (xw == who) = true := by simp [hw]
            have q1b : (xw != who) = false := by simp [hw]
            have HGO := Lib.hid (show ¬ (kn < (⟨xw, xn, xo, xv, xf, xt, xl⟩ : Fa).learnt ∨ (0 ≤ who ∧ (⟨xw, xn, xo, xv, xf, xt, xl⟩ : Fa).who ≠ who)) from fun h => h.elim hkn (fun h => h.2 hw))
            clear hw
            have HI1 := Lib.hid (ins_len xf zs)
            go_wp2_with fail
            refine (insert_any zs (by omega) SA sc xf _ HS1.out).mono ?_
            obtain ⟨ys, hys⟩ : ∃ ys, ys = ins zs xf := ⟨_, rfl⟩
            rw [← hys] at HI1 ⊢
            have hyl : ys.length ≤ zs.length + 1 := HI1.out
            have HYS := Lib.hid hys
            clear hys HI1
            rintro e w1 ⟨A2, c2, rfl, hs, hb⟩
            have HS2 := Lib.hid hs
            have HB2 := Lib.hid (HB1.out.trans (hb.mono HB1.out.size))
            have hk2 := HBX.out.ext (hb.mono (show K + 1 ≤ _ from HBX.out.lt))
            have m5 := hk2.cell 5 rfl
            clear hs hb hk2 k0 k4 k5 k6
            by_cases ht : xt = 0
            · have q5 : (xt == 0) = true := by simp [ht]
              have q5b : (xt != 0) = false := by simp [ht]
              have HK := Lib.hid (show ys = daysF (turnsR who kn (l.take (i + 1))) by rw [HTS.out, turns_one HGO.out ht, days_snoc, ← HZ.out]; exact HYS.out)
              clear ht
              go_wp2_with fail
              go_roundw
              case rel => exact ⟨i + 1, ys, A2, c2, by go_num, by omega, rfl, by omega, HK.out, HS2.out, HB2.out⟩
              case measure => simp [intOf]; omega
            · have q5 : (xt == 0) = false := by simp [ht]
              have q5b : (xt != 0) = true := by simp [ht]
              have HK := Lib.hid (show ins ys xt = daysF (turnsR who kn (l.take (i + 1))) by
                rw [HTS.out, turns_two HGO.out ht]
                show _ = daysF (_ ++ [xf, xt])
                rw [show turnsR who kn (l.take i) ++ [xf, xt] = turnsR who kn (l.take i) ++ [xf] ++ [xt] by simp, days_snoc, days_snoc, ← HZ.out, ← HYS.out])
              have hil := ins_len xt ys
              clear ht
              go_wp2_with fail
              refine (insert_any ys (by omega) A2 c2 xt _ HS2.out).mono ?_
              obtain ⟨vs, hvs⟩ : ∃ vs, vs = ins ys xt := ⟨_, rfl⟩
              rw [← hvs] at HK hil ⊢
              clear hvs
              rintro e w2 ⟨A3, c3, rfl, hs, hb⟩
              have HS3 := Lib.hid hs
              have HB3 := Lib.hid (HB2.out.trans (hb.mono HB2.out.size))
              clear hs hb
              go_wp2_with fail
              go_roundw
              case rel => exact ⟨i + 1, vs, A3, c3, by go_num, by omega, rfl, by omega, HK.out, HS3.out, HB3.out⟩
              case measure => simp [intOf]; omega
          · have q1 : (xw == who) = false := by simp [hw]
            have q1b : (xw != who) = true := by simp [hw]
            have HNO := Lib.hid (turns_no (who := who) (kn := kn) (x := (⟨xw, xn, xo, xv, xf, xt, xl⟩ : Fa)) (.inr ⟨hw0, hw⟩))
            clear hw
            have HK := Lib.hid (show zs = daysF (turnsR who kn (l.take (i + 1))) by rw [HTS.out, HNO.out, List.append_nil]; exact HZ.out)
            go_wp2_with fail
            go_roundw
            case rel => exact ⟨i + 1, zs, SA, sc, by go_num, by omega, rfl, by omega, HK.out, HS1.out, HB1.out⟩
            case measure => simp [intOf]; omega
        · have HGO := Lib.hid (show ¬ (kn < (⟨xw, xn, xo, xv, xf, xt, xl⟩ : Fa).learnt ∨ (0 ≤ who ∧ (⟨xw, xn, xo, xv, xf, xt, xl⟩ : Fa).who ≠ who)) from fun h => h.elim hkn (fun h => hw0 h.1))
          have HI1 := Lib.hid (ins_len xf zs)
          go_wp2_with fail
          refine (insert_any zs (by omega) SA sc xf _ HS1.out).mono ?_
          obtain ⟨ys, hys⟩ : ∃ ys, ys = ins zs xf := ⟨_, rfl⟩
          rw [← hys] at HI1 ⊢
          have hyl : ys.length ≤ zs.length + 1 := HI1.out
          have HYS := Lib.hid hys
          clear hys HI1
          rintro e w1 ⟨A2, c2, rfl, hs, hb⟩
          have HS2 := Lib.hid hs
          have HB2 := Lib.hid (HB1.out.trans (hb.mono HB1.out.size))
          have hk2 := HBX.out.ext (hb.mono (show K + 1 ≤ _ from HBX.out.lt))
          have m5 := hk2.cell 5 rfl
          clear hs hb hk2 k0 k4 k5 k6
          by_cases ht : xt = 0
          · have q5 : (xt == 0) = true := by simp [ht]
            have q5b : (xt != 0) = false := by simp [ht]
            have HK := Lib.hid (show ys = daysF (turnsR who kn (l.take (i + 1))) by rw [HTS.out, turns_one HGO.out ht, days_snoc, ← HZ.out]; exact HYS.out)
            clear ht
            go_wp2_with fail
            go_roundw
            case rel => exact ⟨i + 1, ys, A2, c2, by go_num, by omega, rfl, by omega, HK.out, HS2.out, HB2.out⟩
            case measure => simp [intOf]; omega
          · have q5 : (xt == 0) = false := by simp [ht]
            have q5b : (xt != 0) = true := by simp [ht]
            have HK := Lib.hid (show ins ys xt = daysF (turnsR who kn (l.take (i + 1))) by
              rw [HTS.out, turns_two HGO.out ht]
              show _ = daysF (_ ++ [xf, xt])
              rw [show turnsR who kn (l.take i) ++ [xf, xt] = turnsR who kn (l.take i) ++ [xf] ++ [xt] by simp, days_snoc, days_snoc, ← HZ.out, ← HYS.out])
            have hil := ins_len xt ys
            clear ht
            go_wp2_with fail
            refine (insert_any ys (by omega) A2 c2 xt _ HS2.out).mono ?_
            obtain ⟨vs, hvs⟩ : ∃ vs, vs = ins ys xt := ⟨_, rfl⟩
            rw [← hvs] at HK hil ⊢
            clear hvs
            rintro e w2 ⟨A3, c3, rfl, hs, hb⟩
            have HS3 := Lib.hid hs
            have HB3 := Lib.hid (HB2.out.trans (hb.mono HB2.out.size))
            clear hs hb
            go_wp2_with fail
            go_roundw
            case rel => exact ⟨i + 1, vs, A3, c3, by go_num, by omega, rfl, by omega, HK.out, HS3.out, HB3.out⟩
            case measure => simp [intOf]; omega
    · obtain rfl : l.length = i := by omega
      have hlc : ¬ (l.length : Int) < (l.length : Int) := by omega
      have HE := Lib.hid (show turnsF who kn l = zs by rw [HZ.out, List.take_length]; rfl)
      go_wp2_with fail
      go_ret
      exact ⟨SA, sc, by rw [HE.out]; rfl, by rw [HE.out]; exact HS.out, HB.out⟩
end Go.Proofs.YtcpcejmlnhflpaaDoor.Fk

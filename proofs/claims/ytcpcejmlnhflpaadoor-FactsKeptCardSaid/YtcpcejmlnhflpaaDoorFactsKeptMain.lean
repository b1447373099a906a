/- FactsKept: the law's walk. -/
import Derived.Test.YtcpcejmlnhflpaaDoorFactsLaterMain
namespace Go.Proofs.YtcpcejmlnhflpaaDoor.FactsKept
open Go.RowKit Mem Nest Err App Go.Sort Fk FactsLater

theorem fact_in (l : List Fa) (hl : l.length ≤ 500) (b : Nat) (A : Option Addr) (c : Nat) {i : Nat} (hi : i < l.length) (w : World) (hF : FR 55 w b A c l) :
    Calls Tryd.prog 12 #[.pointer (some ⟨b, 0, none⟩), .int .i64 i] w (fun e w' => Below w.heap.size w w' ∧ e = .returned (.tuple #[.agg (faC l[i]).toArray, .bool true])) :=
  (fact_any l hl b A c i w hF).mono fun e w' ⟨hb, h⟩ => ⟨hb, by
    rcases h with ⟨_, hi, rfl⟩ | ⟨hno, _⟩
    · rfl
    · exact absurd ⟨by omega, by omega⟩ hno⟩
theorem fact_out (l : List Fa) (hl : l.length ≤ 500) (b : Nat) (A : Option Addr) (c : Nat) {k : Int} (hk : ¬ (0 ≤ k ∧ k < (l.length : Int))) (w : World) (hF : FR 55 w b A c l) :
    Calls Tryd.prog 12 #[.pointer (some ⟨b, 0, none⟩), .int .i64 k] w (fun e w' => Below w.heap.size w w' ∧ ∃ y, e = .returned (.tuple #[.agg (faC y).toArray, .bool false])) :=
  (fact_any l hl b A c k w hF).mono fun e w' ⟨hb, h⟩ => ⟨hb, by
    rcases h with ⟨h0, hi, rfl⟩ | ⟨_, h⟩
    · exact absurd ⟨h0, by omega⟩ hk
    · exact h⟩
theorem lfact_x (xw : Int) (xn : List UInt8) (xo xv xf xt xl : Int) (w : World) :
    Calls Tryd.prog 13 #[.agg #[.int .i64 xw, .string ⟨xn.toArray⟩, .int .i64 xo, .int .i64 xv, .int .i64 xf, .int .i64 xt, .int .i64 xl]] w fun e w' => e = .returned (.agg #[.int .i64 xw, .string ⟨xn.toArray⟩, .int .i64 xo, .int .i64 xv, .int .i64 xf, .int .i64 xt, .int .i64 xl]) ∧ Below w.heap.size w w' := lfact_any ⟨xw, xn, xo, xv, xf, xt, xl⟩ w
/-- the comparison of each kept fact -/
def KeptAt (n : Nat) (k : Int) : Prop := -1 ≤ k ∧ k ≤ (n : Int) + 1
set_option maxRecDepth 20000 in
set_option maxHeartbeats 16000000 in
theorem walk (l : List Fa) (hl : l.length ≤ 9223372036854775807) (LA : Option Addr) (lc : Nat) (A : Nat → Addr) (wh : Int) (nm : List UInt8) (on kn : Int) (w : World) (hE : Errs w A) (hL : Rd w LA (l.flatMap faC)) :
    Calls Tryd.prog 4 #[.slice LA l.length lc, .int .i64 wh, .string ⟨nm.toArray⟩, .int .i64 on, .int .i64 kn] w (LawPost w) := by
  have HE := Lib.hid hE
  have HL := Lib.hid hL
  clear hE hL
  go_enter Tryd.func4, Tryd.ntmps4
  go_wp2_with fail
  refine (few_facts l LA lc _ HL.out hl).mono ?_
  rintro e w1 ⟨rfl, hb1⟩
  have HB1 := Lib.hid hb1
  clear hb1
  obtain ⟨fw, hfw⟩ : ∃ fw, fewF l = fw := ⟨_, rfl⟩
  rw [hfw]
  have HFW := Lib.hid hfw
  clear hfw
  go_wp2_with fail
  refine (files_any [] (by simp) (fun x h => by cases h) none 0 A _ (HE.out.below HB1.out) Rd.nil).mono ?_
  rintro e w2 ⟨a0, b0, rfl, _, _, hb2⟩
  have HB2 := Lib.hid (ext_trans HB1.out hb2)
  clear hb2
  by_cases hgo : fw = true ∧ nm.length ≤ 3000
  · obtain ⟨rfl, hnl⟩ := hgo
    have hnc : ¬ (3000 : Int) < (nm.length : Int) := by omega
    have hfew := HFW.out
    unfold fewF at hfew
    rw [Bool.and_eq_true, List.all_eq_true, decide_eq_true_eq] at hfew
    have hl5 := hfew.2
    have HN5 := Lib.hid (show ∀ x ∈ l, x.name.length ≤ 100 from fun x hx => by simpa using hfew.1 x hx)
    clear hfew
    go_wp2_with fail
    refine (files_any l hl5 HN5.out LA lc A _ (HE.out.below HB2.out) (HL.out.ext HB2.out)).mono ?_
    rintro e w3 ⟨pa, pb, rfl, hfa, hfb, hb3⟩
    have HB3 := Lib.hid (ext_trans HB2.out hb3)
    obtain ⟨A1, c1, hr1⟩ := hfa.fr
    obtain ⟨A2, c2, hr2⟩ := hfb.fr
    have HR1 := Lib.hid hr1
    have HR2 := Lib.hid hr2
    have hk5 := keep_len _ l rfl
    have HKK := Lib.hid (keep_kept l)
    have HOO := Lib.hid (keep_oks l)
    obtain ⟨ls, hls⟩ : ∃ ls, ls = keepF l := ⟨_, rfl⟩
    rw [← hls] at HR1 HR2 hk5 HKK HOO
    clear hls hfa hfb hb3 hr1 hr2
    have HSz := Lib.hid (fun n => size_any ls pa A1 c1 (w3.drewN n) (HR1.out.ext (ext_drewN w3 n)))
    have d0 := HR2.out.1.cell 0 rfl
    have q0 : ((ls.length : Int) != (ls.length : Int)) = false := by simp
    go_wp2_with fail
    go_quiet ((go_at_call 11; exact Calls.quiet_of_same (HSz.out _)))
    clear d0 q0
    obtain ⟨W0, hW0⟩ : ∃ W0, W0 = w3.drewN nq := ⟨_, rfl⟩
    have hx0 : Below w3.heap.size w3 W0 := by rw [hW0]; exact ext_drewN _ _
    rw [← hW0]
    have HB4 := Lib.hid (ext_trans HB3.out hx0)
    have HR3 := Lib.hid (HR1.out.ext hx0)
    have HR4 := Lib.hid (HR2.out.ext hx0)
    clear hW0 hx0 HR1 HR2 HSz
    go_wp2_with fail
    go_loopw [15] (fun t15 wr => ∃ k : Int, t15 = .int .i64 k ∧ KeptAt ls.length k ∧ Hid (Below W0.heap.size W0 wr)) (fun t15 _ => (ls.length + 2 - intOf t15).toNat)
    case atStart => exact ⟨-1, rfl, ⟨by omega, by omega⟩, Below.refl _ _⟩
    case round =>
      obtain ⟨k, rfl, ⟨hk1, hk2⟩, HB⟩ := hrel
      have HBW := Lib.hid (ext_trans HB4.out HB.out)
      have HRA := Lib.hid (HR3.out.ext HB.out)
      have HRB := Lib.hid (HR4.out.ext HB.out)
      have d0 := HRB.out.1.cell 0 rfl
      by_cases hle : k ≤ (ls.length : Int)
      · by_cases hin : 0 ≤ k ∧ k < (ls.length : Int)
        · obtain ⟨h0, h1⟩ := hin
          obtain ⟨i, rfl⟩ : ∃ i : Nat, k = i := ⟨k.toNat, by omega⟩
          have hi : i < ls.length := by omega
          obtain ⟨fb, fo, rfl, r0, r1, r2, r3, r4, r5, r6⟩ := fact_at HRB.out.2 hi
          have hf := fact_in ls hk5 pa A1 c1 hi _ HRA.out
          generalize ls[i] = x at r0 r1 r2 r3 r4 r5 r6 hf
          have HF := Lib.hid hf
          clear hf
          obtain ⟨xw, xn, xo, xv, xf, xt, xl⟩ := x
          simp only at r0 r1 r2 r3 r4 r5 r6
          go_wp2_with fail
          refine HF.out.mono ?_
          rintro e w5 ⟨hb5, rfl⟩
          dsimp only [faC]
          have bx := Blk.new w5 40 [.int .i64 xw, .string ⟨xn.toArray⟩, .int .i64 xo, .int .i64 xv, .int .i64 xf, .int .i64 xt, .int .i64 xl]
          have hx1 := ext_alloc w5 (.cells (List.toArray [.int .i64 xw, .string ⟨xn.toArray⟩, .int .i64 xo, .int .i64 xv, .int .i64 xf, .int .i64 xt, .int .i64 xl]) 40)
          obtain ⟨W, hW⟩ : ∃ W, W = w5.alloc (.cells (List.toArray [.int .i64 xw, .string ⟨xn.toArray⟩, .int .i64 xo, .int .i64 xv, .int .i64 xf, .int .i64 xt, .int .i64 xl]) 40) := ⟨_, rfl⟩
          obtain ⟨K, hK⟩ : ∃ K, K = w5.heap.size := ⟨_, rfl⟩
          rw [← hW] at bx hx1
          rw [← hK] at bx
          have hxx := ext_trans hb5 hx1
          go_upto_region 12 with fail
          rw [show w5.alloc (.cells #[.int .i64 xw, .string ⟨xn.toArray⟩, .int .i64 xo, .int .i64 xv, .int .i64 xf, .int .i64 xt, .int .i64 xl] 40) = W from hW.symm, ← hK]
          clear hW hK
          have HBX := Lib.hid (ext_trans HB.out hxx)
          have e0 := cell_ext hxx d0
          have r0 := cell_ext hxx r0
          have r1 := cell_ext hxx r1
          have r2 := cell_ext hxx r2
          have r3 := cell_ext hxx r3
          have r4 := cell_ext hxx r4
          have r5 := cell_ext hxx r5
          have r6 := cell_ext hxx r6
          have m0 := bx.cell 0 rfl
          have m1 := bx.cell 1 rfl
          have m2 := bx.cell 2 rfl
          have m3 := bx.cell 3 rfl
          have m4 := bx.cell 4 rfl
          have m5 := bx.cell 5 rfl
          have m6 := bx.cell 6 rfl
          clear d0 bx hx1 hxx hb5 HF
          go_wp2_with fail
          have hNE := fun w => fact_neq_self xw xn xo xv xf xt xl w
          have hG := fact_guard
          have hdr := ext_drewN W 1
          go_region_held3 (fun w' => w'.cell? ⟨K, 0, none⟩ = some (.int .i64 xw) ∧ w'.cell? ⟨K, 1, none⟩ = some (.string ⟨xn.toArray⟩) ∧ w'.cell? ⟨K, 2, none⟩ = some (.int .i64 xo) ∧ w'.cell? ⟨K, 3, none⟩ = some (.int .i64 xv) ∧ w'.cell? ⟨K, 4, none⟩ = some (.int .i64 xf) ∧ w'.cell? ⟨K, 5, none⟩ = some (.int .i64 xt) ∧ w'.cell? ⟨K, 6, none⟩ = some (.int .i64 xl) ∧ w'.cell? ⟨pb, 0, none⟩ = some (.slice (some ⟨fb, fo, none⟩) ls.length c2) ∧ w'.cell? ⟨fb, fo + i * 7, none⟩ = some (.int .i64 xw) ∧ w'.cell? ⟨fb, fo + i * 7 + 1, none⟩ = some (.string ⟨xn.toArray⟩) ∧ w'.cell? ⟨fb, fo + i * 7 + 2, none⟩ = some (.int .i64 xo) ∧ w'.cell? ⟨fb, fo + i * 7 + 3, none⟩ = some (.int .i64 xv) ∧ w'.cell? ⟨fb, fo + i * 7 + 4, none⟩ = some (.int .i64 xf) ∧ w'.cell? ⟨fb, fo + i * 7 + 5, none⟩ = some (.int .i64 xt) ∧ w'.cell? ⟨fb, fo + i * 7 + 6, none⟩ = some (.int .i64 xl))
            ((first | exact ⟨cell_ext hdr m0, cell_ext hdr m1, cell_ext hdr m2, cell_ext hdr m3, cell_ext hdr m4, cell_ext hdr m5, cell_ext hdr m6, cell_ext hdr e0, cell_ext hdr r0, cell_ext hdr r1, cell_ext hdr r2, cell_ext hdr r3, cell_ext hdr r4, cell_ext hdr r5, cell_ext hdr r6⟩ | exact ⟨cell_ext HBs.out m0, cell_ext HBs.out m1, cell_ext HBs.out m2, cell_ext HBs.out m3, cell_ext HBs.out m4, cell_ext HBs.out m5, cell_ext HBs.out m6, cell_ext HBs.out e0, cell_ext HBs.out r0, cell_ext HBs.out r1, cell_ext HBs.out r2, cell_ext HBs.out r3, cell_ext HBs.out r4, cell_ext HBs.out r5, cell_ext HBs.out r6⟩))
            ((go_at_call 13; refine (lfact_x xw xn xo xv xf xt xl _).mono ?_; rintro e w9 ⟨rfl, hb9⟩; have HBs := Lib.hid (ext_trans hdr hb9); clear hb9))
          have HBY := Lib.hid (ext_trans HBX.out HBs.out)
          clear hNE hG hdr m0 m1 m2 m3 m4 m5 m6 r0 r1 r2 r3 r4 r5 r6 e0 HBX HBs
          go_wp2_with fail
          go_roundw
          case rel => exact ⟨(i : Int) + 1, by go_num, ⟨by omega, by omega⟩, HBY.out⟩
          case measure => simp [intOf] <;> omega
        · have hf := fact_out ls hk5 pa A1 c1 hin _ HRA.out
          have HF := Lib.hid hf
          clear hf
          by_cases hng : k < 0
          · have hge : ¬ 0 ≤ k := by omega
            go_wp2_with fail
            refine HF.out.mono ?_
            rintro e w5 ⟨hb5, y, rfl⟩
            obtain ⟨yw, yn, yo, yv, yf, yt, yl⟩ := y
            dsimp only [faC]
            have bx := Blk.new w5 40 [.int .i64 yw, .string ⟨yn.toArray⟩, .int .i64 yo, .int .i64 yv, .int .i64 yf, .int .i64 yt, .int .i64 yl]
            have hx1 := ext_alloc w5 (.cells (List.toArray [.int .i64 yw, .string ⟨yn.toArray⟩, .int .i64 yo, .int .i64 yv, .int .i64 yf, .int .i64 yt, .int .i64 yl]) 40)
            obtain ⟨W, hW⟩ : ∃ W, W = w5.alloc (.cells (List.toArray [.int .i64 yw, .string ⟨yn.toArray⟩, .int .i64 yo, .int .i64 yv, .int .i64 yf, .int .i64 yt, .int .i64 yl]) 40) := ⟨_, rfl⟩
            obtain ⟨K, hK⟩ : ∃ K, K = w5.heap.size := ⟨_, rfl⟩
            rw [← hW] at bx hx1
            rw [← hK] at bx
            have hxx := ext_trans hb5 hx1
            go_upto_region 12 with fail
            rw [show w5.alloc (.cells #[.int .i64 yw, .string ⟨yn.toArray⟩, .int .i64 yo, .int .i64 yv, .int .i64 yf, .int .i64 yt, .int .i64 yl] 40) = W from hW.symm, ← hK]
            clear hW hK
            have HBX := Lib.hid (ext_trans HB.out hxx)
            have e0 := cell_ext hxx d0
            clear d0 bx hx1 hxx hb5 HF
            go_wp2_with fail
            go_quiet (fail)
            have HBY := Lib.hid (ext_trans HBX.out (ext_drewN W nq))
            go_wp2_with fail
            go_roundw
            case rel => exact ⟨k + 1, by go_num, ⟨by omega, by omega⟩, HBY.out⟩
            case measure => simp [intOf] <;> omega
          · have hge : 0 ≤ k := by omega
            obtain rfl : k = (ls.length : Int) := by omega
            have hlt : ¬ (ls.length : Int) < (ls.length : Int) := by omega
            go_wp2_with fail
            refine HF.out.mono ?_
            rintro e w5 ⟨hb5, y, rfl⟩
            obtain ⟨yw, yn, yo, yv, yf, yt, yl⟩ := y
            dsimp only [faC]
            have bx := Blk.new w5 40 [.int .i64 yw, .string ⟨yn.toArray⟩, .int .i64 yo, .int .i64 yv, .int .i64 yf, .int .i64 yt, .int .i64 yl]
            have hx1 := ext_alloc w5 (.cells (List.toArray [.int .i64 yw, .string ⟨yn.toArray⟩, .int .i64 yo, .int .i64 yv, .int .i64 yf, .int .i64 yt, .int .i64 yl]) 40)
            obtain ⟨W, hW⟩ : ∃ W, W = w5.alloc (.cells (List.toArray [.int .i64 yw, .string ⟨yn.toArray⟩, .int .i64 yo, .int .i64 yv, .int .i64 yf, .int .i64 yt, .int .i64 yl]) 40) := ⟨_, rfl⟩
            obtain ⟨K, hK⟩ : ∃ K, K = w5.heap.size := ⟨_, rfl⟩
            rw [← hW] at bx hx1
            rw [← hK] at bx
            have hxx := ext_trans hb5 hx1
            go_upto_region 12 with fail
            rw [show w5.alloc (.cells #[.int .i64 yw, .string ⟨yn.toArray⟩, .int .i64 yo, .int .i64 yv, .int .i64 yf, .int .i64 yt, .int .i64 yl] 40) = W from hW.symm, ← hK]
            clear hW hK
            have HBX := Lib.hid (ext_trans HB.out hxx)
            have e0 := cell_ext hxx d0
            clear d0 bx hx1 hxx hb5 HF
            go_wp2_with fail
            go_quiet (fail)
            have HBY := Lib.hid (ext_trans HBX.out (ext_drewN W nq))
            go_wp2_with fail
            go_roundw
            case rel => exact ⟨(ls.length : Int) + 1, by go_num, ⟨by omega, by omega⟩, HBY.out⟩
            case measure => simp [intOf] <;> omega
      · have hlt : ¬ k ≤ (ls.length : Int) := hle
        clear hk1 hk2
        have HRa := HRA
        have HRb := HRB
        have ht1 : (turnsF wh kn ls).length ≤ 100000 := by
          have h1 := days_len (turnsR wh kn ls)
          have h2 := turnsR_len wh kn ls
          unfold turnsF
          omega
        have ht2 : (learntF ls).length ≤ 100000 := by
          have h1 := days_len (ls.map (·.learnt))
          rw [List.length_map] at h1
          unfold learntF
          omega
        have ht3 := oth40 wh nm on kn ls
        have HT1 := Lib.hid ht1
        have HT2 := Lib.hid ht2
        have HT3 := Lib.hid ht3
        clear ht1 ht2 ht3 HRA HRB
        go_wp2_with fail
        refine (pvalue_any ls hk5 HOO.out pa A1 c1 wh nm on kn _ HRa.out).mono ?_
        rintro e wa ⟨rfl, hb⟩
        have HBa := Lib.hid (ext_trans HBW.out hb)
        have HRa := Lib.hid (HRa.out.ext hb)
        have HRb := Lib.hid (HRb.out.ext hb)
        clear hb
        clear d0
        obtain ⟨vv, hvv⟩ : ∃ vv, vv = valF (bestF wh nm on kn (-1) ls) := ⟨_, rfl⟩
        rw [← hvv]
        have HVV := Lib.hid hvv
        clear hvv
        obtain ⟨v, b⟩ := vv
        go_wp2_with fail
        refine (rvalue_any ls hk5 pb A2 c2 wh nm on kn _ HRb.out).mono ?_
        rintro e wb ⟨rfl, hb⟩
        have HBa := Lib.hid (ext_trans HBa.out hb)
        have HRa := Lib.hid (HRa.out.ext hb)
        have HRb := Lib.hid (HRb.out.ext hb)
        rw [← HVV.out]
        clear hb
        go_wp2_with fail
        refine (pothers_any ls hk5 HOO.out HKK.out pa A1 c1 wh nm on kn _ HRa.out).mono ?_
        rintro e wx ⟨X1, cx1, rfl, hs, hb⟩
        have HBa := Lib.hid (ext_trans HBa.out hb)
        have HRa := Lib.hid (HRa.out.ext hb)
        have HRb := Lib.hid (HRb.out.ext hb)
        have HS := Lib.hid hs
        clear hs hb
        go_wp2_with fail
        refine (rothers_any ls hk5 pb A2 c2 wh nm on kn _ HRb.out).mono ?_
        rintro e wy ⟨Y1, cy1, rfl, hs, hb⟩
        have HBa := Lib.hid (ext_trans HBa.out hb)
        have HRa := Lib.hid (HRa.out.ext hb)
        have HRb := Lib.hid (HRb.out.ext hb)
        have HS := Lib.hid (HS.out.ext hb)
        have HS' := Lib.hid hs
        clear hs hb
        go_wp2_with fail
        refine (same_ints _ _ X1 Y1 cx1 cy1 _ HS.out HS'.out HT3.out).mono ?_
        rintro e wz ⟨rfl, hb⟩
        have HBa := Lib.hid (ext_trans HBa.out hb)
        have HRa := Lib.hid (HRa.out.ext hb)
        have HRb := Lib.hid (HRb.out.ext hb)
        rw [show decide (othersF wh nm on kn ls = othersF wh nm on kn ls) = true from decide_eq_true rfl]
        clear hb HS HS'
        go_wp2_with fail
        refine (pturns_any ls hk5 pa A1 c1 wh kn _ HRa.out).mono ?_
        rintro e wx ⟨X2, cx2, rfl, hs, hb⟩
        have HBa := Lib.hid (ext_trans HBa.out hb)
        have HRa := Lib.hid (HRa.out.ext hb)
        have HRb := Lib.hid (HRb.out.ext hb)
        have HS := Lib.hid hs
        clear hs hb
        go_wp2_with fail
        refine (rturns_any ls hk5 pb A2 c2 wh kn _ HRb.out).mono ?_
        rintro e wy ⟨Y2, cy2, rfl, hs, hb⟩
        have HBa := Lib.hid (ext_trans HBa.out hb)
        have HRa := Lib.hid (HRa.out.ext hb)
        have HRb := Lib.hid (HRb.out.ext hb)
        have HS := Lib.hid (HS.out.ext hb)
        have HS' := Lib.hid hs
        clear hs hb
        go_wp2_with fail
        refine (same_ints _ _ X2 Y2 cx2 cy2 _ HS.out HS'.out HT1.out).mono ?_
        rintro e wz ⟨rfl, hb⟩
        have HBa := Lib.hid (ext_trans HBa.out hb)
        have HRa := Lib.hid (HRa.out.ext hb)
        have HRb := Lib.hid (HRb.out.ext hb)
        rw [show decide (turnsF wh kn ls = turnsF wh kn ls) = true from decide_eq_true rfl]
        clear hb HS HS'
        go_wp2_with fail
        refine (plearnt_any ls hk5 pa A1 c1 _ HRa.out).mono ?_
        rintro e wx ⟨X3, cx3, rfl, hs, hb⟩
        have HBa := Lib.hid (ext_trans HBa.out hb)
        have HRa := Lib.hid (HRa.out.ext hb)
        have HRb := Lib.hid (HRb.out.ext hb)
        have HS := Lib.hid hs
        clear hs hb
        go_wp2_with fail
        refine (rlearnt_any ls hk5 pb A2 c2 _ HRb.out).mono ?_
        rintro e wy ⟨Y3, cy3, rfl, hs, hb⟩
        have HBa := Lib.hid (ext_trans HBa.out hb)
        have HRa := Lib.hid (HRa.out.ext hb)
        have HRb := Lib.hid (HRb.out.ext hb)
        have HS := Lib.hid (HS.out.ext hb)
        have HS' := Lib.hid hs
        clear hs hb
        go_wp2_with fail
        refine (same_ints _ _ X3 Y3 cx3 cy3 _ HS.out HS'.out HT2.out).mono ?_
        rintro e wz ⟨rfl, hb⟩
        have HBa := Lib.hid (ext_trans HBa.out hb)
        have HRa := Lib.hid (HRa.out.ext hb)
        have HRb := Lib.hid (HRb.out.ext hb)
        rw [show decide (learntF ls = learntF ls) = true from decide_eq_true rfl]
        clear hb HS HS'
        have q2 : (v == v) = true := by simp
        have q3 : (b == b) = true := by simp
        go_wp2_with fail
        go_ret
        exact ⟨rfl, HBa.out⟩
  · cases fw with
    | false =>
      go_wp2_with fail
      go_ret
      exact ⟨rfl, HB2.out⟩
    | true =>
      have hnc : (3000 : Int) < (nm.length : Int) := by
        have : ¬ nm.length ≤ 3000 := fun h => hgo ⟨rfl, h⟩
        omega
      clear hgo
      go_wp2_with fail
      go_ret
      exact ⟨rfl, HB2.out⟩
end Go.Proofs.YtcpcejmlnhflpaaDoor.FactsKept

/- Facts: what the document tells of a file: the fact that counts, a value, who stands so. -/
import Derived.Test.YtnchlnfenebomaaGreatDoorFkF
namespace Go.Proofs.YtnchlnfenebomaaGreatDoor.Fk
open Go.RowKit Mem Nest Err App

theorem take_best {wh : Int} {n : List UInt8} {on kn o : Int} {l : List Fa} {i : Nat} (h : i < l.length) : bestF wh n on kn o (l.take (i + 1)) = if Hit wh n on kn l[i] ∧ l[i].other = o then stepB (bestF wh n on kn o (l.take i)) l[i] else bestF wh n on kn o (l.take i) := by
  rw [List.take_succ_eq_append_getElem h, best_snoc]
def LatAt (wh : Int) (n : List UInt8) (on kn o : Int) (l : List Fa) (i : Nat) (v : Value) : Prop :=
  (v = .int .i64 (-1) ∧ bestF wh n on kn o (l.take i) = none) ∨ (∃ (k : Nat) (h : k < l.length), v = .int .i64 (k : Int) ∧ k < i ∧ bestF wh n on kn o (l.take i) = some l[k])
theorem lat_skip {wh : Int} {n : List UInt8} {on kn o : Int} {l : List Fa} {i : Nat} {v : Value} (h : i < l.length) (hl : LatAt wh n on kn o l i v) (hn : ¬ (Hit wh n on kn l[i] ∧ l[i].other = o)) : LatAt wh n on kn o l (i + 1) v := by
  unfold LatAt at hl ⊢
  rw [take_best h, if_neg hn]
  rcases hl with h1 | ⟨k, h1, h2, h3, h4⟩
  · exact .inl h1
  · exact .inr ⟨k, h1, h2, by omega, h4⟩
theorem lat_take {wh : Int} {n : List UInt8} {on kn o : Int} {l : List Fa} {i : Nat} (h : i < l.length) (hn : Hit wh n on kn l[i] ∧ l[i].other = o) (hb : ∀ y, bestF wh n on kn o (l.take i) = some y → y.learnt ≤ l[i].learnt) : LatAt wh n on kn o l (i + 1) (.int .i64 (i : Int)) := by
  refine .inr ⟨i, h, rfl, by omega, ?_⟩
  rw [take_best h, if_pos hn]
  cases hy : bestF wh n on kn o (l.take i) with
  | none => rfl
  | some y => unfold stepB; simp only; rw [if_pos (hb y hy)]
theorem lat_stay {wh : Int} {n : List UInt8} {on kn o : Int} {l : List Fa} {i k : Nat} (h : i < l.length) (hk : k < l.length) (hki : k < i) (he : bestF wh n on kn o (l.take i) = some l[k]) (hn : Hit wh n on kn l[i] ∧ l[i].other = o) (hb : ¬ l[k].learnt ≤ l[i].learnt) : LatAt wh n on kn o l (i + 1) (.int .i64 (k : Int)) := by
  refine .inr ⟨k, hk, rfl, by omega, ?_⟩
  rw [take_best h, if_pos hn, he]
  unfold stepB
  simp only
  rw [if_neg hb]
def LatPost (wh : Int) (n : List UInt8) (on kn o : Int) (l : List Fa) (w : World) (e : Ending) (w' : World) : Prop :=
  ∃ v, e = .returned v ∧ LatAt wh n on kn o l l.length v ∧ Below w.heap.size w w'
set_option maxRecDepth 20000 in
set_option maxHeartbeats 4000000 in
theorem latest_any (l : List Fa) (_ : l.length ≤ 500) (b : Nat) (A : Option Addr) (c : Nat) (wh : Int) (nm : List UInt8) (o on kn : Int) (w : World) (hF : FR 100 w b A c l) :
    Calls Tryz.prog 85 #[.pointer (some ⟨b, 0, none⟩), .int .i64 wh, .string ⟨nm.toArray⟩, .int .i64 o, .int .i64 on, .int .i64 kn] w (LatPost wh nm on kn o l w) := by
  have HF := Lib.hid hF
  clear hF
  go_enter Tryz.func85, Tryz.ntmps85
  go_wp2_with fail
  go_loopw [13, 14] (fun t13 t14 wr => ∃ i : Nat, t14 = .int .i64 i ∧ i ≤ l.length ∧ Hid (Below w.heap.size w wr) ∧ LatAt wh nm on kn o l i t13) (fun _ t14 _ => l.length - (intOf t14).toNat)
  case atStart => exact ⟨0, rfl, Nat.zero_le _, Below.refl _ _, .inl ⟨rfl, rfl⟩⟩
  case round =>
    obtain ⟨i, rfl, hi, HB, hlat⟩ := hrel
    have HFr := Lib.hid (HF.out.ext HB.out)
    have c0 := HFr.out.1.cell 0 rfl
    by_cases hlt : i < l.length
    · have hltc : (i : Int) < (l.length : Int) := by omega
      have HLS := Lib.hid (fun hn => lat_skip hlt hlat hn)
      have HLTk := Lib.hid (fun hn hb => lat_take (wh := wh) (n := nm) (on := on) (kn := kn) (o := o) hlt hn hb)
      have HRd := HFr.out.2
      obtain ⟨fb, fo, rfl, r0, r1, r2, r3, r4, r5, r6⟩ := fact_at HRd hlt
      have HST := Lib.hid (fun k (hk : k < l.length) hki he hn hb => lat_stay (wh := wh) (n := nm) (on := on) (kn := kn) (o := o) hlt (k := k) hk hki he hn hb)
      have HRd := Lib.hid HRd
      obtain ⟨x, hx⟩ : ∃ x, x = l[i] := ⟨_, rfl⟩
      rw [← hx] at r0 r1 r2 r3 r4 r5 r6 HLS HLTk HST
      clear hx
      obtain ⟨xw, xn, xo, xv, xf, xt, xl⟩ := x
      simp only at r0 r1 r2 r3 r4 r5 r6
      have bx := Blk.new wr 96 [.int .i64 xw, .string ⟨xn.toArray⟩, .int .i64 xo, .int .i64 xv, .int .i64 xf, .int .i64 xt, .int .i64 xl]
      have hx1 := ext_alloc wr (.cells (List.toArray [.int .i64 xw, .string ⟨xn.toArray⟩, .int .i64 xo, .int .i64 xv, .int .i64 xf, .int .i64 xt, .int .i64 xl]) 96)
      obtain ⟨W, hW⟩ : ∃ W, W = wr.alloc (.cells (List.toArray [.int .i64 xw, .string ⟨xn.toArray⟩, .int .i64 xo, .int .i64 xv, .int .i64 xf, .int .i64 xt, .int .i64 xl]) 96) := ⟨_, rfl⟩
      obtain ⟨K, hK⟩ : ∃ K, K = wr.heap.size := ⟨_, rfl⟩
      rw [← hW] at bx hx1
      rw [← hK] at bx
      have HX1 := Lib.hid hx1
      have HB1 := Lib.hid (HB.out.trans (hx1.mono HB.out.size))
      have k0 := bx.cell 0 rfl
      have k1 := bx.cell 1 rfl
      have k2 := bx.cell 2 rfl
      have k4 := bx.cell 4 rfl
      have k5 := bx.cell 5 rfl
      have k6 := bx.cell 6 rfl
      have HLat := Lib.hid hlat
      have HC0 := Lib.hid (cell_ext hx1 c0)
      clear bx hx1
      go_upto_region 6 with fail
      rw [show wr.alloc (.cells #[.int .i64 xw, .string ⟨xn.toArray⟩, .int .i64 xo, .int .i64 xv, .int .i64 xf, .int .i64 xt, .int .i64 xl] 96) = W from hW.symm, ← hK]
      clear hW hK r0 r1 r2 r3 r4 r5 r6 c0 hlat
      by_cases hw : xw = wh
      · by_cases hn : xn = nm
        · by_cases ho : xo = o
          · by_cases hkn : kn < xl
            · have q1 : (xw == wh) = true := by simp [hw]
              have q1b : (xw != wh) = false := by simp [hw]
              have q2 : (xn == nm) = true := by simp [hn]
              have q3 : (xo == o) = true := by simp [ho]
              have q3b : (xo != o) = false := by simp [ho]
              have HKN := Lib.hid hkn
              clear hw hn ho
              have HK := Lib.hid (HLS.out (fun h => by have h1 := h.1.2.2.1; have h2 := HKN.out; simp only at h1; omega))
              clear HLS HLTk HST
              go_wp2_with fail
              go_roundw
              case rel => exact ⟨i + 1, by go_num, by omega, HB1.out, HK.out⟩
              case measure => simp [intOf]; omega
            · have q1 : (xw == wh) = true := by simp [hw]
              have q1b : (xw != wh) = false := by simp [hw]
              have q2 : (xn == nm) = true := by simp [hn]
              have q3 : (xo == o) = true := by simp [ho]
              have q3b : (xo != o) = false := by simp [ho]
              have HW1 := Lib.hid hw
              have HN1 := Lib.hid hn
              have HO1 := Lib.hid ho
              have HKN := Lib.hid hkn
              clear hw hn ho
              by_cases hf : on < xf
              · have HFF := Lib.hid hf
                have HK := Lib.hid (HLS.out (fun h => by have h1 := h.1.2.2.2.1; have h2 := HFF.out; simp only at h1; omega))
                clear HLS HLTk HST
                go_wp2_with fail
                go_roundw
                case rel => exact ⟨i + 1, by go_num, by omega, HB1.out, HK.out⟩
                case measure => simp [intOf]; omega
              · have HFF := Lib.hid hf
                by_cases ht : xt = 0
                · have q5 : (xt == 0) = true := by simp [ht]
                  have q5b : (xt != 0) = false := by simp [ht]
                  have HIT := Lib.hid (show Hit wh nm on kn (⟨xw, xn, xo, xv, xf, xt, xl⟩ : Fa) ∧ (⟨xw, xn, xo, xv, xf, xt, xl⟩ : Fa).other = o from ⟨⟨HW1.out, HN1.out, by have := HKN.out; show xl ≤ kn; omega, by show xf ≤ on; omega, .inl ht⟩, HO1.out⟩)
                  clear ht
                  have d0 := HC0.out
                  rcases HLat.out with ⟨rfl, hbn⟩ | ⟨k, hkl, rfl, hki, hbk⟩
                  · have HK := Lib.hid (HLTk.out HIT.out (fun y hy => by rw [hbn] at hy; cases hy))
                    clear HLS HLTk HST hbn HLat
                    go_upto_region 8 with fail
                    go_quiet (fail)
                    go_wp2_with fail
                    go_roundw
                    case rel => exact ⟨i + 1, by go_num, by omega, HB1.out.trans ((ext_drewN W nq).mono HB1.out.size), HK.out⟩
                    case measure => simp [intOf]; omega
                  · have hk0 : ¬ (k : Int) < 0 := by omega
                    have hklc : (k : Int) < (l.length : Int) := by omega
                    obtain ⟨fb', fo', fe', _, _, _, _, _, _, q6⟩ := fact_at (HRd.out.ext HX1.out) hkl
                    cases fe'
                    have HBK := Lib.hid hbk
                    obtain ⟨kl, hkll⟩ : ∃ kl, kl = l[k].learnt := ⟨_, rfl⟩
                    rw [← hkll] at q6
                    have HKL := Lib.hid hkll
                    clear hkll hbk
                    by_cases hle : kl ≤ xl
                    · have HK := Lib.hid (HLTk.out HIT.out (fun y hy => by rw [HBK.out] at hy; obtain rfl := Option.some.inj hy; rw [← HKL.out]; exact hle))
                      clear HLS HLTk HST HLat
                      go_upto_region 8 with fail
                      go_quiet (fail)
                      go_wp2_with fail
                      go_roundw
                      case rel => exact ⟨i + 1, by go_num, by omega, HB1.out.trans ((ext_drewN W nq).mono HB1.out.size), HK.out⟩
                      case measure => simp [intOf]; omega
                    · have HK := Lib.hid (HST.out k hkl hki HBK.out HIT.out (by rw [← HKL.out]; exact hle))
                      clear HLS HLTk HST HLat
                      go_upto_region 8 with fail
                      go_quiet (fail)
                      go_wp2_with fail
                      go_roundw
                      case rel => exact ⟨i + 1, by go_num, by omega, HB1.out.trans ((ext_drewN W nq).mono HB1.out.size), HK.out⟩
                      case measure => simp [intOf]; omega
                · have q5 : (xt == 0) = false := by simp [ht]
                  have q5b : (xt != 0) = true := by simp [ht]
                  have HT0 := Lib.hid ht
                  clear ht
                  by_cases hto : xt ≤ on
                  · have HTO := Lib.hid hto
                    have HK := Lib.hid (HLS.out (fun h => by rcases h.1.2.2.2.2 with h1 | h1; exact HT0.out h1; have h2 := HTO.out; simp only at h1; omega))
                    clear HLS HLTk HST
                    go_wp2_with fail
                    go_roundw
                    case rel => exact ⟨i + 1, by go_num, by omega, HB1.out, HK.out⟩
                    case measure => simp [intOf]; omega
                  · have HIT := Lib.hid (show Hit wh nm on kn (⟨xw, xn, xo, xv, xf, xt, xl⟩ : Fa) ∧ (⟨xw, xn, xo, xv, xf, xt, xl⟩ : Fa).other = o from ⟨⟨HW1.out, HN1.out, by have := HKN.out; show xl ≤ kn; omega, by show xf ≤ on; omega, .inr (by show on < xt; omega)⟩, HO1.out⟩)
                    have d0 := HC0.out
                    rcases HLat.out with ⟨rfl, hbn⟩ | ⟨k, hkl, rfl, hki, hbk⟩
                    · have HK := Lib.hid (HLTk.out HIT.out (fun y hy => by rw [hbn] at hy; cases hy))
                      clear HLS HLTk HST hbn HLat
                      go_upto_region 8 with fail
                      go_quiet (fail)
                      go_wp2_with fail
                      go_roundw
                      case rel => exact ⟨i + 1, by go_num, by omega, HB1.out.trans ((ext_drewN W nq).mono HB1.out.size), HK.out⟩
                      case measure => simp [intOf]; omega
                    · have hk0 : ¬ (k : Int) < 0 := by omega
                      have hklc : (k : Int) < (l.length : Int) := by omega
                      obtain ⟨fb', fo', fe', _, _, _, _, _, _, q6⟩ := fact_at (HRd.out.ext HX1.out) hkl
                      cases fe'
                      have HBK := Lib.hid hbk
                      obtain ⟨kl, hkll⟩ : ∃ kl, kl = l[k].learnt := ⟨_, rfl⟩
                      rw [← hkll] at q6
                      have HKL := Lib.hid hkll
                      clear hkll hbk
                      by_cases hle : kl ≤ xl
                      · have HK := Lib.hid (HLTk.out HIT.out (fun y hy => by rw [HBK.out] at hy; obtain rfl := Option.some.inj hy; rw [← HKL.out]; exact hle))
                        clear HLS HLTk HST HLat
                        go_upto_region 8 with fail
                        go_quiet (fail)
                        go_wp2_with fail
                        go_roundw
                        case rel => exact ⟨i + 1, by go_num, by omega, HB1.out.trans ((ext_drewN W nq).mono HB1.out.size), HK.out⟩
                        case measure => simp [intOf]; omega
                      · have HK := Lib.hid (HST.out k hkl hki HBK.out HIT.out (by rw [← HKL.out]; exact hle))
                        clear HLS HLTk HST HLat
                        go_upto_region 8 with fail
                        go_quiet (fail)
                        go_wp2_with fail
                        go_roundw
                        case rel => exact ⟨i + 1, by go_num, by omega, HB1.out.trans ((ext_drewN W nq).mono HB1.out.size), HK.out⟩
                        case measure => simp [intOf]; omega
          · have q1 : (xw == wh) = true := by simp [hw]
            have q1b : (xw != wh) = false := by simp [hw]
            have q2 : (xn == nm) = true := by simp [hn]
            have q3 : (xo == o) = false := by simp [ho]
            have q3b : (xo != o) = true := by simp [ho]
            have HO1 := Lib.hid ho
            clear hw hn ho
            have HK := Lib.hid (HLS.out (fun h => by exact HO1.out h.2))
            clear HLS HLTk HST
            go_wp2_with fail
            go_roundw
            case rel => exact ⟨i + 1, by go_num, by omega, HB1.out, HK.out⟩
            case measure => simp [intOf]; omega
        · have q1 : (xw == wh) = true := by simp [hw]
          have q1b : (xw != wh) = false := by simp [hw]
          have q2 : (xn == nm) = false := by simpa using hn
          have HN1 := Lib.hid hn
          clear hw hn
          have HK := Lib.hid (HLS.out (fun h => by exact HN1.out h.1.2.1))
          clear HLS HLTk HST
          go_wp2_with fail
          go_roundw
          case rel => exact ⟨i + 1, by go_num, by omega, HB1.out, HK.out⟩
          case measure => simp [intOf]; omega
      · have q1 : (xw == wh) = false := by simp [hw]
        have q1b : (xw != wh) = true := by simp [hw]
        have HW1 := Lib.hid hw
        clear hw
        have HK := Lib.hid (HLS.out (fun h => by exact HW1.out h.1.1))
        clear HLS HLTk HST
        go_wp2_with fail
        go_roundw
        case rel => exact ⟨i + 1, by go_num, by omega, HB1.out, HK.out⟩
        case measure => simp [intOf]; omega
    · obtain rfl : l.length = i := by omega
      have hlc : ¬ (l.length : Int) < (l.length : Int) := by omega
      go_wp2_with fail
      go_ret
      exact ⟨_, rfl, hlat, HB.out⟩
end Go.Proofs.YtnchlnfenebomaaGreatDoor.Fk

/- Facts: which facts count: the program's map, and a value. -/
import Derived.Test.YtnchlnfenebomaaGreatDoorFkM
namespace Go.Proofs.YtnchlnfenebomaaGreatDoor.Fk
open Go.RowKit Mem Nest Err App Go.Sort

theorem best_skip {wh : Int} {n : List UInt8} {on kn : Int} {l : List Fa} {i : Nat} (h : i < l.length) (hn : ¬ Hit wh n on kn l[i]) (o : Int) : bestF wh n on kn o (l.take i) = bestF wh n on kn o (l.take (i + 1)) := by
  rw [take_best h, if_neg (fun hh => hn hh.1)]
theorem best_worse {wh : Int} {n : List UInt8} {on kn : Int} {l : List Fa} {i : Nat} (h : i < l.length) {y : Fa} (hy : bestF wh n on kn l[i].other (l.take i) = some y) (hb : ¬ y.learnt ≤ l[i].learnt) (o : Int) : bestF wh n on kn o (l.take i) = bestF wh n on kn o (l.take (i + 1)) := by
  rw [take_best h]
  by_cases hh : Hit wh n on kn l[i] ∧ l[i].other = o
  · rw [if_pos hh, ← hh.2, hy]
    unfold stepB
    simp only
    rw [if_neg hb]
  · rw [if_neg hh]
theorem best_new {wh : Int} {n : List UInt8} {on kn : Int} {l : List Fa} {i : Nat} (h : i < l.length) (hn : Hit wh n on kn l[i]) (hb : ∀ y, bestF wh n on kn l[i].other (l.take i) = some y → y.learnt ≤ l[i].learnt) (o : Int) : (if o = l[i].other then some l[i] else bestF wh n on kn o (l.take i)) = bestF wh n on kn o (l.take (i + 1)) := by
  rw [take_best h]
  by_cases e : o = l[i].other
  · subst e
    rw [if_pos rfl, if_pos ⟨hn, rfl⟩]
    cases hy : bestF wh n on kn l[i].other (l.take i) with
    | none => rfl
    | some y => unfold stepB; simp only; rw [if_pos (hb y hy)]
  · rw [if_neg e, if_neg (fun hh => e hh.2.symm)]
def CountsPost (wh : Int) (nm : List UInt8) (on kn : Int) (l : List Fa) (w : World) (e : Ending) (w' : World) : Prop :=
  ∃ (M n : Nat), e = .returned (.map (some M)) ∧ n ≤ 500 ∧ FM w' M n (fun o => bestF wh nm on kn o l) ∧ w.heap.size ≤ M ∧ Below w.heap.size w w'
def Oks (l : List Fa) : Prop := ∀ x ∈ l, -1 ≤ x.other ∧ x.other < 40
set_option maxRecDepth 20000 in
set_option maxHeartbeats 4000000 in
theorem counts_any (l : List Fa) (hl : l.length ≤ 500) (hok : Oks l) (b : Nat) (A : Option Addr) (c : Nat) (wh : Int) (nm : List UInt8) (on kn : Int) (w : World) (hF : FR 149 w b A c l) :
    Calls Tryz.prog 107 #[.pointer (some ⟨b, 0, none⟩), .int .i64 wh, .string ⟨nm.toArray⟩, .int .i64 on, .int .i64 kn] w (CountsPost wh nm on kn l w) := by
  have HF := Lib.hid hF
  have HOK := Lib.hid hok
  have fm0 := FM.made w
  have hx0 := ext_alloc w (.map #[] 0)
  obtain ⟨M, hM⟩ : ∃ M, M = w.heap.size := ⟨_, rfl⟩
  obtain ⟨W0, hW0⟩ : ∃ W0, W0 = w.alloc (.map #[] 0) := ⟨_, rfl⟩
  rw [← hW0] at fm0 hx0
  rw [← hM] at fm0
  have HM := Lib.hid hM
  have HFM0 := Lib.hid fm0
  have HB0 := Lib.hid hx0
  have d0 := (hF.ext hx0).1.cell 0 rfl
  have hmm := @run_makeMap Tryz.prog
  clear hF hok fm0 hx0
  go_enter Tryz.func107, Tryz.ntmps107
  go_upto_region 2 with fail
  rw [show w.alloc (.map #[] 0) = W0 from hW0.symm, ← hM]
  clear hW0 hM hmm
  go_wp2_with fail
  go_loopw [22] (fun t22 wr => ∃ (i n : Nat), t22 = .int .i64 i ∧ i ≤ l.length ∧ n ≤ i ∧ Hid (Below w.heap.size w wr) ∧ Hid (FM wr M n (fun o => bestF wh nm on kn o (l.take i)))) (fun t22 _ => l.length - (intOf t22).toNat)
  case atStart => exact ⟨0, 0, rfl, Nat.zero_le _, Nat.le_refl _, HB0.out, HFM0.out⟩
  case round =>
    clear HB0 HFM0
    obtain ⟨i, n, rfl, hi, hni, HB, HFM⟩ := hrel
    by_cases hlt : i < l.length
    · have hltc : (i : Int) < (l.length : Int) := by omega
      have HRd := (HF.out.ext HB.out).2
      obtain ⟨fb, fo, rfl, r0, r1, r2, r3, r4, r5, r6⟩ := fact_at HRd hlt
      have HSK := Lib.hid (fun hn o => best_skip (wh := wh) (n := nm) (on := on) (kn := kn) hlt hn o)
      have HWO := Lib.hid (fun y hy hb o => best_worse (wh := wh) (n := nm) (on := on) (kn := kn) hlt (y := y) hy hb o)
      have HNW := Lib.hid (fun hn hb o => best_new (wh := wh) (n := nm) (on := on) (kn := kn) hlt hn hb o)
      have hoo := HOK.out _ (List.getElem_mem hlt)
      obtain ⟨x, hx⟩ : ∃ x, x = l[i] := ⟨_, rfl⟩
      rw [← hx] at r0 r1 r2 r3 r4 r5 r6 HSK HWO HNW hoo
      clear hx HRd
      obtain ⟨xw, xn, xo, xv, xf, xt, xl⟩ := x
      simp only at r0 r1 r2 r3 r4 r5 r6 hoo
      have HWF := Lib.hid (wf_of hoo.1 (by omega))
      have bx := Blk.new wr 102 [.int .i64 xw, .string ⟨xn.toArray⟩, .int .i64 xo, .int .i64 xv, .int .i64 xf, .int .i64 xt, .int .i64 xl]
      have hx1 := ext_alloc wr (.cells (List.toArray [.int .i64 xw, .string ⟨xn.toArray⟩, .int .i64 xo, .int .i64 xv, .int .i64 xf, .int .i64 xt, .int .i64 xl]) 102)
      obtain ⟨W, hW⟩ : ∃ W, W = wr.alloc (.cells (List.toArray [.int .i64 xw, .string ⟨xn.toArray⟩, .int .i64 xo, .int .i64 xv, .int .i64 xf, .int .i64 xt, .int .i64 xl]) 102) := ⟨_, rfl⟩
      obtain ⟨K, hK⟩ : ∃ K, K = wr.heap.size := ⟨_, rfl⟩
      rw [← hW] at bx hx1
      rw [← hK] at bx
      have HB1 := Lib.hid (HB.out.trans (hx1.mono HB.out.size))
      have HFM1 := Lib.hid (HFM.out.ext hx1)
      have HBX := Lib.hid bx
      have k0 := bx.cell 0 rfl
      have k1 := bx.cell 1 rfl
      have k2 := bx.cell 2 rfl
      have k4 := bx.cell 4 rfl
      have k5 := bx.cell 5 rfl
      have k6 := bx.cell 6 rfl
      clear bx hx1 hoo HFM
      go_upto_region 5 with fail
      rw [show wr.alloc (.cells #[.int .i64 xw, .string ⟨xn.toArray⟩, .int .i64 xo, .int .i64 xv, .int .i64 xf, .int .i64 xt, .int .i64 xl] 102) = W from hW.symm, ← hK]
      clear hW hK r0 r1 r2 r3 r4 r5 r6
      by_cases hw : xw = wh
      · by_cases hn : xn = nm
        · have q1 : (xw == wh) = true := by simp [hw]
          have q1b : (xw != wh) = false := by simp [hw]
          have q2 : (xn == nm) = true := by simp [hn]
          have HW1 := Lib.hid hw
          have HN1 := Lib.hid hn
          clear hw hn
          by_cases hkn : kn < xl
          · have HKN := Lib.hid hkn
            have HK := Lib.hid (HSK.out (fun h => by have h1 := h.2.2.1; have h2 := HKN.out; simp only at h1; omega))
            clear HSK HWO HNW
            go_wp2_with fail
            go_roundw
            case rel => exact ⟨i + 1, n, by go_num, by omega, by omega, HB1.out, HFM1.out.congr (fun o _ => HK.out o)⟩
            case measure => simp [intOf]; omega
          · have HKN := Lib.hid hkn
            by_cases hf : on < xf
            · have HFF := Lib.hid hf
              have HK := Lib.hid (HSK.out (fun h => by have h1 := h.2.2.2.1; have h2 := HFF.out; simp only at h1; omega))
              clear HSK HWO HNW
              go_wp2_with fail
              go_roundw
              case rel => exact ⟨i + 1, n, by go_num, by omega, by omega, HB1.out, HFM1.out.congr (fun o _ => HK.out o)⟩
              case measure => simp [intOf]; omega
            · have HFF := Lib.hid hf
              by_cases ht : xt = 0
              · have q5 : (xt == 0) = true := by simp [ht]
                have q5b : (xt != 0) = false := by simp [ht]
                have HIT := Lib.hid (show Hit wh nm on kn (⟨xw, xn, xo, xv, xf, xt, xl⟩ : Fa) from ⟨HW1.out, HN1.out, by have := HKN.out; show xl ≤ kn; omega, by show xf ≤ on; omega, .inl ht⟩)
                clear ht
                obtain ⟨y, ok, hrun, hcase⟩ := HFM1.out.look HWF.out
                have by_ := Blk.new W 102 (faC y)
                have hx2 := ext_alloc W (.cells (faC y).toArray 102)
                obtain ⟨W2, hW2⟩ : ∃ W2, W2 = W.alloc (.cells (faC y).toArray 102) := ⟨_, rfl⟩
                obtain ⟨K2, hK2⟩ : ∃ K2, K2 = W.heap.size := ⟨_, rfl⟩
                rw [← hW2] at by_ hx2
                rw [← hK2] at by_
                have HB2 := Lib.hid (HB1.out.trans (hx2.mono HB1.out.size))
                have HFM2 := Lib.hid (HFM1.out.ext hx2)
                have hk2 := HBX.out.ext (hx2.mono (show K + 1 ≤ _ from HBX.out.lt))
                have m0 := hk2.cell 0 rfl
                have m1 := hk2.cell 1 rfl
                have m2 := hk2.cell 2 rfl
                have m3 := hk2.cell 3 rfl
                have m4 := hk2.cell 4 rfl
                have m5 := hk2.cell 5 rfl
                have m6 := hk2.cell 6 rfl
                have HCS := Lib.hid hcase
                clear hk2 hx2 hcase
                obtain ⟨yw, yn, yo, yv, yf, yt, yl⟩ := y
                unfold faC at hrun by_ hW2
                simp only at hrun by_ hW2
                have p6 := by_.cell 6 rfl
                clear by_
                go_upto_region 7 with fail
                rw [show W.alloc (.cells #[.int .i64 yw, .string ⟨yn.toArray⟩, .int .i64 yo, .int .i64 yv, .int .i64 yf, .int .i64 yt, .int .i64 yl] 102) = W2 from hW2.symm, ← hK2]
                clear hW2 hK2 hrun k0 k1 k2 k4 k5 k6
                cases ok with
                | false =>
                  have HK := Lib.hid (HNW.out HIT.out (fun z hz => by rcases HCS.out with ⟨h, _⟩ | ⟨_, h, _⟩; cases h; rw [h] at hz; cases hz))
                  obtain ⟨w5, hupd, hfm5, hg5⟩ := HFM2.out.upd HWF.out (by unfold maxLen; omega) (⟨xw, xn, xo, xv, xf, xt, xl⟩ : Fa)
                  unfold faC at hupd
                  simp only at hupd
                  have HFM5 := Lib.hid hfm5
                  have HB5 := Lib.hid (HB2.out.grown hg5 HB2.out.size (fun k hk => by obtain rfl := Option.some.inj hk; rw [← HM.out]; exact Nat.le_refl _))
                  clear HSK HWO HNW hfm5 hg5
                  go_wp2_with fail
                  go_roundw
                  case rel => exact ⟨i + 1, n + 1, by go_num, by omega, by omega, HB5.out, HFM5.out.congr (fun o _ => HK.out o)⟩
                  case measure => simp [intOf]; omega
                | true =>
                  have HYB := Lib.hid (show bestF wh nm on kn xo (l.take i) = some ⟨yw, yn, yo, yv, yf, yt, yl⟩ by
                    rcases HCS.out with ⟨_, h⟩ | ⟨h, _⟩
                    · exact h
                    · cases h)
                  by_cases hle : yl ≤ xl
                  · have HLE := Lib.hid hle
                    have HK := Lib.hid (HNW.out HIT.out (fun z hz => by have h := HYB.out; rw [h] at hz; obtain rfl := Option.some.inj hz; exact HLE.out))
                    obtain ⟨w5, hupd, hfm5, hg5⟩ := HFM2.out.upd HWF.out (by unfold maxLen; omega) (⟨xw, xn, xo, xv, xf, xt, xl⟩ : Fa)
                    unfold faC at hupd
                    simp only at hupd
                    have HFM5 := Lib.hid hfm5
                    have HB5 := Lib.hid (HB2.out.grown hg5 HB2.out.size (fun k hk => by obtain rfl := Option.some.inj hk; rw [← HM.out]; exact Nat.le_refl _))
                    clear HSK HWO HNW hfm5 hg5
                    go_wp2_with fail
                    go_roundw
                    case rel => exact ⟨i + 1, n + 1, by go_num, by omega, by omega, HB5.out, HFM5.out.congr (fun o _ => HK.out o)⟩
                    case measure => simp [intOf]; omega
                  · have HK := Lib.hid (HWO.out _ HYB.out hle)
                    clear HSK HWO HNW
                    go_wp2_with fail
                    go_roundw
                    case rel => exact ⟨i + 1, n, by go_num, by omega, by omega, HB2.out, HFM2.out.congr (fun o _ => HK.out o)⟩
                    case measure => simp [intOf]; omega
              · have q5 : (xt == 0) = false := by simp [ht]
                have q5b : (xt != 0) = true := by simp [ht]
                have HT0 := Lib.hid ht
                clear ht
                by_cases hto : xt ≤ on
                · have HTO := Lib.hid hto
                  have HK := Lib.hid (HSK.out (fun h => by rcases h.2.2.2.2 with h1 | h1; exact HT0.out h1; have h2 := HTO.out; simp only at h1; omega))
                  clear HSK HWO HNW
                  go_wp2_with fail
                  go_roundw
                  case rel => exact ⟨i + 1, n, by go_num, by omega, by omega, HB1.out, HFM1.out.congr (fun o _ => HK.out o)⟩
                  case measure => simp [intOf]; omega
                · have HIT := Lib.hid (show Hit wh nm on kn (⟨xw, xn, xo, xv, xf, xt, xl⟩ : Fa) from ⟨HW1.out, HN1.out, by have := HKN.out; show xl ≤ kn; omega, by show xf ≤ on; omega, .inr (by show on < xt; omega)⟩)
                  obtain ⟨y, ok, hrun, hcase⟩ := HFM1.out.look HWF.out
                  have by_ := Blk.new W 102 (faC y)
                  have hx2 := ext_alloc W (.cells (faC y).toArray 102)
                  obtain ⟨W2, hW2⟩ : ∃ W2, W2 = W.alloc (.cells (faC y).toArray 102) := ⟨_, rfl⟩
                  obtain ⟨K2, hK2⟩ : ∃ K2, K2 = W.heap.size := ⟨_, rfl⟩
                  rw [← hW2] at by_ hx2
                  rw [← hK2] at by_
                  have HB2 := Lib.hid (HB1.out.trans (hx2.mono HB1.out.size))
                  have HFM2 := Lib.hid (HFM1.out.ext hx2)
                  have hk2 := HBX.out.ext (hx2.mono (show K + 1 ≤ _ from HBX.out.lt))
                  have m0 := hk2.cell 0 rfl
                  have m1 := hk2.cell 1 rfl
                  have m2 := hk2.cell 2 rfl
                  have m3 := hk2.cell 3 rfl
                  have m4 := hk2.cell 4 rfl
                  have m5 := hk2.cell 5 rfl
                  have m6 := hk2.cell 6 rfl
                  have HCS := Lib.hid hcase
                  clear hk2 hx2 hcase
                  obtain ⟨yw, yn, yo, yv, yf, yt, yl⟩ := y
                  unfold faC at hrun by_ hW2
                  simp only at hrun by_ hW2
                  have p6 := by_.cell 6 rfl
                  clear by_
                  go_upto_region 7 with fail
                  rw [show W.alloc (.cells #[.int .i64 yw, .string ⟨yn.toArray⟩, .int .i64 yo, .int .i64 yv, .int .i64 yf, .int .i64 yt, .int .i64 yl] 102) = W2 from hW2.symm, ← hK2]
                  clear hW2 hK2 hrun k0 k1 k2 k4 k5 k6
                  cases ok with
                  | false =>
                    have HK := Lib.hid (HNW.out HIT.out (fun z hz => by rcases HCS.out with ⟨h, _⟩ | ⟨_, h, _⟩; cases h; rw [h] at hz; cases hz))
                    obtain ⟨w5, hupd, hfm5, hg5⟩ := HFM2.out.upd HWF.out (by unfold maxLen; omega) (⟨xw, xn, xo, xv, xf, xt, xl⟩ : Fa)
                    unfold faC at hupd
                    simp only at hupd
                    have HFM5 := Lib.hid hfm5
                    have HB5 := Lib.hid (HB2.out.grown hg5 HB2.out.size (fun k hk => by obtain rfl := Option.some.inj hk; rw [← HM.out]; exact Nat.le_refl _))
                    clear HSK HWO HNW hfm5 hg5
                    go_wp2_with fail
                    go_roundw
                    case rel => exact ⟨i + 1, n + 1, by go_num, by omega, by omega, HB5.out, HFM5.out.congr (fun o _ => HK.out o)⟩
                    case measure => simp [intOf]; omega
                  | true =>
                    have HYB := Lib.hid (show bestF wh nm on kn xo (l.take i) = some ⟨yw, yn, yo, yv, yf, yt, yl⟩ by
                      rcases HCS.out with ⟨_, h⟩ | ⟨h, _⟩
                      · exact h
                      · cases h)
                    by_cases hle : yl ≤ xl
                    · have HLE := Lib.hid hle
                      have HK := Lib.hid (HNW.out HIT.out (fun z hz => by have h := HYB.out; rw [h] at hz; obtain rfl := Option.some.inj hz; exact HLE.out))
                      obtain ⟨w5, hupd, hfm5, hg5⟩ := HFM2.out.upd HWF.out (by unfold maxLen; omega) (⟨xw, xn, xo, xv, xf, xt, xl⟩ : Fa)
                      unfold faC at hupd
                      simp only at hupd
                      have HFM5 := Lib.hid hfm5
                      have HB5 := Lib.hid (HB2.out.grown hg5 HB2.out.size (fun k hk => by obtain rfl := Option.some.inj hk; rw [← HM.out]; exact Nat.le_refl _))
                      clear HSK HWO HNW hfm5 hg5
                      go_wp2_with fail
                      go_roundw
                      case rel => exact ⟨i + 1, n + 1, by go_num, by omega, by omega, HB5.out, HFM5.out.congr (fun o _ => HK.out o)⟩
                      case measure => simp [intOf]; omega
                    · have HK := Lib.hid (HWO.out _ HYB.out hle)
                      clear HSK HWO HNW
                      go_wp2_with fail
                      go_roundw
                      case rel => exact ⟨i + 1, n, by go_num, by omega, by omega, HB2.out, HFM2.out.congr (fun o _ => HK.out o)⟩
                      case measure => simp [intOf]; omega
        · have q1 : (xw == wh) = true := by simp [hw]
          have q1b : (xw != wh) = false := by simp [hw]
          have q2 : (xn == nm) = false := by simpa using hn
          have HN1 := Lib.hid hn
          clear hw hn
          have HK := Lib.hid (HSK.out (fun h => by exact HN1.out h.2.1))
          clear HSK HWO HNW
          go_wp2_with fail
          go_roundw
          case rel => exact ⟨i + 1, n, by go_num, by omega, by omega, HB1.out, HFM1.out.congr (fun o _ => HK.out o)⟩
          case measure => simp [intOf]; omega
      · have q1 : (xw == wh) = false := by simp [hw]
        have q1b : (xw != wh) = true := by simp [hw]
        have HW1 := Lib.hid hw
        clear hw
        have HK := Lib.hid (HSK.out (fun h => by exact HW1.out h.1))
        clear HSK HWO HNW
        go_wp2_with fail
        go_roundw
        case rel => exact ⟨i + 1, n, by go_num, by omega, by omega, HB1.out, HFM1.out.congr (fun o _ => HK.out o)⟩
        case measure => simp [intOf]; omega
    · obtain rfl : l.length = i := by omega
      have hlc : ¬ (l.length : Int) < (l.length : Int) := by omega
      go_wp2_with fail
      go_ret
      have h := HFM.out
      rw [List.take_length] at h
      exact ⟨M, n, rfl, by omega, h, by rw [HM.out]; exact Nat.le_refl _, HB.out⟩
end Go.Proofs.YtnchlnfenebomaaGreatDoor.Fk

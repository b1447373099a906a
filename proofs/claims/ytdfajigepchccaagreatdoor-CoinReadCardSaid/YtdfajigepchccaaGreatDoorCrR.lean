/- An amount read from a text: the document's ReadCoin. -/
import Derived.Test.YtdfajigepchccaaGreatDoorCnW
import Derived.Test.YtdfajigepchccaaGreatDoorCrP
namespace Go.Proofs.YtdfajigepchccaaGreatDoor.Cn
open Go.RowKit Mem Rd Err Flt Nest

theorem rdigit_any (n : Int) (w : World) : Calls Tryz.prog 25 #[.int .u8 n] w (InB 48 57 n w) := by
  by_cases h1 : 48 ≤ n
  · by_cases h2 : n ≤ 57
    · go_enter Tryz.func25, Tryz.ntmps25
      go_wp2_with fail
      go_ret
      exact ⟨_, rfl, rfl, by simp [h1, h2]⟩
    · go_enter Tryz.func25, Tryz.ntmps25
      go_wp2_with fail
      go_ret
      exact ⟨_, rfl, rfl, by simp; omega⟩
  · go_enter Tryz.func25, Tryz.ntmps25
    go_wp2_with fail
    go_ret
    exact ⟨_, rfl, rfl, by simp; omega⟩
theorem rsmall_any (n : Int) (w : World) : Calls Tryz.prog 26 #[.int .i64 n] w (InB (-1000000000000) 1000000000000 n w) := by
  by_cases h1 : n ≤ 1000000000000
  · by_cases h2 : -1000000000000 ≤ n
    · go_enter Tryz.func26, Tryz.ntmps26
      go_wp2_with fail
      go_ret
      exact ⟨_, rfl, rfl, by simp [h1, h2]⟩
    · go_enter Tryz.func26, Tryz.ntmps26
      go_wp2_with fail
      go_ret
      exact ⟨_, rfl, rfl, by simp; omega⟩
  · go_enter Tryz.func26, Tryz.ntmps26
    go_wp2_with fail
    go_ret
    exact ⟨_, rfl, rfl, by simp; omega⟩
/-- the place of the document's answer -/
def FW (w wr : World) : Prop := Blk wr w.heap.size 28 [.int .i64 0, .int .i64 0] ∧ Below w.heap.size w wr
theorem f_ret {w wr : World} (h : FW w wr) (c a : Int) :
    ((wr.setCell ⟨w.heap.size, 0, none⟩ (.int .i64 c)).setCell ⟨w.heap.size, 1, none⟩ (.int .i64 a)).cell? ⟨w.heap.size, 0, none⟩ = some (.int .i64 c) ∧
    ((wr.setCell ⟨w.heap.size, 0, none⟩ (.int .i64 c)).setCell ⟨w.heap.size, 1, none⟩ (.int .i64 a)).cell? ⟨w.heap.size, 1, none⟩ = some (.int .i64 a) ∧
    Below w.heap.size w ((wr.setCell ⟨w.heap.size, 0, none⟩ (.int .i64 c)).setCell ⟨w.heap.size, 1, none⟩ (.int .i64 a)) := by
  have hb := (h.1.set 0 (.int .i64 c)).set 1 (.int .i64 a)
  exact ⟨hb.cell 0 rfl, hb.cell 1 rfl, (h.2.setCell (by simp) _).setCell (by simp) _⟩
def RCrd (s : List UInt8) (w : World) (e : Ending) (w' : World) : Prop := e = .returned (.tuple #[.int .i64 (coinF s).2.2, .agg #[.int .i64 (coinF s).1, .int .i64 (coinF s).2.1]]) ∧ Below w.heap.size w w'
theorem rcrd_of {s : List UInt8} {w w' : World} {o : Int × Int × Int} (ho : coinF s = o) (hb : Below w.heap.size w w') : RCrd s w (.returned (.tuple #[.int .i64 o.2.2, .agg #[.int .i64 o.1, .int .i64 o.2.1]])) w' :=
  ⟨by rw [ho], hb⟩
theorem neg_first (s : List UInt8) : neg s = true ↔ ∃ h : 0 < s.length, (s[0].toNat : Int) = 45 := by
  cases s with
  | nil => simp [neg]
  | cons c t =>
    simp only [neg, List.head?_cons, List.length_cons, List.getElem_cons_zero]
    constructor
    · intro h
      have : c = 45 := by simpa using h
      subst this; exact ⟨by omega, rfl⟩
    · rintro ⟨_, h⟩
      have : c = 45 := UInt8.toNat.inj (by simp; omega)
      simp [this]
theorem at_body {s b : List UInt8} {f i : Nat} (hb : b = body s) (hf : f = skip s) (h1 : f ≤ i) (h2 : i < s.length) : ∃ h : i - f < b.length, b[i - f] = s[i] := by
  subst hb hf
  have hl : i - skip s < (body s).length := by rw [body_len]; omega
  refine ⟨hl, ?_⟩
  have := body_at s (i - skip s)
  rw [show skip s + (i - skip s) = i by omega, List.getElem?_eq_getElem hl, List.getElem?_eq_getElem h2] at this
  exact Option.some.inj this
theorem start_not {b : List UInt8} {k : Nat} (h : k < b.length) (hk : k = 0) (hd : isD b[k] = false) : startB b = false := by
  subst hk
  cases b with
  | nil => simp at h
  | cons c t => exact hd
/-- the digits behind the dot, so far -/
def cval (r : List UInt8) (k : Nat) : Int := if k = 1 then 0 else if k = 2 then (dv (r.getD 1 0) : Nat) else ((dv (r.getD 1 0) * 10 + dv (r.getD 2 0) : Nat) : Int)
theorem cval_next {r : List UInt8} {k : Nat} {ct ci : Int} {x : UInt8} (h1 : 1 ≤ k) (h2 : k ≤ 2) (hc : ct = cval r k) (hr : r[k]? = some x) (hx : (x.toNat : Int) = ci) (h48 : 48 ≤ ci) : ct * 10 + (ci - 48) = cval r (k + 1) := by
  have hd : ((dv x : Nat) : Int) = ci - 48 := by unfold dv; omega
  rcases (show k = 1 ∨ k = 2 by omega) with rfl | rfl
  · have e : r.getD 1 0 = x := by rw [List.getD_eq_getElem?_getD, hr]; rfl
    rw [hc, ← hd]
    show (0 : Int) * 10 + _ = ((dv (r.getD 1 0) : Nat) : Int)
    rw [e]; omega
  · have e : r.getD 2 0 = x := by rw [List.getD_eq_getElem?_getD, hr]; rfl
    rw [hc, ← hd]
    show ((dv (r.getD 1 0) : Nat) : Int) * 10 + _ = ((dv (r.getD 1 0) * 10 + dv (r.getD 2 0) : Nat) : Int)
    rw [e]; omega
theorem cval_small {r : List UInt8} {k : Nat} {ct ci : Int} (h : k = 1) (hc : ct = cval r k) (hb : ci ≤ 57) : ct * 10 + (ci - 48) ≤ 9 := by
  subst h
  rw [hc]
  show (0 : Int) * 10 + (ci - 48) ≤ 9
  omega
theorem len_end {r : List UInt8} {k i n : Nat} (h : ∀ q, 1 ≤ q → q < k → digAt r q = true) (h1 : 1 ≤ k) (h2 : k ≤ 2) (hin : ¬ i + k < n) (hr : r.length = n - i) (hne : r ≠ []) : n = i + k := by
  have hp : 0 < r.length := List.length_pos_iff.2 hne
  rcases (show k = 1 ∨ k = 2 by omega) with rfl | rfl
  · omega
  · have := dig_len (h 1 (by omega) (by omega)); omega
theorem start_stop {b : List UInt8} (h : ∀ h : 0 < b.length, isDC b[0] = false) : startB b = false := by
  cases b with
  | nil => rfl
  | cons c t =>
    have := h (by simp)
    simp only [List.getElem_cons_zero, isDC, Bool.or_eq_false_iff] at this
    exact this.1
set_option maxRecDepth 100000 in
set_option maxHeartbeats 8000000 in
theorem rcread_any (s : List UInt8) (w : World) (hl : s.length ≤ 3000) :
    Calls Tryz.prog 8 #[.string ⟨s.toArray⟩] w (RCrd s w) := by
  have hx1 := ext_alloc w (.cells #[.int .i64 0, .int .i64 0] 28)
  have b2 := Blk.new w 28 [.int .i64 0, .int .i64 0]
  obtain ⟨W, hW⟩ : ∃ W, W = w.alloc (.cells #[.int .i64 0, .int .i64 0] 28) := ⟨_, rfl⟩
  have HF := Lib.hid (show FW w W by rw [hW]; exact ⟨b2, hx1⟩)
  have z0 := HF.out.1.cell 0 rfl
  have z1 := HF.out.1.cell 1 rfl
  have f0 := HF.out.1.free 0
  have f1 := HF.out.1.free 1
  clear hx1 b2
  obtain ⟨b, hb⟩ : ∃ b, b = body s := ⟨_, rfl⟩
  obtain ⟨f, hf⟩ : ∃ f, f = skip s := ⟨_, rfl⟩
  obtain ⟨ng, hng⟩ : ∃ ng, ng = neg s := ⟨_, rfl⟩
  have hfl : f ≤ s.length := by rw [hf]; exact skip_le s
  have hf1 : f ≤ 1 := by rw [hf]; unfold skip; split <;> omega
  have hbl : b.length = s.length - f := by rw [hb, hf, body_len]
  have hfn : f = if ng then 1 else 0 := by rw [hf, hng]; rfl
  have HB := Lib.hid hb
  have HFf := Lib.hid hf
  have HNg := Lib.hid hng
  have hls : (s.length : Int) ≤ 3000 := by omega
  clear hb hf hng
  go_enter Tryz.func8, Tryz.ntmps8
  go_upto_region 2 with fail
  rw [← hW]
  clear hW
  go_cut [5] (fun s5 wx => W = wx ∧ s5 = .bool ng)
  case first =>
    by_cases hs0 : 0 < s.length
    · have hs0c : (0 : Int) < (s.length : Int) := by omega
      have hsz : 0 < (ByteArray.mk s.toArray).size := hs0
      obtain ⟨c, hc⟩ : ∃ c : Int, (((ByteArray.mk s.toArray)[0]'hsz).toNat : Int) = c := ⟨_, rfl⟩
      have HC := Lib.hid (show (s[0].toNat : Int) = c from hc)
      by_cases h45 : c = 45
      · have hq : (c == 45) = true := by simp [h45]
        have hn : ng = true := by rw [HNg.out]; exact (neg_first s).2 ⟨hs0, by rw [HC.out]; exact h45⟩
        go_wp2_with fail
        go_meet
        exact ⟨rfl, by rw [hn]⟩
      · have hq : (c == 45) = false := by simp [h45]
        have hn : ng = false := by
          rw [HNg.out]
          cases hh : neg s with
          | false => rfl
          | true => obtain ⟨_, h⟩ := (neg_first s).1 hh; rw [HC.out] at h; exact absurd h h45
        go_wp2_with fail
        go_meet
        exact ⟨rfl, by rw [hn]⟩
    · have hs0c : ¬ (0 : Int) < (s.length : Int) := by omega
      have hn : ng = false := by
        rw [HNg.out]
        cases hh : neg s with
        | false => rfl
        | true => obtain ⟨h, _⟩ := (neg_first s).1 hh; exact absurd h hs0
      go_wp2_with fail
      go_meet
      exact ⟨rfl, by rw [hn]⟩
  case rest =>
    obtain ⟨hwx, rfl⟩ := hcut
    subst hwx
    go_upto_if 25 with fail
    go_cut [4] (fun s4 wx => W = wx ∧ s4 = .int .i64 (f : Int))
    case first =>
      cases ng
      · have hf' : f = 0 := by rw [hfn]; rfl
        go_wp2_with fail
        go_meet
        exact ⟨rfl, by rw [hf']; rfl⟩
      · have hf' : f = 1 := by rw [hfn]; rfl
        go_wp2_with fail
        go_meet
        exact ⟨rfl, by rw [hf']; rfl⟩
    case rest =>
      obtain ⟨hwx, rfl⟩ := hcut
      subst hwx
      clear hfn
      have HC0 := Lib.hid (CS.start b f)
      go_upto_block 0 with fail
      go_cut [4, 7, 8, 9, 10] (fun s4 s7 s8 s9 s10 wx => W = wx ∧ ∃ (i g : Nat) (wr : Bool) (cm nn : Int), s4 = .int .i64 i ∧ s7 = .int .i64 cm ∧ s8 = .int .i64 g ∧ s9 = .bool wr ∧ s10 = .int .i64 nn ∧ f ≤ i ∧ i ≤ s.length ∧ g ≤ i ∧ -1 ≤ cm ∧ cm ≤ 3000 ∧ 0 ≤ nn ∧ nn ≤ 11258999068426250 ∧ Hid (CS b f i g wr cm nn) ∧ Hid (∀ h : i - f < b.length, isDC b[i - f] = false))
      case first =>
        go_wp2_with fail
        go_loop [2, 4, 7, 8, 9, 10] (fun _ s4 s7 s8 s9 s10 => ∃ (i g : Nat) (wr : Bool) (cm nn : Int), s4 = .int .i64 i ∧ s7 = .int .i64 cm ∧ s8 = .int .i64 g ∧ s9 = .bool wr ∧ s10 = .int .i64 nn ∧ f ≤ i ∧ i ≤ s.length ∧ g ≤ i ∧ -1 ≤ cm ∧ cm ≤ 3000 ∧ 0 ≤ nn ∧ nn ≤ 11258999068426250 ∧ Hid (CS b f i g wr cm nn)) (fun _ s4 _ _ _ _ => (s.length - intOf s4).toNat)
        case atStart => exact ⟨f, 0, false, -1, 0, rfl, rfl, rfl, rfl, rfl, by omega, by omega, by omega, by omega, by omega, by omega, by omega, HC0.out⟩
        case round =>
          obtain ⟨i, g, wr, cm, nn, rfl, rfl, rfl, rfl, rfl, hi1, hi2, hgi, hcm1, hcm2, hn1, hn2, HC⟩ := hrel
          by_cases hlt : i < s.length
          · have hltc : (i : Int) < (s.length : Int) := by omega
            have hsz : i < (ByteArray.mk s.toArray).size := hlt
            obtain ⟨c, hc⟩ : ∃ c : Int, (((ByteArray.mk s.toArray)[i]'hsz).toNat : Int) = c := ⟨_, rfl⟩
            have HCc := Lib.hid (show (s[i].toNat : Int) = c from hc)
            have HAt := Lib.hid (at_body HB.out HFf.out hi1 hlt)
            have hgb : (g : Int) ≤ 3000 := by omega
            have hg0 : (0 : Int) ≤ (g : Int) := by omega
            go_wp2_with fail
            refine (rdigit_any _ _).mono ?_
            rintro e w' ⟨gd, rfl, hw', hgd⟩
            subst hw'
            have HGD := Lib.hid hgd
            clear hgd
            cases gd
            · by_cases hcm : c = 44
              · have hq : (c != 44) = false := by simp [hcm]
                have H44 := Lib.hid (show s[i] = 44 from UInt8.toNat.inj (by have := HCc.out; simp; omega))
                by_cases hif : i = f
                · have hfb : ((i : Int) == (f : Int)) = true := by rw [beq_iff_eq]; omega
                  have HIf := Lib.hid hif
                  clear hif
                  have hr := f_ret HF.out (1) ((i : Int))
                  have s0 := hr.1
                  have s1 := hr.2.1
                  have HBx := Lib.hid hr.2.2
                  clear hr
                  have HO := Lib.hid (show coinF s = ((1), ((i : Int)), 0) from by rw [HIf.out, HFf.out]; exact coin_start (by rw [← HB.out]; obtain ⟨hh, he⟩ := HAt.out; exact start_not hh (by have := HIf.out; omega) (by rw [he, H44.out]; decide)))
                  go_wp2_with fail
                  refine bodyPost_ret (v := .tuple #[.int .i64 (0), .agg #[.int .i64 (1), .int .i64 ((i : Int))]]) (by simp [results, Tryz.results8, go_sem, s0, s1]) rfl ?_
                  exact rcrd_of HO.out HBx.out
                · have hfb : ((i : Int) == (f : Int)) = false := by rw [beq_eq_false_iff_ne]; omega
                  have HIf := Lib.hid (show f < i by omega)
                  have H44b := Lib.hid (show b[i - f]'(HAt.out).1 = 44 by rw [(HAt.out).2]; exact H44.out)
                  clear hif
                  by_cases hc0 : cm < 0
                  · have HN := Lib.hid (HC.out.comma (cm' := i) (wr' := decide (3 < g)) HAt.out.1 H44b.out HIf.out (.inl ⟨hc0, rfl, rfl⟩))
                    go_wp2_with fail
                    go_round
                    case rel => exact ⟨i + 1, 0, decide (3 < g), i, nn, by go_num, rfl, rfl, by congr 1; simp; omega, rfl, by omega, by omega, by omega, by omega, by omega, by omega, by omega, HN.out⟩
                    case measure => simp [intOf]; omega
                  · by_cases hg3 : g = 3
                    · have hg3b : ((g : Int) != 3) = false := by simp; omega
                      have HN := Lib.hid (HC.out.comma (cm' := cm) (wr' := wr) HAt.out.1 H44b.out HIf.out (.inr ⟨by omega, rfl, by simp [hg3]⟩))
                      clear hg3
                      go_wp2_with fail
                      go_round
                      case rel => exact ⟨i + 1, 0, wr, cm, nn, by go_num, rfl, rfl, rfl, rfl, by omega, by omega, by omega, by omega, by omega, by omega, by omega, HN.out⟩
                      case measure => simp [intOf]; omega
                    · have hg3b : ((g : Int) != 3) = true := by rw [bne_iff_ne]; omega
                      have HN := Lib.hid (HC.out.comma (cm' := cm) (wr' := true) HAt.out.1 H44b.out HIf.out (.inr ⟨by omega, rfl, by simp [hg3]⟩))
                      clear hg3
                      go_wp2_with fail
                      go_round
                      case rel => exact ⟨i + 1, 0, true, cm, nn, by go_num, rfl, rfl, rfl, rfl, by omega, by omega, by omega, by omega, by omega, by omega, by omega, HN.out⟩
                      case measure => simp [intOf]; omega
              · have hq : (c != 44) = true := by rw [bne_iff_ne]; exact hcm
                have HNo := Lib.hid (show ∀ h : i - f < b.length, isDC b[i - f] = false from fun h => by
                  obtain ⟨hh, he⟩ := HAt.out
                  rw [he]
                  exact dc_no ⟨by rw [HCc.out]; exact (fun h => by have := HGD.out.2 h; cases this), by rw [HCc.out]; exact hcm⟩)
                go_wp2_with fail
                go_meet
                exact ⟨rfl, i, g, wr, cm, nn, rfl, rfl, rfl, rfl, rfl, hi1, hi2, hgi, hcm1, hcm2, hn1, hn2, HC.out, HNo.out⟩
            · have hcb := HGD.out.1 rfl
              obtain ⟨cb1, cb2⟩ := hcb
              have hq : (c != 44) = true := by rw [bne_iff_ne]; omega
              have hu : IntKind.u8.wrap (c - 48) = c - 48 := IntWalk.u8_in _ (by omega)
              have HDb := Lib.hid (show isD (b[i - f]'(HAt.out).1) = true by rw [(HAt.out).2]; exact isD_yes (by rw [HCc.out]; exact ⟨cb1, cb2⟩))
              have HDv := Lib.hid (show ((dv (b[i - f]'(HAt.out).1) : Nat) : Int) = c - 48 by rw [(HAt.out).2]; unfold dv; have := HCc.out; omega)
              by_cases hn : nn < 1125899906842624
              · have HN := Lib.hid (HC.out.digit (nn' := nn * 10 + (c - 48)) HAt.out.1 HDb.out (by rw [if_pos hn, HDv.out]))
                by_cases hif : i = f
                · have hfb : ((i : Int) == (f : Int)) = true := by rw [beq_iff_eq]; omega
                  clear hif
                  go_wp2_with fail
                  go_round
                  case rel => exact ⟨i + 1, g + 1, wr, cm, nn * 10 + (c - 48), by go_num, rfl, by go_num, rfl, rfl, by omega, by omega, by omega, by omega, by omega, by omega, by omega, HN.out⟩
                  case measure => simp [intOf]; omega
                · have hfb : ((i : Int) == (f : Int)) = false := by rw [beq_eq_false_iff_ne]; omega
                  clear hif
                  go_wp2_with fail
                  go_round
                  case rel => exact ⟨i + 1, g + 1, wr, cm, nn * 10 + (c - 48), by go_num, rfl, by go_num, rfl, rfl, by omega, by omega, by omega, by omega, by omega, by omega, by omega, HN.out⟩
                  case measure => simp [intOf]; omega
              · have HN := Lib.hid (HC.out.digit (nn' := nn) HAt.out.1 HDb.out (by rw [if_neg hn]))
                by_cases hif : i = f
                · have hfb : ((i : Int) == (f : Int)) = true := by rw [beq_iff_eq]; omega
                  clear hif
                  go_wp2_with fail
                  go_round
                  case rel => exact ⟨i + 1, g + 1, wr, cm, nn, by go_num, rfl, by go_num, rfl, rfl, by omega, by omega, by omega, by omega, by omega, by omega, by omega, HN.out⟩
                  case measure => simp [intOf]; omega
                · have hfb : ((i : Int) == (f : Int)) = false := by rw [beq_eq_false_iff_ne]; omega
                  clear hif
                  go_wp2_with fail
                  go_round
                  case rel => exact ⟨i + 1, g + 1, wr, cm, nn, by go_num, rfl, by go_num, rfl, rfl, by omega, by omega, by omega, by omega, by omega, by omega, by omega, HN.out⟩
                  case measure => simp [intOf]; omega
          · have hltc : ¬ (i : Int) < (s.length : Int) := by omega
            go_wp2_with fail
            go_meet
            exact ⟨rfl, i, g, wr, cm, nn, rfl, rfl, rfl, rfl, rfl, hi1, hi2, hgi, hcm1, hcm2, hn1, hn2, HC.out, fun h => absurd h (by omega)⟩
      case rest =>
        obtain ⟨hwx, i, g, wr, cm, nn, rfl, rfl, rfl, rfl, rfl, hi1, hi2, hgi, hcm1, hcm2, hn1, hn2, HC, HS⟩ := hcut
        subst hwx
        obtain ⟨hdg, hrs, hbad, hcmv⟩ := HC.out.stop HS.out
        obtain ⟨t, ht⟩ : ∃ t, t = b.take (i - f) := ⟨_, rfl⟩
        obtain ⟨r, hr⟩ : ∃ r, r = b.drop (i - f) := ⟨_, rfl⟩
        have htl : t.length = i - f := by rw [ht, List.length_take]; have := HC.out.le; omega
        have hrl : r.length = s.length - i := by rw [hr, List.length_drop]; omega
        have HTR := Lib.hid (show b = t ++ r by rw [ht, hr, List.take_append_drop])
        rw [← ht] at hdg hbad hcmv
        rw [← hr] at hrs
        have HDg := Lib.hid (show digs (body s) = t by rw [← HB.out]; exact hdg)
        have HRs := Lib.hid (show rest (body s) = r by rw [← HB.out]; exact hrs)
        have HBad := Lib.hid hbad
        have HCmv := Lib.hid hcmv
        have HNV := Lib.hid (show NV nn (valD (t.filter isD)) by rw [ht]; exact HC.out.nv)
        have HFs := Lib.hid HC.out.fs
        clear ht hr hdg hrs hbad hcmv HC HC0
        have hib : (i : Int) ≤ 3000 := by omega
        have hgb : (g : Int) ≤ 3000 := by omega
        by_cases hif : i = f
        · have hfb : ((i : Int) == (f : Int)) = true := by rw [beq_iff_eq]; omega
          have HIf := Lib.hid hif
          clear hif
          have hr := f_ret HF.out (1) ((i : Int))
          have s0 := hr.1
          have s1 := hr.2.1
          have HBx := Lib.hid hr.2.2
          clear hr
          have HO := Lib.hid (show coinF s = ((1), ((i : Int)), 0) from by rw [HIf.out, HFf.out]; exact coin_start (by rw [← HB.out]; exact start_stop (by have := HS.out; rw [HIf.out, Nat.sub_self] at this; exact this)))
          go_wp2_with fail
          refine bodyPost_ret (v := .tuple #[.int .i64 (0), .agg #[.int .i64 (1), .int .i64 ((i : Int))]]) (by simp [results, Tryz.results8, go_sem, s0, s1]) rfl ?_
          exact rcrd_of HO.out HBx.out
        · have hfb : ((i : Int) == (f : Int)) = false := by rw [beq_eq_false_iff_ne]; omega
          have HSt := Lib.hid (show startB (body s) = true by rw [← HB.out]; exact HFs.out (by omega))
          clear HFs
          go_upto_region 29 with fail
          go_cut [84] (fun s84 wx => W = wx ∧ s84 = .bool (badP (grps t)))
          case first =>
            by_cases hc : 0 ≤ cm
            · cases wr
              · by_cases hg3 : g = 3
                · have hg3b : ((g : Int) != 3) = false := by simp; omega
                  have hv : badP (grps t) = false := by rw [HBad.out]; simp [hg3]
                  clear hg3
                  go_wp2_with fail
                  go_meet
                  exact ⟨rfl, by rw [hv]⟩
                · have hg3b : ((g : Int) != 3) = true := by rw [bne_iff_ne]; omega
                  have hv : badP (grps t) = true := by rw [HBad.out]; simp [hg3, hc]
                  clear hg3
                  go_wp2_with fail
                  go_meet
                  exact ⟨rfl, by rw [hv]⟩
              · have hv : badP (grps t) = true := by rw [HBad.out]; simp [hc]
                go_wp2_with fail
                go_meet
                exact ⟨rfl, by rw [hv]⟩
            · have hv : badP (grps t) = false := by rw [HBad.out]; simp [hc]
              go_wp2_with fail
              go_meet
              exact ⟨rfl, by rw [hv]⟩
          case rest =>
            obtain ⟨hwx, rfl⟩ := hcut
            subst hwx
            by_cases hbd : badP (grps t) = true
            · have hc0 : 0 ≤ cm := by have := HBad.out; rw [hbd] at this; simp at this; exact this.1
              have HBd := Lib.hid hbd
              rw [hbd]
              clear hbd
              have hr := f_ret HF.out (1) (cm)
              have s0 := hr.1
              have s1 := hr.2.1
              have HBx := Lib.hid hr.2.2
              clear hr
              have HO := Lib.hid (show coinF s = ((1), (cm), 0) from by rw [HCmv.out hc0, HFf.out, Int.natCast_add]; exact coin_comma HSt.out HDg.out HBd.out)
              go_wp2_with fail
              refine bodyPost_ret (v := .tuple #[.int .i64 (0), .agg #[.int .i64 (1), .int .i64 (cm)]]) (by simp [results, Tryz.results8, go_sem, s0, s1]) rfl ?_
              exact rcrd_of HO.out HBx.out
            · have HBd := Lib.hid (show badP (grps t) = false by simpa using hbd)
              rw [show badP (grps t) = false by simpa using hbd]
              clear hbd
              go_upto_if 90 with fail
              go_cut [13] (fun s13 wx => W = wx ∧ ∃ ct : Int, s13 = .int .i64 ct ∧ 0 ≤ ct ∧ ct ≤ 99 ∧ Hid (∃ p, PartOk r p ∧ ct = (cents r : Nat)))
              case first =>
                by_cases hlt : i < s.length
                · have hltc : (i : Int) < (s.length : Int) := by omega
                  rw [show decide (i < s.length) = true by simp; omega]
                  have hsz : i < (ByteArray.mk s.toArray).size := hlt
                  obtain ⟨c, hc⟩ : ∃ c : Int, (((ByteArray.mk s.toArray)[i]'hsz).toNat : Int) = c := ⟨_, rfl⟩
                  have HCc := Lib.hid (show (s[i].toNat : Int) = c from hc)
                  have HR0 := Lib.hid (show r[0]? = some s[i] from by obtain ⟨hh, he⟩ := at_body HB.out HFf.out hi1 hlt; rw [← he]; exact at_rest HTR.out htl 0 (by omega))
                  by_cases hcm : c = 46
                  · have hq : (c != 46) = false := by simp [hcm]
                    have HRh := Lib.hid (show r.head? = some 46 by rw [List.head?_eq_getElem?, HR0.out]; congr 1; exact UInt8.toNat.inj (by have := HCc.out; simp; omega))
                    go_wp2_with fail
                    go_loop [2, 13, 14] (fun _ s13 s14 => ∃ (k : Nat) (ct : Int), s14 = .int .i64 k ∧ s13 = .int .i64 ct ∧ 1 ≤ k ∧ k ≤ 3 ∧ 0 ≤ ct ∧ ct ≤ 99 ∧ (k ≤ 2 → ct ≤ 9) ∧ Hid (∀ q, 1 ≤ q → q < k → digAt r q = true) ∧ Hid (ct = cval r k)) (fun _ _ s14 => (3 - intOf s14).toNat)
                    case atStart => exact ⟨1, 0, rfl, rfl, by omega, by omega, by omega, by omega, by omega, fun q h1 h2 => absurd h2 (by omega), rfl⟩
                    case round =>
                      obtain ⟨k, ct, rfl, rfl, hk1, hk2, hct0, hct1, hct2, HA, HCv⟩ := hrel
                      by_cases hk3 : k ≤ 2
                      · have hk3c : (k : Int) ≤ 2 := by omega
                        have hct9 := hct2 hk3
                        clear hct2
                        by_cases hin : i + k < s.length
                        · have hinc : (i : Int) + (k : Int) < (s.length : Int) := by omega
                          have hszi : i + k < (ByteArray.mk s.toArray).size := hin
                          obtain ⟨ci, hci⟩ : ∃ ci : Int, (((ByteArray.mk s.toArray)[i + k]'hszi).toNat : Int) = ci := ⟨_, rfl⟩
                          have HCi := Lib.hid (show (s[i + k].toNat : Int) = ci from hci)
                          have HRi := Lib.hid (show r[k]? = some s[i + k] from by
                            obtain ⟨hh, he⟩ := at_body HB.out HFf.out (show f ≤ i + k by omega) hin
                            rw [← he]
                            have := at_rest HTR.out htl k (by omega)
                            rw [this]; simp only [show i - f + k = i + k - f by omega])
                          go_wp2_with fail
                          refine (rdigit_any _ _).mono ?_
                          rintro e w3 ⟨gd, rfl, hw3, hgd⟩
                          subst hw3
                          have HGD := Lib.hid hgd
                          clear hgd
                          cases gd
                          · have HNo := Lib.hid (show digAt r k = false by unfold digAt; rw [HRi.out]; exact isD_no (by rw [HCi.out]; intro hh; have := HGD.out.2 hh; cases this))
                            have hr := f_ret HF.out (1) ((i : Int) + (k : Int))
                            have s0 := hr.1
                            have s1 := hr.2.1
                            have HBx := Lib.hid hr.2.2
                            clear hr
                            have HO := Lib.hid (show coinF s = ((1), ((i : Int) + (k : Int)), 0) from by rw [show (i : Int) + (k : Int) = ((skip s : Nat) : Int) + ((i - f + k : Nat) : Int) by have := HFf.out; omega]; exact coin_part htl HSt.out HDg.out HRs.out HBd.out HRh.out (by omega) (by omega) (by rw [show i - f + k - (i - f) = k by omega]; exact HA.out) (by rw [show i - f + k - (i - f) = k by omega]; exact HNo.out))
                            go_wp2_with fail
                            refine bodyPost_ret (v := .tuple #[.int .i64 (0), .agg #[.int .i64 (1), .int .i64 ((i : Int) + (k : Int))]]) (by simp [results, Tryz.results8, go_sem, s0, s1]) rfl ?_
                            exact rcrd_of HO.out HBx.out
                          · have hcb := HGD.out.1 rfl
                            obtain ⟨cb1, cb2⟩ := hcb
                            have hu : IntKind.u8.wrap (ci - 48) = ci - 48 := IntWalk.u8_in _ (by omega)
                            have HYes := Lib.hid (show digAt r k = true by unfold digAt; rw [HRi.out]; exact isD_yes (by rw [HCi.out]; exact ⟨cb1, cb2⟩))
                            have HNx := Lib.hid (show ct * 10 + (ci - 48) = cval r (k + 1) from cval_next (by omega) hk3 HCv.out HRi.out HCi.out (by omega))
                            go_wp2_with fail
                            go_round
                            case rel => exact ⟨k + 1, ct * 10 + (ci - 48), by go_num, rfl, by omega, by omega, by omega, by omega, fun h => cval_small (by omega) HCv.out cb2, fun q h1 h2 => if e : q = k then by rw [e]; exact HYes.out else HA.out q h1 (by omega), HNx.out⟩
                            case measure => simp [intOf]; omega
                        · have hinc : ¬ (i : Int) + (k : Int) < (s.length : Int) := by omega
                          have HNo := Lib.hid (show digAt r k = false from dig_none (by omega))
                          have HLn := Lib.hid (show s.length = i + k from len_end HA.out hk1 (by omega) hin hrl (by intro e; have := HR0.out; rw [e] at this; simp at this))
                          have hr := f_ret HF.out (1) ((s.length : Int))
                          have s0 := hr.1
                          have s1 := hr.2.1
                          have HBx := Lib.hid hr.2.2
                          clear hr
                          have HO := Lib.hid (show coinF s = ((1), ((s.length : Int)), 0) from by rw [HLn.out, show ((i + k : Nat) : Int) = ((skip s : Nat) : Int) + ((i - f + k : Nat) : Int) by have := HFf.out; omega]; exact coin_part htl HSt.out HDg.out HRs.out HBd.out HRh.out (by omega) (by omega) (by rw [show i - f + k - (i - f) = k by omega]; exact HA.out) (by rw [show i - f + k - (i - f) = k by omega]; exact HNo.out))
                          go_wp2_with fail
                          refine bodyPost_ret (v := .tuple #[.int .i64 (0), .agg #[.int .i64 (1), .int .i64 ((s.length : Int))]]) (by simp [results, Tryz.results8, go_sem, s0, s1]) rfl ?_
                          exact rcrd_of HO.out HBx.out
                      · have hk3c : ¬ (k : Int) ≤ 2 := by omega
                        obtain rfl : k = 3 := by omega
                        have HY1 := Lib.hid (HA.out 1 (by omega) (by omega))
                        have HY2 := Lib.hid (HA.out 2 (by omega) (by omega))
                        clear HA hct2
                        by_cases hl3 : i + 3 < s.length
                        · have hl3c : (i : Int) + 3 < (s.length : Int) := by omega
                          have hr := f_ret HF.out (1) ((i : Int) + 3)
                          have s0 := hr.1
                          have s1 := hr.2.1
                          have HBx := Lib.hid hr.2.2
                          clear hr
                          have HO := Lib.hid (show coinF s = ((1), ((i : Int) + 3), 0) from by rw [show (i : Int) + 3 = ((skip s : Nat) : Int) + ((t.length : Nat) : Int) + 3 by have := HFf.out; omega]; exact coin_more HSt.out HDg.out HRs.out HBd.out HRh.out HY1.out HY2.out (by omega))
                          go_wp2_with fail
                          refine bodyPost_ret (v := .tuple #[.int .i64 (0), .agg #[.int .i64 (1), .int .i64 ((i : Int) + 3)]]) (by simp [results, Tryz.results8, go_sem, s0, s1]) rfl ?_
                          exact rcrd_of HO.out HBx.out
                        · have hl3c : ¬ (i : Int) + 3 < (s.length : Int) := by omega
                          go_wp2_with fail
                          go_meet
                          obtain ⟨d1, d2, hrr, e1, e2⟩ := part_of HRh.out HY1.out HY2.out (by omega)
                          exact ⟨rfl, ct, rfl, hct0, hct1, [d1, d2], .inr ⟨d1, d2, hrr, e1, e2, rfl⟩, by rw [HCv.out, hrr]; rfl⟩
                  · have hq : (c != 46) = true := by rw [bne_iff_ne]; exact hcm
                    have hr := f_ret HF.out (1) ((i : Int))
                    have s0 := hr.1
                    have s1 := hr.2.1
                    have HBx := Lib.hid hr.2.2
                    clear hr
                    have HO := Lib.hid (show coinF s = ((1), ((i : Int)), 0) from by rw [show (i : Int) = ((skip s : Nat) : Int) + ((t.length : Nat) : Int) by have := HFf.out; omega]; exact coin_dot HSt.out HDg.out HRs.out HBd.out (by intro e; have := HR0.out; rw [e] at this; simp at this) (by rw [List.head?_eq_getElem?, HR0.out]; intro e; apply hcm; rw [← HCc.out, Option.some.inj e]; rfl))
                    go_wp2_with fail
                    refine bodyPost_ret (v := .tuple #[.int .i64 (0), .agg #[.int .i64 (1), .int .i64 ((i : Int))]]) (by simp [results, Tryz.results8, go_sem, s0, s1]) rfl ?_
                    exact rcrd_of HO.out HBx.out
                · have hltc : ¬ (i : Int) < (s.length : Int) := by omega
                  rw [show decide (i < s.length) = false by simp; omega]
                  go_wp2_with fail
                  go_meet
                  have hre : r = [] := List.length_eq_zero_iff.1 (by omega)
                  exact ⟨rfl, 0, rfl, by omega, by omega, [48, 48], .inl ⟨hre, rfl⟩, by rw [hre]; rfl⟩
              case rest =>
                obtain ⟨hwx, ct, rfl, hct0, hct1, HCt⟩ := hcut
                subst hwx
                have HOut := Lib.hid (show (1000000000000 < valD (t.filter isD) * 100 + cents r ↔ ¬ (nn * 100 + ct ≤ 1000000000000)) ∧ (nn * 100 + ct ≤ 1000000000000 → nn * 100 + ct = ((valD (t.filter isD) * 100 + cents r : Nat) : Int)) by
                  obtain ⟨p, hp, hc⟩ := HCt.out
                  rw [hc]
                  exact nv_out HNV.out (by omega))
                have HEnd := Lib.hid (show _ from (fun (h : ∃ p, PartOk r p ∧ ct = (cents r : Nat)) => by obtain ⟨p, hp, _⟩ := h; exact coin_end HSt.out HDg.out HRs.out HBd.out hp : (∃ p, PartOk r p ∧ ct = (cents r : Nat)) → coinF s = if 1000000000000 < valD (t.filter isD) * 100 + cents r then (3, 0, 0) else (0, -1, if neg s then -((valD (t.filter isD) * 100 + cents r : Nat) : Int) else ((valD (t.filter isD) * 100 + cents r : Nat) : Int))) HCt.out)
                go_wp2_with fail
                refine (rsmall_any _ _).mono ?_
                rintro e w6 ⟨gd, rfl, hw6, hgd⟩
                subst hw6
                have HGD := Lib.hid hgd
                clear hgd
                cases gd
                · have hbig : ¬ (nn * 100 + ct ≤ 1000000000000) := fun h => by have := HGD.out.2 ⟨by omega, h⟩; cases this
                  have hr := f_ret HF.out (3) (0)
                  have s0 := hr.1
                  have s1 := hr.2.1
                  have HBx := Lib.hid hr.2.2
                  clear hr
                  have HO := Lib.hid (show coinF s = ((3), (0), 0) from by rw [HEnd.out]; exact if_pos (by have := HOut.out.1; omega))
                  go_wp2_with fail
                  refine bodyPost_ret (v := .tuple #[.int .i64 (0), .agg #[.int .i64 (3), .int .i64 (0)]]) (by simp [results, Tryz.results8, go_sem, s0, s1]) rfl ?_
                  exact rcrd_of HO.out HBx.out
                · have hsm : nn * 100 + ct ≤ 1000000000000 := (HGD.out.1 rfl).2
                  have HO2 := Lib.hid (show coinF s = (0, -1, if ng then -(nn * 100 + ct) else nn * 100 + ct) by rw [HEnd.out, if_neg (by have := HOut.out.1; omega), HNg.out]; exact out_n _ (HOut.out.2 hsm))
                  cases ng
                  · skip
                    have hr := f_ret HF.out (0) (-1)
                    have s0 := hr.1
                    have s1 := hr.2.1
                    have HBx := Lib.hid hr.2.2
                    clear hr
                    have HO := Lib.hid (show coinF s = ((0), (-1), nn * 100 + ct) from HO2.out)
                    go_wp2_with fail
                    refine bodyPost_ret (v := .tuple #[.int .i64 (nn * 100 + ct), .agg #[.int .i64 (0), .int .i64 (-1)]]) (by simp [results, Tryz.results8, go_sem, s0, s1]) rfl ?_
                    exact rcrd_of HO.out HBx.out
                  · skip
                    have hr := f_ret HF.out (0) (-1)
                    have s0 := hr.1
                    have s1 := hr.2.1
                    have HBx := Lib.hid hr.2.2
                    clear hr
                    have HO := Lib.hid (show coinF s = ((0), (-1), -(nn * 100 + ct)) from HO2.out)
                    go_wp2_with fail
                    refine bodyPost_ret (v := .tuple #[.int .i64 (-(nn * 100 + ct)), .agg #[.int .i64 (0), .int .i64 (-1)]]) (by simp [results, Tryz.results8, go_sem, s0, s1]) rfl ?_
                    exact rcrd_of HO.out HBx.out
end Go.Proofs.YtdfajigepchccaaGreatDoor.Cn

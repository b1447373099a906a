/- The law WhyText answers true: the walk. -/
import Derived.Test.YtpbmamcmmogidaaDoorWtL
import Derived.Deep.DeepCutAuto
namespace Go.Proofs.YtpbmamcmmogidaaDoor.WhyText
open Go.RowKit Mem Nest Bld Err Flt Wt

theorem read_len (N : List (List UInt8)) : ∀ (rs : List (List UInt8)) (i : Nat) (acc : List St), (readF N rs i acc).2.2.length ≤ acc.length + rs.length
  | [], i, acc => by simp [readF]
  | r :: rs, i, acc => by
    rw [readF]
    cases rowF N r with
    | error e => simp
    | ok x =>
      have := read_len N rs (i + 1) (acc ++ [x])
      simp at this ⊢
      omega
theorem steps_len (N : List (List UInt8)) (s : List UInt8) : (stepsF N s).2.2.length ≤ s.length := by
  unfold stepsF
  split
  · simp
  · have := read_len N (rowsF s) 0 []
    have := rows_len s
    simp at *
    omega
theorem read_at (N : List (List UInt8)) : ∀ (rs : List (List UInt8)) (i : Nat) (acc : List St), (readF N rs i acc).1 = 0 → (readF N rs i acc).2.1 = -1
  | [], i, acc, _ => rfl
  | r :: rs, i, acc, h => by
    rw [readF] at h ⊢
    cases hr : rowF N r with
    | error e =>
      rw [hr] at h
      simp only at h
      subst h
      exfalso
      unfold rowF at hr
      split at hr
      · simp at hr
      · split at hr <;> simp at hr
    | ok x =>
      rw [hr] at h
      exact read_at N rs (i + 1) (acc ++ [x]) h
theorem steps_at (N : List (List UInt8)) (s : List UInt8) : (stepsF N s).1 = 0 → (stepsF N s).2.1 = -1 := by
  unfold stepsF
  split
  · intro h; simp at h
  · exact read_at N _ _ _
theorem names1 : Names [[97]] := ⟨by decide, fun x hx => by
  rw [List.mem_singleton] at hx
  subst hx
  exact ⟨by decide, by decide, fun c hc => by
    rw [List.mem_singleton] at hc
    subst hc
    exact .inl ⟨by decide, by decide⟩⟩, fun i j hi hj _ => by simp at hi hj; omega⟩
def fst : List UInt8 := [104, 111, 108, 100, 115, 32, 110, 111, 116, 32, 97, 10]
theorem fst_eq : textF [[97]] [(false, true, -1)] = fst := by decide
theorem perr_nil {A : Nat → Addr} {w : World} {a : Int} {v : Value} (h : PErr A w 0 a v) : v = .nilIface := by
  rcases h with ⟨_, h⟩ | ⟨c, _, h, _⟩
  · exact h
  · omega
set_option maxRecDepth 20000 in
set_option maxHeartbeats 8000000 in
theorem walk (l : List St) (hl : l.length ≤ 9223372036854775807) (hq : ∀ x ∈ l, Vq x.2.2) (LA : Option Addr) (lc : Nat) (N : List (List UInt8)) (hNl : N.length ≤ 9223372036854775807) (hNx : ∀ x ∈ N, x.length ≤ 9223372036854775807) (NA : Option Addr) (nc : Nat)
    (s : List UInt8) (hs : s.length ≤ 9223372036854775807) (A : Nat → Addr) (m : Int) (w : World) (hE : Errs w A) (hm : w.cell? ⟨15, 0, none⟩ = some (.int .i64 m)) (hL : Rd w LA (l.flatMap spC)) (hM : Rd w NA (N.map strV)) :
    Calls Tryd.prog 3 #[.slice LA l.length lc, .slice NA N.length nc, .string ⟨s.toArray⟩] w fun e w' => e = .returned (.bool true) ∧ Below w.heap.size w w' := by
  have HQ := Lib.hid hq
  have HNx := Lib.hid hNx
  have HE := Lib.hid hE
  have HMx := Lib.hid hm
  have HL := Lib.hid hL
  have HM := Lib.hid hM
  have b1 := Blk.new w 26 [.bool false, .bool true, .int .i64 (-1)]
  have hx1 := ext_alloc w (.cells (List.toArray [.bool false, .bool true, .int .i64 (-1)]) 26)
  obtain ⟨W1, hW1⟩ : ∃ W1, W1 = w.alloc (.cells (List.toArray [.bool false, .bool true, .int .i64 (-1)]) 26) := ⟨_, rfl⟩
  rw [← hW1] at b1 hx1
  have hs1 : W1.heap.size = w.heap.size + 1 := by rw [hW1]; simp
  have b2 := Blk.new W1 9 [.string ⟨#[97]⟩]
  have hx2 := ext_alloc W1 (.cells (List.toArray [.string ⟨#[97]⟩]) 9)
  obtain ⟨W2, hW2⟩ : ∃ W2, W2 = W1.alloc (.cells (List.toArray [.string ⟨#[97]⟩]) 9) := ⟨_, rfl⟩
  rw [← hW2] at b2 hx2
  rw [hs1] at b2
  have HT := Lib.hid (ptext_any [(false, true, -1)] (by decide) (fun x hx => by rw [List.mem_singleton] at hx; subst hx; exact ⟨by decide, by decide⟩) (some ⟨w.heap.size, 0, none⟩) 1 [[97]] names1 (some ⟨w.heap.size + 1, 0, none⟩) 1 W2 (rd_blk (b1.ext (hx2.mono (by rw [hs1]; exact Nat.le_refl _)))) (rd_blk b2))
  have HB2 := Lib.hid (ext_trans hx1 hx2)
  rw [fst_eq] at HT
  clear hq hNx hE hm hL hM b1 b2 hx1 hx2 hs1
  unfold fst at HT
  go_enter Tryd.func3, Tryd.ntmps3
  go_wp2_with fail
  rw [show w.alloc (.cells #[.bool false, .bool true, .int .i64 (-1)] 26) = W1 from hW1.symm]
  rw [show W1.alloc (.cells #[.string ⟨#[97]⟩] 9) = W2 from hW2.symm]
  clear hW1 hW2
  refine HT.out.mono ?_
  rintro e w1 ⟨rfl, hb1⟩
  have HB1 := Lib.hid (ext_trans HB2.out hb1)
  clear hb1 HT
  go_wp2_with fail
  refine (wordy_any N hNl HNx.out NA nc _ (HM.out.ext HB1.out)).mono ?_
  rintro e w2 ⟨b, rfl, hN, hb2⟩
  have HB3 := Lib.hid (ext_trans HB1.out hb2)
  clear hb2
  cases b with
  | false =>
    clear hN
    go_wp2_with fail
    go_ret
    exact ⟨rfl, HB3.out⟩
  | true =>
    have HN := Lib.hid (hN rfl)
    clear hN
    by_cases h200 : 200 < l.length
    · have h200c : (200 : Int) < (l.length : Int) := by omega
      go_wp2_with fail
      go_ret
      exact ⟨rfl, HB3.out⟩
    · have h200c : ¬ (200 : Int) < (l.length : Int) := by omega
      by_cases h3k : 3000 < s.length
      · have h3kc : (3000 : Int) < (s.length : Int) := by omega
        go_wp2_with fail
        go_ret
        exact ⟨rfl, HB3.out⟩
      · have h3kc : ¬ (3000 : Int) < (s.length : Int) := by omega
        have hl2 : l.length ≤ 200 := by omega
        have hn40 := HN.out.len
        go_wp2_with fail
        refine (lsteps_any l hl2 LA lc _ (HL.out.ext HB3.out)).mono ?_
        rintro e w3 ⟨L3, c3, rfl, hr3, hb3⟩
        have HR3 := Lib.hid hr3
        have HB4 := Lib.hid (ext_trans HB3.out hb3)
        clear hr3 hb3
        go_wp2_with fail
        refine (ptext_any l hl2 HQ.out L3 c3 N HN.out NA nc _ HR3.out (HM.out.ext HB4.out)).mono ?_
        have hul := Wt.take_len (N := N) HN.out hl2 l.length
        rw [List.take_length] at hul
        have HBK := Lib.hid (fun h => text_back HN.out l hl2 h)
        obtain ⟨U, hU⟩ : ∃ U, U = textF N l := ⟨_, rfl⟩
        rw [← hU] at hul HBK ⊢
        rintro e w4 ⟨rfl, hb4⟩
        have HB5 := Lib.hid (ext_trans HB4.out hb4)
        clear hb4
        go_wp2_with fail
        refine (rtext_any l hl2 HQ.out LA lc N HN.out NA nc _ (HL.out.ext HB5.out) (HM.out.ext HB5.out)).mono ?_
        rw [← hU]
        clear hU
        rintro e w5 ⟨rfl, hb5⟩
        have HB6 := Lib.hid (ext_trans HB5.out hb5)
        clear hb5
        go_wp2_with fail
        refine (pread_any s (by omega) N HN.out NA nc A m _ (HE.out.below HB6.out) (cell_ext HB6.out HMx.out) (HM.out.ext HB6.out)).mono ?_
        have hol := steps_len N s
        have HAT := Lib.hid (steps_at N s)
        have HRD := Lib.hid (fun w (h : Rd w NA (N.map strV)) => rread_any s (by omega) N HN.out NA nc w h)
        unfold PReadPost
        unfold RReadPost at HRD
        obtain ⟨o, ho⟩ : ∃ o, o = stepsF N s := ⟨_, rfl⟩
        rw [← ho] at hol HAT HRD ⊢
        clear ho
        obtain ⟨oc, oa, ol⟩ := o
        simp only at hol HAT HRD ⊢
        rintro e w6 ⟨v6, L6, c6, rfl, hp6, hr6, hb6⟩
        have HP6 := Lib.hid hp6
        have HR6 := Lib.hid hr6
        have HB7 := Lib.hid (ext_trans HB6.out hb6)
        clear hp6 hr6 hb6
        go_wp2_with fail
        refine (HRD.out _ (HM.out.ext HB7.out)).mono ?_
        rintro e w7 ⟨L7, c7, rfl, hr7, hb7⟩
        have HB8 := Lib.hid (ext_trans HB7.out hb7)
        have hP7 := HP6.out.ext hb7
        have hR6 := HR6.out.ext hb7
        have bf := Blk.new w7 36 [.int .i64 oc, .int .i64 oa]
        have hxf := ext_alloc w7 (.cells (List.toArray [.int .i64 oc, .int .i64 oa]) 36)
        obtain ⟨F, hF⟩ : ∃ F, F = w7.heap.size := ⟨_, rfl⟩
        obtain ⟨W8, hW8⟩ : ∃ W8, W8 = w7.alloc (.cells (List.toArray [.int .i64 oc, .int .i64 oa]) 36) := ⟨_, rfl⟩
        rw [← hW8] at bf hxf
        rw [← hF] at bf
        have HB9 := Lib.hid (ext_trans HB8.out hxf)
        have HP8 := Lib.hid (hP7.ext hxf)
        have HR8 := Lib.hid (hR6.ext hxf)
        have HS8 := Lib.hid (hr7.ext hxf)
        have HF8 := Lib.hid bf
        clear hr7 hb7 hP7 hR6 bf hxf HRD HP6 HR6
        go_upto_region 12 with fail
        rw [show w7.alloc (.cells #[.int .i64 oc, .int .i64 oa] 36) = W8 from hW8.symm, ← hF]
        clear hW8 hF
        go_wp2_with fail
        refine (code_any HP8.out (HE.out.below HB9.out) HAT.out).mono ?_
        rintro e w9 ⟨rfl, hb9⟩
        have HB10 := Lib.hid (ext_trans HB9.out hb9)
        have HR9 := Lib.hid (HR8.out.ext hb9)
        have HS9 := Lib.hid (HS8.out.ext hb9)
        have hf9 := HF8.out.ext (hb9.mono (show F + 1 ≤ _ from HF8.out.lt))
        have q0 := hf9.cell 0 rfl
        have q1 := hf9.cell 1 rfl
        clear hb9 hf9 HP8 HR8 HS8 HF8
        go_upto_region 13 with fail
        go_cut [85] (fun s85 wx => w9 = wx ∧ s85 = .bool false)
        case first =>
          by_cases hoc : 0 < oc
          · go_wp2_with fail
            go_meet
            exact ⟨rfl, rfl⟩
          · go_wp2_with fail
            go_meet
            exact ⟨rfl, rfl⟩
        case rest =>
          obtain ⟨hwx, rfl⟩ := hcut
          subst hwx
          clear q0 q1
          go_wp2_with fail
          go_loopw [16] (fun t16 wr => ∃ i : Nat, t16 = .int .i64 i ∧ i ≤ ol.length ∧ Hid (Below w9.heap.size w9 wr)) (fun t16 _ => ol.length - (intOf t16).toNat)
          case atStart => exact ⟨0, rfl, Nat.zero_le _, Below.refl _ _⟩
          case round =>
            obtain ⟨i, rfl, hi, HB⟩ := hrel
            by_cases hlt : i < ol.length
            · have hltc : (i : Int) < (ol.length : Int) := by omega
              obtain ⟨xb, xo, rfl, r0, r1, r2⟩ := st_at (HR9.out.ext HB.out) hlt
              obtain ⟨yb, yo, rfl, p0, p1, p2⟩ := st_at (HS9.out.ext HB.out) hlt
              obtain ⟨x, hx⟩ : ∃ x, x = ol[i] := ⟨_, rfl⟩
              rw [← hx] at r0 r1 r2 p0 p1 p2
              clear hx
              obtain ⟨xa, xc, xq⟩ := x
              simp only at r0 r1 r2 p0 p1 p2
              have hNE := fun w => st_neq_self xa xc xq w
              have hG := st_guard
              go_wp2_with fail
              go_region_held3 (fun w' => w'.cell? ⟨xb, xo + i * 3, none⟩ = some (.bool xa) ∧ w'.cell? ⟨xb, xo + i * 3 + 1, none⟩ = some (.bool xc) ∧ w'.cell? ⟨xb, xo + i * 3 + 2, none⟩ = some (.int .i64 xq) ∧ w'.cell? ⟨yb, yo + i * 3, none⟩ = some (.bool xa) ∧ w'.cell? ⟨yb, yo + i * 3 + 1, none⟩ = some (.bool xc) ∧ w'.cell? ⟨yb, yo + i * 3 + 2, none⟩ = some (.int .i64 xq))
                ((first | exact ⟨cell_ext HBc.out r0, cell_ext HBc.out r1, cell_ext HBc.out r2, cell_ext HBc.out p0, cell_ext HBc.out p1, cell_ext HBc.out p2⟩ | exact ⟨cell_ext (show Below wr.heap.size wr wr.drew from ext_drewN wr 1) r0, cell_ext (show Below wr.heap.size wr wr.drew from ext_drewN wr 1) r1, cell_ext (show Below wr.heap.size wr wr.drew from ext_drewN wr 1) r2, cell_ext (show Below wr.heap.size wr wr.drew from ext_drewN wr 1) p0, cell_ext (show Below wr.heap.size wr wr.drew from ext_drewN wr 1) p1, cell_ext (show Below wr.heap.size wr wr.drew from ext_drewN wr 1) p2⟩))
                ((go_at_call 18; refine (lstep_any xa xc xq _).mono ?_; rintro e wc ⟨rfl, hbc⟩; have HBc := Lib.hid (ext_trans (show Below wr.heap.size wr wr.drew from ext_drewN wr 1) hbc); clear hbc))
              go_wp2_with fail
              go_roundw
              case rel => exact ⟨i + 1, by go_num, by omega, ext_trans HB.out HBc.out⟩
              case measure => simp [intOf]; omega
            · obtain rfl : ol.length = i := by omega
              have hlc : ¬ (ol.length : Int) < (ol.length : Int) := by omega
              have HB11 := Lib.hid (ext_trans HB10.out HB.out)
              have HLr := Lib.hid (HL.out.ext HB11.out)
              clear HR9 HS9 HB
              go_wp2_with fail
              go_loop [17] (fun t17 => ∃ i : Nat, t17 = .int .i64 i ∧ i ≤ l.length ∧ Hid (∀ k (h : k < l.length), k < i → l[k].2.2 ≠ 0 ∧ l[k].2.2 ≤ N.length ∧ -(N.length : Int) ≤ l[k].2.2)) (fun t17 => l.length - (intOf t17).toNat)
              case atStart => exact ⟨0, rfl, Nat.zero_le _, fun k h hk => absurd hk (by omega)⟩
              case round =>
                obtain ⟨i, rfl, hi, HA⟩ := hrel
                by_cases hlt : i < l.length
                · have hltc : (i : Int) < (l.length : Int) := by omega
                  obtain ⟨lb, lo, rfl, _, _, r2⟩ := st_at HLr.out hlt
                  obtain ⟨hv1, hv2⟩ := HQ.out _ (List.getElem_mem hlt)
                  obtain ⟨q, hqq⟩ : ∃ q, q = l[i].2.2 := ⟨_, rfl⟩
                  rw [← hqq] at r2 hv1 hv2
                  have HX := Lib.hid hqq
                  clear hqq
                  by_cases hq0 : q = 0
                  · have hqc : (q == 0) = true := by simp [hq0]
                    clear hq0
                    go_wp2_with fail
                    go_ret
                    exact ⟨rfl, HB11.out⟩
                  · have hqc : (q == 0) = false := by simp [hq0]
                    by_cases hb : (N.length : Int) < q
                    · go_wp2_with fail
                      go_ret
                      exact ⟨rfl, HB11.out⟩
                    · by_cases hc : q < -(N.length : Int)
                      · go_wp2_with fail
                        go_ret
                        exact ⟨rfl, HB11.out⟩
                      · have HOK := Lib.hid (show q ≠ 0 ∧ q ≤ N.length ∧ -(N.length : Int) ≤ q from ⟨hq0, by omega, by omega⟩)
                        go_wp2_with fail
                        go_round
                        case rel =>
                          refine ⟨i + 1, by go_num, by omega, fun k h hk => ?_⟩
                          by_cases e : k = i
                          · subst e; rw [← HX.out]; exact HOK.out
                          · exact HA.out k h (by omega)
                        case measure => simp [intOf]; omega
                · obtain rfl : l.length = i := by omega
                  have hlc2 : ¬ (l.length : Int) < (l.length : Int) := by omega
                  have HOUT := Lib.hid (HBK.out (fun x hx => by
                    obtain ⟨k, hk, e⟩ := List.getElem_of_mem hx
                    rw [← e]
                    exact HA.out k hk hk))
                  clear HA HBK
                  go_wp2_with fail
                  refine (pread_any U (by omega) N HN.out NA nc A m _ (HE.out.below HB11.out) (cell_ext HB11.out HMx.out) (HM.out.ext HB11.out)).mono ?_
                  unfold PReadPost
                  rw [HOUT.out]
                  rintro e w10 ⟨v10, L10, c10, rfl, hp10, hr10, hb10⟩
                  obtain rfl := perr_nil hp10
                  have HR10 := Lib.hid hr10
                  have HB12 := Lib.hid (ext_trans HB11.out hb10)
                  have HL10 := Lib.hid (HLr.out.ext hb10)
                  clear hp10 hr10 hb10
                  go_wp2_with fail
                  go_loopw [18] (fun t18 wr => ∃ i : Nat, t18 = .int .i64 i ∧ i ≤ l.length ∧ Hid (Below w10.heap.size w10 wr)) (fun t18 _ => l.length - (intOf t18).toNat)
                  case atStart => exact ⟨0, rfl, Nat.zero_le _, Below.refl _ _⟩
                  case round =>
                    obtain ⟨i, rfl, hi, HB⟩ := hrel
                    by_cases hlt : i < l.length
                    · have hltc : (i : Int) < (l.length : Int) := by omega
                      obtain ⟨xb, xo, rfl, r0, r1, r2⟩ := st_at (HR10.out.ext HB.out) hlt
                      obtain ⟨yb, yo, rfl, p0, p1, p2⟩ := st_at (HL10.out.ext HB.out) hlt
                      obtain ⟨x, hx⟩ : ∃ x, x = l[i] := ⟨_, rfl⟩
                      rw [← hx] at r0 r1 r2 p0 p1 p2
                      clear hx
                      obtain ⟨xa, xc, xq⟩ := x
                      simp only at r0 r1 r2 p0 p1 p2
                      have hNE := fun w => st_neq_self xa xc xq w
                      have hG := st_guard
                      go_wp2_with fail
                      go_region_held3 (fun w' => w'.cell? ⟨xb, xo + i * 3, none⟩ = some (.bool xa) ∧ w'.cell? ⟨xb, xo + i * 3 + 1, none⟩ = some (.bool xc) ∧ w'.cell? ⟨xb, xo + i * 3 + 2, none⟩ = some (.int .i64 xq) ∧ w'.cell? ⟨yb, yo + i * 3, none⟩ = some (.bool xa) ∧ w'.cell? ⟨yb, yo + i * 3 + 1, none⟩ = some (.bool xc) ∧ w'.cell? ⟨yb, yo + i * 3 + 2, none⟩ = some (.int .i64 xq))
                        ((first | exact ⟨cell_ext HBc.out r0, cell_ext HBc.out r1, cell_ext HBc.out r2, cell_ext HBc.out p0, cell_ext HBc.out p1, cell_ext HBc.out p2⟩ | exact ⟨cell_ext (show Below wr.heap.size wr wr.drew from ext_drewN wr 1) r0, cell_ext (show Below wr.heap.size wr wr.drew from ext_drewN wr 1) r1, cell_ext (show Below wr.heap.size wr wr.drew from ext_drewN wr 1) r2, cell_ext (show Below wr.heap.size wr wr.drew from ext_drewN wr 1) p0, cell_ext (show Below wr.heap.size wr wr.drew from ext_drewN wr 1) p1, cell_ext (show Below wr.heap.size wr wr.drew from ext_drewN wr 1) p2⟩))
                        ((go_at_call 18; refine (lstep_any xa xc xq _).mono ?_; rintro e wc ⟨rfl, hbc⟩; have HBc := Lib.hid (ext_trans (show Below wr.heap.size wr wr.drew from ext_drewN wr 1) hbc); clear hbc))
                      go_wp2_with fail
                      go_roundw
                      case rel => exact ⟨i + 1, by go_num, by omega, ext_trans HB.out HBc.out⟩
                      case measure => simp [intOf]; omega
                    · obtain rfl : l.length = i := by omega
                      have hlc3 : ¬ (l.length : Int) < (l.length : Int) := by omega
                      go_wp2_with fail
                      go_ret
                      exact ⟨rfl, ext_trans HB12.out HB.out⟩
end Go.Proofs.YtpbmamcmmogidaaDoor.WhyText

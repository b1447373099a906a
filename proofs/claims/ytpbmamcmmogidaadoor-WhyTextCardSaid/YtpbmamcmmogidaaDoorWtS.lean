/- An explanation's text: the program's (a strings.Builder) and the document's. -/
import Derived.Test.YtpbmamcmmogidaaDoorWtR
import Derived.Test.YtpbmamcmmogidaaDoorBld
namespace Go.Proofs.YtpbmamcmmogidaaDoor.Wt
open Go.RowKit Mem Nest Bld

def StrPost (l : List UInt8) (w : World) (e : Ending) (w' : World) : Prop := e = .returned (.string ⟨l.toArray⟩) ∧ Below w.heap.size w w'
def spC (x : St) : List Value := [.bool x.1, .bool x.2.1, .int .i64 x.2.2]
theorem spC_len (x : St) : (spC x).length = 3 := rfl
theorem st_at {w : World} {A : Option Addr} {l : List St} (h : Rd w A (l.flatMap spC)) {k : Nat} (hk : k < l.length) :
    ∃ b o, A = some ⟨b, o, none⟩ ∧ w.cell? ⟨b, o + k * 3, none⟩ = some (.bool l[k].1) ∧ w.cell? ⟨b, o + k * 3 + 1, none⟩ = some (.bool l[k].2.1) ∧ w.cell? ⟨b, o + k * 3 + 2, none⟩ = some (.int .i64 l[k].2.2) := by
  obtain ⟨b, o, e, hc⟩ := h.row spC_len hk (by omega)
  exact ⟨b, o, e, by simpa using hc 0 _ rfl, by simpa [Nat.add_assoc] using hc 1 _ rfl, by simpa [Nat.add_assoc] using hc 2 _ rfl⟩
theorem name_at {w : World} {A : Option Addr} {N : List (List UInt8)} (h : Rd w A (N.map strV)) {k : Nat} (hk : k < N.length) :
    ∃ b o, A = some ⟨b, o, none⟩ ∧ w.cell? ⟨b, o + k, none⟩ = some (.string ⟨N[k].toArray⟩) := by
  obtain ⟨b, o, e, hc⟩ := h.at_ (k := k) (by rw [List.length_map]; exact hk)
  exact ⟨b, o, e, by simpa [strV] using hc⟩
def Vq (q : Int) : Prop := -9223372036854775808 ≤ q ∧ q ≤ 9223372036854775807
set_option maxHeartbeats 400000 in
theorem said_any (a b : Bool) (q : Int) (w : World) :
    Calls Tryd.prog 68 #[.agg #[.bool a, .bool b, .int .i64 q]] w fun e w' => e = .returned (.string ⟨(kw a b).toArray⟩) ∧ Below w.heap.size w w' := by
  cases a <;> cases b
  all_goals
    go_enter Tryd.func68, Tryd.ntmps68
    go_wp2_with fail
    go_ret
    exact ⟨rfl, ext_alloc _ _⟩
/-- a block that is not the builder's and holds no bytes stays -/
theorem blk_oth {w w' : World} {b K : Nat} {T : TypeId} {cs : List Value} (h : Blk w K T cs) (ho : Oth b w w') (hne : K ≠ b) (hT : T ≠ 5) : Blk w' K T cs := by
  unfold Blk at h ⊢
  exact ho K _ h (fun e => hne (Option.some.inj e)) (fun c fz e => by
    simp only [Obj.cells.injEq] at e
    exact hT e.2.1)
theorem text_take {N : List (List UInt8)} {l : List St} {i : Nat} (h : i < l.length) : textF N (l.take (i + 1)) = textF N (l.take i) ++ (lineF N l[i] ++ [10]) := by
  unfold textF
  rw [List.take_succ_eq_append_getElem h, List.flatMap_append]
  simp
theorem take_len {N : List (List UInt8)} (h : Names N) {l : List St} (hl : l.length ≤ 200) (i : Nat) : (textF N (l.take i)).length ≤ 8000 := by
  have := text_len h (l.take i)
  have : (l.take i).length ≤ l.length := by rw [List.length_take]; omega
  omega
theorem lit_len {N : List (List UInt8)} (h : Names N) (q : Int) : (litF N q).length ≤ 34 := by
  have := line_len h (true, true, q)
  unfold lineF at this
  simp [kw] at this
  omega
theorem lit_bad {N : List (List UInt8)} {q : Int} (h : q.natAbs < 1 ∨ N.length < q.natAbs) : litF N q = [63] := by unfold litF; rw [if_pos h]
theorem lit_neg {N : List (List UInt8)} {q : Int} {k : Nat} (hq : q = -((k : Int) + 1)) (hk : k < N.length) : litF N q = notW ++ N[k] := by
  have e : q.natAbs - 1 = k := by omega
  unfold litF
  rw [if_neg (by omega), if_pos (by omega), e, getD_get N k hk]
theorem lit_pos {N : List (List UInt8)} {q : Int} {k : Nat} (hq : q = (k : Int) + 1) (hk : k < N.length) : litF N q = N[k] := by
  have e : q.natAbs - 1 = k := by omega
  unfold litF
  rw [if_neg (by omega), if_neg (by omega), e, getD_get N k hk]
set_option maxRecDepth 20000 in
set_option maxHeartbeats 4000000 in
theorem ptext_any (l : List St) (hl : l.length ≤ 200) (hq : ∀ x ∈ l, Vq x.2.2) (LA : Option Addr) (lc : Nat) (N : List (List UInt8)) (hN : Names N) (NA : Option Addr) (nc : Nat) (w : World) (hL : Rd w LA (l.flatMap spC)) (hM : Rd w NA (N.map strV)) :
    Calls Tryd.prog 11 #[.slice LA l.length lc, .slice NA N.length nc] w (StrPost (textF N l) w) := by
  have HQ := Lib.hid hq
  have HL := Lib.hid hL
  have HM := Lib.hid hM
  have HN := Lib.hid hN
  have hn40 : (N.length : Int) ≤ 40 := by have := hN.len; omega
  have b0 := Bd.new w
  have hx0 := ext_alloc w (.cells #[.pointer none, .slice none 0 0] 143)
  obtain ⟨W, hW⟩ : ∃ W, W = w.alloc (.cells #[.pointer none, .slice none 0 0] 143) := ⟨_, rfl⟩
  rw [← hW] at b0 hx0
  obtain ⟨B, hB⟩ : ∃ B, B = w.heap.size := ⟨_, rfl⟩
  rw [← hB] at b0
  have HBd0 := Lib.hid b0
  have HB0 := Lib.hid hx0
  have HBB := Lib.hid hB
  clear hq hL hM hN b0 hx0
  go_enter Tryd.func11, Tryd.ntmps11
  go_upto_region 2 with fail
  rw [← hW, ← hB]
  clear hW hB
  go_wp2_with fail
  go_loopw [11] (fun t11 wr => ∃ i : Nat, t11 = .int .i64 i ∧ i ≤ l.length ∧ Hid (Below w.heap.size w wr) ∧ Hid (Bd wr B B (textF N (l.take i)))) (fun t11 _ => l.length - (intOf t11).toNat)
  case atStart => exact ⟨0, rfl, Nat.zero_le _, HB0.out, HBd0.out⟩
  case round =>
    obtain ⟨i, rfl, hi, HB, HBd⟩ := hrel
    by_cases hlt : i < l.length
    · have hltc : (i : Int) < (l.length : Int) := by omega
      obtain ⟨lb, lo, rfl, r0, r1, r2⟩ := st_at (HL.out.ext HB.out) hlt
      have HV := Lib.hid (HQ.out _ (List.getElem_mem hlt))
      obtain ⟨x, hx⟩ : ∃ x, x = l[i] := ⟨_, rfl⟩
      rw [← hx] at r0 r1 r2 HV
      have HX := Lib.hid hx
      clear hx
      obtain ⟨xa, xb, q⟩ := x
      simp only at r0 r1 r2
      have kb := Blk.new wr 26 [.bool xa, .bool xb, .int .i64 q]
      have kx := ext_alloc wr (.cells (List.toArray [.bool xa, .bool xb, .int .i64 q]) 26)
      obtain ⟨K, hK⟩ : ∃ K, K = wr.heap.size := ⟨_, rfl⟩
      have hKB : B < K := by rw [hK]; exact HBd.out.lt
      obtain ⟨W1, hW1⟩ : ∃ W1, W1 = wr.alloc (.cells (List.toArray [.bool xa, .bool xb, .int .i64 q]) 26) := ⟨_, rfl⟩
      rw [← hW1] at kb kx
      rw [← hK] at kb
      have HB1 := Lib.hid (HB.out.trans (kx.mono HB.out.size))
      have HBd1 := Lib.hid (HBd.out.ext kx)
      have HK1 := Lib.hid kb
      have c0 := kb.cell 0 rfl
      have c1 := kb.cell 1 rfl
      have c2 := kb.cell 2 rfl
      have HKB := Lib.hid hKB
      clear kb kx hKB
      go_upto_region 5 with fail
      rw [show wr.alloc (.cells #[.bool xa, .bool xb, .int .i64 q] 26) = W1 from hW1.symm, ← hK]
      clear hW1 hK r0 r1 r2
      have hkl := kw_len xa xb
      have HSD := Lib.hid (fun w => said_any xa xb q w)
      have HLN := Lib.hid (show lineF N (xa, xb, q) = kw xa xb ++ [32] ++ litF N q from rfl)
      obtain ⟨k, hk⟩ : ∃ k, k = kw xa xb := ⟨_, rfl⟩
      rw [← hk] at hkl HSD HLN
      clear hk
      have hkx : ¬ 9223372036854775807 < k.length + 1 := by omega
      go_upto_region 5 with fail
      go_wp2_with fail
      refine (HSD.out _).mono ?_
      rintro e w1 ⟨rfl, hb1⟩
      have HB2 := Lib.hid (HB1.out.trans (hb1.mono HB1.out.size))
      have HBd2 := Lib.hid (HBd1.out.ext hb1)
      have HK2 := Lib.hid (HK1.out.ext (hb1.mono (show K + 1 ≤ _ from HK1.out.lt)))
      clear hb1 HSD
      go_wp2_with fail
      refine (write_any B B (textF N (l.take i)) (k ++ [32]) _ (ba_cat k [32]) _ HBd2.out (by have := take_len HN.out hl i; simp; omega) (by rw [HBB.out]; exact HB2.out.size)).mono ?_
      rintro e w2 ⟨⟨n, rfl⟩, hbd, hb2, ho2⟩
      have HB3 := Lib.hid (HB2.out.trans (by rw [← HBB.out]; exact hb2))
      have HBd3 := Lib.hid hbd
      have hk3 := blk_oth HK2.out ho2 (Nat.ne_of_gt HKB.out) (by decide)
      have HK3 := Lib.hid hk3
      have d2 := hk3.cell 2 rfl
      clear hbd hb2 ho2 hk3 c0 c1 c2
      have hv1 : -9223372036854775808 ≤ q := HV.out.1
      have hv2 : q ≤ 9223372036854775807 := HV.out.2
      by_cases hm : q = -9223372036854775808
      · have HLT := Lib.hid (lit_bad (N := N) (q := q) (.inr (by have := HN.out.len; omega)))
        have hq1 : q < 0 := by omega
        have hwr : wrap64 9223372036854775808 = -9223372036854775808 := by kernel_rfl
        subst hm
        go_wp2_with fail
        refine (write_any B B (textF N (l.take i) ++ (k ++ [32])) [63] _ rfl _ HBd3.out (by have h1 := take_len HN.out hl i; have h2 := lit_len HN.out (-9223372036854775808); rw [HLT.out] at h2; simp at h2 ⊢; omega) (by rw [HBB.out]; exact HB3.out.size)).mono ?_
        rintro e w3 ⟨⟨n, rfl⟩, hbd, hb3, ho3⟩
        have HB4 := Lib.hid (HB3.out.trans (by rw [← HBB.out]; exact hb3))
        have HBd4 := Lib.hid hbd
        clear hbd hb3 ho3
        go_wp2_with fail
        refine (byte_any B B _ 10 10 rfl _ HBd4.out (by have h1 := take_len HN.out hl i; have h2 := lit_len HN.out (-9223372036854775808); rw [HLT.out] at h2; simp at h2 ⊢; omega) (by rw [HBB.out]; exact HB4.out.size)).mono ?_
        rintro e w4 ⟨rfl, hbd, hb4, ho4⟩
        have HB5 := Lib.hid (HB4.out.trans (by rw [← HBB.out]; exact hb4))
        have HBd5 := Lib.hid hbd
        clear hbd hb4 ho4
        go_wp2_with fail
        go_roundw
        case rel =>
          refine ⟨i + 1, by go_num, by omega, HB5.out, ?_⟩
          have h := HBd5.out
          show Bd _ _ _ _
          rw [text_take hlt, ← HX.out, HLN.out, HLT.out]
          simpa using h
        case measure => simp [intOf]; omega
      · by_cases hq0 : q < 0
        · obtain ⟨a, ha⟩ : ∃ a : Nat, -q = (a : Int) := ⟨q.natAbs, by omega⟩
          have ha1 : ¬ (a : Int) < 1 := by omega
          by_cases hb : N.length < a
          · have hbc : (N.length : Int) < (a : Int) := by omega
            have HLT := Lib.hid (lit_bad (N := N) (q := q) (.inr (by omega)))
            go_wp2_with fail
            refine (write_any B B (textF N (l.take i) ++ (k ++ [32])) [63] _ rfl _ HBd3.out (by have h1 := take_len HN.out hl i; have h2 := lit_len HN.out q; rw [HLT.out] at h2; simp at h2 ⊢; omega) (by rw [HBB.out]; exact HB3.out.size)).mono ?_
            rintro e w3 ⟨⟨n, rfl⟩, hbd, hb3, ho3⟩
            have HB4 := Lib.hid (HB3.out.trans (by rw [← HBB.out]; exact hb3))
            have HBd4 := Lib.hid hbd
            clear hbd hb3 ho3
            go_wp2_with fail
            refine (byte_any B B _ 10 10 rfl _ HBd4.out (by have h1 := take_len HN.out hl i; have h2 := lit_len HN.out q; rw [HLT.out] at h2; simp at h2 ⊢; omega) (by rw [HBB.out]; exact HB4.out.size)).mono ?_
            rintro e w4 ⟨rfl, hbd, hb4, ho4⟩
            have HB5 := Lib.hid (HB4.out.trans (by rw [← HBB.out]; exact hb4))
            have HBd5 := Lib.hid hbd
            clear hbd hb4 ho4
            go_wp2_with fail
            go_roundw
            case rel =>
              refine ⟨i + 1, by go_num, by omega, HB5.out, ?_⟩
              have h := HBd5.out
              show Bd _ _ _ _
              rw [text_take hlt, ← HX.out, HLN.out, HLT.out]
              simpa using h
            case measure => simp [intOf]; omega
          · have hbc : ¬ (N.length : Int) < (a : Int) := by omega
            obtain ⟨j, hj⟩ : ∃ j : Nat, (a : Int) - 1 = (j : Int) := ⟨a - 1, by omega⟩
            have hjl : j < N.length := by omega
            have hjc : (j : Int) < (N.length : Int) := by omega
            have HLT := Lib.hid (lit_neg (q := q) (k := j) (by omega) hjl)
            obtain ⟨nb, no, rfl, m0⟩ := name_at (HM.out.ext HB3.out) hjl
            have hwl : N[j].length ≤ 24 := (HN.out.word _ (List.getElem_mem hjl)).2.1
            obtain ⟨nm, hnm⟩ : ∃ nm, nm = N[j] := ⟨_, rfl⟩
            rw [← hnm] at m0 hwl HLT
            clear hnm
            have hnx : ¬ 9223372036854775807 < 4 + nm.length := by omega
            go_wp2_with fail
            refine (write_any B B (textF N (l.take i) ++ (k ++ [32])) (notW ++ nm) _ (ba_cat notW nm) _ HBd3.out (by have h1 := take_len HN.out hl i; have h2 := lit_len HN.out q; rw [HLT.out] at h2; simp at h2 ⊢; omega) (by rw [HBB.out]; exact HB3.out.size)).mono ?_
            rintro e w3 ⟨⟨n, rfl⟩, hbd, hb3, ho3⟩
            have HB4 := Lib.hid (HB3.out.trans (by rw [← HBB.out]; exact hb3))
            have HBd4 := Lib.hid hbd
            clear hbd hb3 ho3
            go_wp2_with fail
            refine (byte_any B B _ 10 10 rfl _ HBd4.out (by have h1 := take_len HN.out hl i; have h2 := lit_len HN.out q; rw [HLT.out] at h2; simp at h2 ⊢; omega) (by rw [HBB.out]; exact HB4.out.size)).mono ?_
            rintro e w4 ⟨rfl, hbd, hb4, ho4⟩
            have HB5 := Lib.hid (HB4.out.trans (by rw [← HBB.out]; exact hb4))
            have HBd5 := Lib.hid hbd
            clear hbd hb4 ho4
            go_wp2_with fail
            go_roundw
            case rel =>
              refine ⟨i + 1, by go_num, by omega, HB5.out, ?_⟩
              have h := HBd5.out
              show Bd _ _ _ _
              rw [text_take hlt, ← HX.out, HLN.out, HLT.out]
              simpa using h
            case measure => simp [intOf]; omega
        · obtain ⟨a, ha⟩ : ∃ a : Nat, q = (a : Int) := ⟨q.natAbs, by omega⟩
          by_cases ha0 : a < 1
          · have ha1 : (a : Int) < 1 := by omega
            have HLT := Lib.hid (lit_bad (N := N) (q := q) (.inl (by omega)))
            subst ha
            go_wp2_with fail
            refine (write_any B B (textF N (l.take i) ++ (k ++ [32])) [63] _ rfl _ HBd3.out (by have h1 := take_len HN.out hl i; have h2 := lit_len HN.out (a : Int); rw [HLT.out] at h2; simp at h2 ⊢; omega) (by rw [HBB.out]; exact HB3.out.size)).mono ?_
            rintro e w3 ⟨⟨n, rfl⟩, hbd, hb3, ho3⟩
            have HB4 := Lib.hid (HB3.out.trans (by rw [← HBB.out]; exact hb3))
            have HBd4 := Lib.hid hbd
            clear hbd hb3 ho3
            go_wp2_with fail
            refine (byte_any B B _ 10 10 rfl _ HBd4.out (by have h1 := take_len HN.out hl i; have h2 := lit_len HN.out (a : Int); rw [HLT.out] at h2; simp at h2 ⊢; omega) (by rw [HBB.out]; exact HB4.out.size)).mono ?_
            rintro e w4 ⟨rfl, hbd, hb4, ho4⟩
            have HB5 := Lib.hid (HB4.out.trans (by rw [← HBB.out]; exact hb4))
            have HBd5 := Lib.hid hbd
            clear hbd hb4 ho4
            go_wp2_with fail
            go_roundw
            case rel =>
              refine ⟨i + 1, by go_num, by omega, HB5.out, ?_⟩
              have h := HBd5.out
              show Bd _ _ _ _
              rw [text_take hlt, ← HX.out, HLN.out, HLT.out]
              simpa using h
            case measure => simp [intOf]; omega
          · have ha1 : ¬ (a : Int) < 1 := by omega
            by_cases hb : N.length < a
            · have hbc : (N.length : Int) < (a : Int) := by omega
              have HLT := Lib.hid (lit_bad (N := N) (q := q) (.inr (by omega)))
              subst ha
              go_wp2_with fail
              refine (write_any B B (textF N (l.take i) ++ (k ++ [32])) [63] _ rfl _ HBd3.out (by have h1 := take_len HN.out hl i; have h2 := lit_len HN.out (a : Int); rw [HLT.out] at h2; simp at h2 ⊢; omega) (by rw [HBB.out]; exact HB3.out.size)).mono ?_
              rintro e w3 ⟨⟨n, rfl⟩, hbd, hb3, ho3⟩
              have HB4 := Lib.hid (HB3.out.trans (by rw [← HBB.out]; exact hb3))
              have HBd4 := Lib.hid hbd
              clear hbd hb3 ho3
              go_wp2_with fail
              refine (byte_any B B _ 10 10 rfl _ HBd4.out (by have h1 := take_len HN.out hl i; have h2 := lit_len HN.out (a : Int); rw [HLT.out] at h2; simp at h2 ⊢; omega) (by rw [HBB.out]; exact HB4.out.size)).mono ?_
              rintro e w4 ⟨rfl, hbd, hb4, ho4⟩
              have HB5 := Lib.hid (HB4.out.trans (by rw [← HBB.out]; exact hb4))
              have HBd5 := Lib.hid hbd
              clear hbd hb4 ho4
              go_wp2_with fail
              go_roundw
              case rel =>
                refine ⟨i + 1, by go_num, by omega, HB5.out, ?_⟩
                have h := HBd5.out
                show Bd _ _ _ _
                rw [text_take hlt, ← HX.out, HLN.out, HLT.out]
                simpa using h
              case measure => simp [intOf]; omega
            · have hbc : ¬ (N.length : Int) < (a : Int) := by omega
              obtain ⟨j, hj⟩ : ∃ j : Nat, (a : Int) - 1 = (j : Int) := ⟨a - 1, by omega⟩
              have hjl : j < N.length := by omega
              have hjc : (j : Int) < (N.length : Int) := by omega
              have HLT := Lib.hid (lit_pos (q := q) (k := j) (by omega) hjl)
              obtain ⟨nb, no, rfl, m0⟩ := name_at (HM.out.ext HB3.out) hjl
              obtain ⟨nm, hnm⟩ : ∃ nm, nm = N[j] := ⟨_, rfl⟩
              rw [← hnm] at m0 HLT
              clear hnm
              subst ha
              go_wp2_with fail
              refine (write_any B B (textF N (l.take i) ++ (k ++ [32])) nm _ rfl _ HBd3.out (by have h1 := take_len HN.out hl i; have h2 := lit_len HN.out (a : Int); rw [HLT.out] at h2; simp at h2 ⊢; omega) (by rw [HBB.out]; exact HB3.out.size)).mono ?_
              rintro e w3 ⟨⟨n, rfl⟩, hbd, hb3, ho3⟩
              have HB4 := Lib.hid (HB3.out.trans (by rw [← HBB.out]; exact hb3))
              have HBd4 := Lib.hid hbd
              clear hbd hb3 ho3
              go_wp2_with fail
              refine (byte_any B B _ 10 10 rfl _ HBd4.out (by have h1 := take_len HN.out hl i; have h2 := lit_len HN.out (a : Int); rw [HLT.out] at h2; simp at h2 ⊢; omega) (by rw [HBB.out]; exact HB4.out.size)).mono ?_
              rintro e w4 ⟨rfl, hbd, hb4, ho4⟩
              have HB5 := Lib.hid (HB4.out.trans (by rw [← HBB.out]; exact hb4))
              have HBd5 := Lib.hid hbd
              clear hbd hb4 ho4
              go_wp2_with fail
              go_roundw
              case rel =>
                refine ⟨i + 1, by go_num, by omega, HB5.out, ?_⟩
                have h := HBd5.out
                show Bd _ _ _ _
                rw [text_take hlt, ← HX.out, HLN.out, HLT.out]
                simpa using h
              case measure => simp [intOf]; omega
    · obtain rfl : l.length = i := by omega
      have hlc : ¬ (l.length : Int) < (l.length : Int) := by omega
      have HF : Hid (Bd wr B B (textF N l)) := Lib.hid (by have h := HBd.out; rw [List.take_length] at h; exact h)
      go_wp2_with fail
      refine (string_any B B (textF N l) _ HF.out (by rw [HBB.out]; exact HB.out.size)).mono ?_
      rintro e w4 ⟨rfl, hb4⟩
      have HB4 := Lib.hid (HB.out.trans (by rw [← HBB.out]; exact hb4))
      go_wp2_with fail
      go_ret
      exact ⟨rfl, HB4.out⟩
def kindN (a b : Bool) : Nat := if a then (if b then 0 else 1) else (if b then 2 else 3)
theorem kindN_lt (a b : Bool) : kindN a b < 4 := by cases a <;> cases b <;> decide
set_option maxHeartbeats 400000 in
theorem kindof_any (a b : Bool) (q : Int) (w : World) :
    Calls Tryd.prog 71 #[.agg #[.bool a, .bool b, .int .i64 q]] w fun e w' => e = .returned (.int .i64 (kindN a b : Nat)) ∧ Below w.heap.size w w' := by
  cases a <;> cases b
  all_goals
    go_enter Tryd.func71, Tryd.ntmps71
    go_wp2_with fail
    go_ret
    exact ⟨rfl, ext_alloc _ _⟩
def wordsL : List Value := [strV (kw true true ++ [32]), strV (kw true false ++ [32]), strV (kw false true ++ [32]), strV (kw false false ++ [32])]
theorem words_at {w : World} {V : Nat} (h : Blk w V 9 wordsL) (a b : Bool) : w.cell? ⟨V, kindN a b, none⟩ = some (.string ⟨(kw a b ++ [32]).toArray⟩) := by
  cases a <;> cases b
  · exact h.cell 3 rfl
  · exact h.cell 2 rfl
  · exact h.cell 1 rfl
  · exact h.cell 0 rfl
set_option maxRecDepth 20000 in
set_option maxHeartbeats 4000000 in
theorem rtext_any (l : List St) (hl : l.length ≤ 200) (hq : ∀ x ∈ l, Vq x.2.2) (LA : Option Addr) (lc : Nat) (N : List (List UInt8)) (hN : Names N) (NA : Option Addr) (nc : Nat) (w : World) (hL : Rd w LA (l.flatMap spC)) (hM : Rd w NA (N.map strV)) :
    Calls Tryd.prog 14 #[.slice LA l.length lc, .slice NA N.length nc] w (StrPost (textF N l) w) := by
  have HQ := Lib.hid hq
  have HL := Lib.hid hL
  have HM := Lib.hid hM
  have HN := Lib.hid hN
  have hn40 : (N.length : Int) ≤ 40 := by have := hN.len; omega
  have b0 := Blk.new w 9 wordsL
  have hx0 := ext_alloc w (.cells (List.toArray wordsL) 9)
  obtain ⟨W, hW⟩ : ∃ W, W = w.alloc (.cells (List.toArray wordsL) 9) := ⟨_, rfl⟩
  rw [← hW] at b0 hx0
  obtain ⟨V, hV⟩ : ∃ V, V = w.heap.size := ⟨_, rfl⟩
  rw [← hV] at b0
  have HW0 := Lib.hid b0
  have HB0 := Lib.hid hx0
  clear hq hL hM hN b0 hx0
  go_enter Tryd.func14, Tryd.ntmps14
  go_upto_region 2 with fail
  rw [show w.alloc (.cells #[.string ⟨#[115, 117, 114, 101, 32]⟩, .string ⟨#[110, 111, 116, 32, 115, 117, 114, 101, 32]⟩, .string ⟨#[104, 111, 108, 100, 115, 32]⟩, .string ⟨#[102, 97, 105, 108, 115, 32]⟩] 9) = W from hW.symm, ← hV]
  clear hW hV
  go_wp2_with fail
  go_loopw [6, 7] (fun t6 t7 wr => ∃ i : Nat, t7 = .int .i64 i ∧ t6 = .string ⟨(textF N (l.take i)).toArray⟩ ∧ i ≤ l.length ∧ Hid (Below w.heap.size w wr) ∧ Hid (Blk wr V 9 wordsL)) (fun _ t7 _ => l.length - (intOf t7).toNat)
  case atStart => exact ⟨0, rfl, rfl, Nat.zero_le _, HB0.out, HW0.out⟩
  case round =>
    obtain ⟨i, rfl, rfl, hi, HB, HW⟩ := hrel
    have hT0 := take_len HN.out hl i
    by_cases hlt : i < l.length
    · have hltc : (i : Int) < (l.length : Int) := by omega
      have HTT := Lib.hid (text_take (N := N) hlt)
      obtain ⟨T, hT⟩ : ∃ T, T = textF N (l.take i) := ⟨_, rfl⟩
      rw [← hT] at hT0 HTT ⊢
      clear hT
      obtain ⟨lb, lo, rfl, r0, r1, r2⟩ := st_at (HL.out.ext HB.out) hlt
      have HV := Lib.hid (HQ.out _ (List.getElem_mem hlt))
      obtain ⟨x, hx⟩ : ∃ x, x = l[i] := ⟨_, rfl⟩
      rw [← hx] at r0 r1 r2 HV HTT
      clear hx
      obtain ⟨xa, xb, q⟩ := x
      simp only at r0 r1 r2
      have HKO := Lib.hid (fun w => kindof_any xa xb q w)
      have hk4 := kindN_lt xa xb
      have HWA := Lib.hid (fun (w : World) (h : Blk w V 9 wordsL) => words_at h xa xb)
      have hkl := kw_len xa xb
      have HLN := Lib.hid (show lineF N (xa, xb, q) = (kw xa xb ++ [32]) ++ litF N q from rfl)
      obtain ⟨kn, hkn⟩ : ∃ kn, kn = kindN xa xb := ⟨_, rfl⟩
      rw [← hkn] at HKO hk4 HWA
      clear hkn
      have hkk : (kw xa xb ++ [32]).length ≤ 9 := by simp; omega
      obtain ⟨k, hk⟩ : ∃ k, k = kw xa xb ++ [32] := ⟨_, rfl⟩
      rw [← hk] at hkk HWA HLN
      clear hk hkl
      have hk5 : (kn : Int) < 4 := by omega
      have hx1 : ¬ 9223372036854775807 < T.length + k.length := by omega
      have hv1 : -9223372036854775808 ≤ q := HV.out.1
      have hv2 : q ≤ 9223372036854775807 := HV.out.2
      go_wp2_with fail
      refine (HKO.out _).mono ?_
      rintro e w1 ⟨rfl, hb1⟩
      have HB1 := Lib.hid (HB.out.trans (hb1.mono HB.out.size))
      have hw1 := HW.out.ext (hb1.mono (show V + 1 ≤ _ from HW.out.lt))
      have HW1 := Lib.hid hw1
      have wc := HWA.out _ hw1
      have s2 := cell_ext hb1 r2
      clear hb1 HKO hw1 r0 r1 r2
      by_cases hq0 : q = 0
      · have hqc : (q == 0) = true := by simp [hq0]
        have HLT := Lib.hid (lit_bad (N := N) (q := q) (.inl (by omega)))
        have hx2 : ¬ 9223372036854775807 < T.length + k.length + 1 := by omega
        have hx3 : ¬ 9223372036854775807 < T.length + k.length + 1 + 1 := by omega
        clear hq0
        go_wp2_with fail
        go_roundw
        case rel =>
          refine ⟨i + 1, by go_num, congrArg Value.string ?_, by omega, HB1.out, HW1.out⟩
          rw [HTT.out, HLN.out, HLT.out]
          apply ByteArray.ext
          simp
        case measure => simp [intOf]; omega
      · have hqc : (q == 0) = false := by simp [hq0]
        by_cases hb : (N.length : Int) < q
        · have HLT := Lib.hid (lit_bad (N := N) (q := q) (.inr (by omega)))
          have hx2 : ¬ 9223372036854775807 < T.length + k.length + 1 := by omega
          have hx3 : ¬ 9223372036854775807 < T.length + k.length + 1 + 1 := by omega
          go_wp2_with fail
          go_roundw
          case rel =>
            refine ⟨i + 1, by go_num, congrArg Value.string ?_, by omega, HB1.out, HW1.out⟩
            rw [HTT.out, HLN.out, HLT.out]
            apply ByteArray.ext
            simp
          case measure => simp [intOf]; omega
        · by_cases hc : q < -(N.length : Int)
          · have HLT := Lib.hid (lit_bad (N := N) (q := q) (.inr (by omega)))
            have hx2 : ¬ 9223372036854775807 < T.length + k.length + 1 := by omega
            have hx3 : ¬ 9223372036854775807 < T.length + k.length + 1 + 1 := by omega
            go_wp2_with fail
            go_roundw
            case rel =>
              refine ⟨i + 1, by go_num, congrArg Value.string ?_, by omega, HB1.out, HW1.out⟩
              rw [HTT.out, HLN.out, HLT.out]
              apply ByteArray.ext
              simp
            case measure => simp [intOf]; omega
          · by_cases hp : 0 < q
            · obtain ⟨j, hj⟩ : ∃ j : Nat, q - 1 = (j : Int) := ⟨(q - 1).toNat, by omega⟩
              have hjl : j < N.length := by omega
              have hjc : (j : Int) < (N.length : Int) := by omega
              have HLT := Lib.hid (lit_pos (q := q) (k := j) (by omega) hjl)
              obtain ⟨nb, no, rfl, m0⟩ := name_at (HM.out.ext HB1.out) hjl
              have hwl : N[j].length ≤ 24 := (HN.out.word _ (List.getElem_mem hjl)).2.1
              obtain ⟨nm, hnm⟩ : ∃ nm, nm = N[j] := ⟨_, rfl⟩
              rw [← hnm] at m0 hwl HLT
              clear hnm
              have hx2 : ¬ 9223372036854775807 < T.length + k.length + nm.length := by omega
              have hx3 : ¬ 9223372036854775807 < T.length + k.length + nm.length + 1 := by omega
              go_wp2_with fail
              go_roundw
              case rel =>
                refine ⟨i + 1, by go_num, congrArg Value.string ?_, by omega, HB1.out, HW1.out⟩
                rw [HTT.out, HLN.out, HLT.out]
                apply ByteArray.ext
                simp
              case measure => simp [intOf]; omega
            · obtain ⟨a, ha⟩ : ∃ a : Nat, -q = (a : Int) := ⟨q.natAbs, by omega⟩
              obtain ⟨j, hj⟩ : ∃ j : Nat, (a : Int) - 1 = (j : Int) := ⟨a - 1, by omega⟩
              have hjl : j < N.length := by omega
              have hjc : (j : Int) < (N.length : Int) := by omega
              have HLT := Lib.hid (show litF N q = [110, 111, 116, 32] ++ N[j] from lit_neg (q := q) (k := j) (by omega) hjl)
              obtain ⟨nb, no, rfl, m0⟩ := name_at (HM.out.ext HB1.out) hjl
              have hwl : N[j].length ≤ 24 := (HN.out.word _ (List.getElem_mem hjl)).2.1
              obtain ⟨nm, hnm⟩ : ∃ nm, nm = N[j] := ⟨_, rfl⟩
              rw [← hnm] at m0 hwl HLT
              clear hnm
              have hx2 : ¬ 9223372036854775807 < T.length + k.length + 4 := by omega
              have hx3 : ¬ 9223372036854775807 < T.length + k.length + 4 + nm.length := by omega
              have hx4 : ¬ 9223372036854775807 < T.length + k.length + 4 + nm.length + 1 := by omega
              go_wp2_with fail
              go_roundw
              case rel =>
                refine ⟨i + 1, by go_num, congrArg Value.string ?_, by omega, HB1.out, HW1.out⟩
                rw [HTT.out, HLN.out, HLT.out]
                apply ByteArray.ext
                simp
              case measure => simp [intOf]; omega
    · obtain rfl : l.length = i := by omega
      have hlc : ¬ (l.length : Int) < (l.length : Int) := by omega
      go_wp2_with fail
      go_ret
      exact ⟨rfl, HB.out⟩
end Go.Proofs.YtpbmamcmmogidaaDoor.Wt

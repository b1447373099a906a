/- The explanation of a text: the document's walk. -/
import Derived.Test.YtpbmamcmmogidaaDoorWtKr
namespace Go.Proofs.YtpbmamcmmogidaaDoor.Wt
open Go.RowKit Mem Nest Bld

/-! ### No two kinds' words stand ahead of one row -/
def hd (a b : Bool) : UInt8 := if a then (if b then 115 else 110) else (if b then 104 else 102)
theorem pre_head {r : List UInt8} {a b : Bool} (h : Lib.hasPrefix r (kwp a b) = true) : r.head? = some (hd a b) := by
  obtain ⟨t, ht⟩ := List.isPrefixOf_iff_prefix.1 h
  rw [← ht]
  cases a <;> cases b <;> rfl
theorem fk_pre {k : Nat} {r : List UInt8} {x : Bool × Bool × List UInt8} (h : fk k r = some x) : ∃ (j : Nat) (y : St), j < k ∧ ksL[j]? = some y ∧ Lib.hasPrefix r (kwp y.1 y.2.1) = true := by
  induction k with
  | zero => cases h
  | succ k ih =>
    unfold fk at h
    cases hk : fk k r with
    | some y =>
      obtain ⟨j, y, h1, h2, h3⟩ := ih (by rw [hk] at h ⊢; exact h)
      exact ⟨j, y, by omega, h2, h3⟩
    | none =>
      rw [hk] at h
      simp only at h
      cases hx : ksL[k]? with
      | none => rw [hx] at h; cases h
      | some y =>
        rw [hx] at h
        simp only at h
        split at h
        · rename_i hp
          exact ⟨k, y, by omega, hx, hp⟩
        · cases h
theorem ks_head : ∀ (j k : Nat) (x y : St), j < 4 → k < 4 → ksL[j]? = some x → ksL[k]? = some y → hd x.1 x.2.1 = hd y.1 y.2.1 → j = k := by
  intro j k x y hj hk hx hy he
  have h1 : j = 0 ∨ j = 1 ∨ j = 2 ∨ j = 3 := by omega
  have h2 : k = 0 ∨ k = 1 ∨ k = 2 ∨ k = 3 := by omega
  rcases h1 with rfl | rfl | rfl | rfl <;> rcases h2 with rfl | rfl | rfl | rfl <;> obtain rfl := Option.some.inj hx <;> obtain rfl := Option.some.inj hy <;> first | rfl | (revert he; decide)
theorem fk_excl {k : Nat} {r : List UInt8} {x : Bool × Bool × List UInt8} {y : St} (h : fk k r = some x) (hk : k < 4) (hy : ksL[k]? = some y) : Lib.hasPrefix r (kwp y.1 y.2.1) = false := by
  obtain ⟨j, z, h1, h2, h3⟩ := fk_pre h
  cases hp : Lib.hasPrefix r (kwp y.1 y.2.1) with
  | false => rfl
  | true =>
    have e := (pre_head h3).symm.trans (pre_head hp)
    have := ks_head j k z y (by omega) hk h2 hy (Option.some.inj e)
    omega
theorem word_k {w : World} {V : Nat} (h : Blk w V 9 wordsL) {k : Nat} (hk : k < 4) : ∃ a b, ksL[k]? = some (a, b, 0) ∧ kindN a b = k ∧ w.cell? ⟨V, k, none⟩ = some (.string ⟨(kwp a b).toArray⟩) := by
  have h1 : k = 0 ∨ k = 1 ∨ k = 2 ∨ k = 3 := by omega
  rcases h1 with rfl | rfl | rfl | rfl
  · exact ⟨true, true, rfl, rfl, words_at h true true⟩
  · exact ⟨true, false, rfl, rfl, words_at h true false⟩
  · exact ⟨false, true, rfl, rfl, words_at h false true⟩
  · exact ⟨false, false, rfl, rfl, words_at h false false⟩
theorem pre_take {r p : List UInt8} : Lib.hasPrefix r p = true ↔ p.length ≤ r.length ∧ r.take p.length = p := by
  rw [← Lib.hasPrefix_of_take]
  simp
/-- the last place of a name, behind which it has been looked for -/
def qG (N : List (List UInt8)) (s : List UInt8) (p : Nat) : Nat := if p + (N.drop p).findIdx (fun x => x == s) < N.length then p + (N.drop p).findIdx (fun x => x == s) + 1 else 0
theorem qG_end (N : List (List UInt8)) (s : List UInt8) : qG N s N.length = 0 := by unfold qG; rw [if_neg (by omega)]
theorem qG_hit {N : List (List UInt8)} {s : List UInt8} {p : Nat} (hp : p < N.length) (h : N[p] = s) : qG N s p = p + 1 := by
  unfold qG
  rw [List.drop_eq_getElem_cons hp, List.findIdx_cons, h]
  simp [hp]
theorem qG_miss {N : List (List UInt8)} {s : List UInt8} {p : Nat} (hp : p < N.length) (h : ¬ N[p] = s) : qG N s p = qG N s (p + 1) := by
  have hb : (N[p] == s) = false := by simpa using h
  unfold qG
  rw [List.drop_eq_getElem_cons hp, List.findIdx_cons, hb]
  simp only [cond_false]
  have e : p + ((N.drop (p + 1)).findIdx (fun x => x == s) + 1) = p + 1 + (N.drop (p + 1)).findIdx (fun x => x == s) := by omega
  rw [e]
theorem qG_zero (N : List (List UInt8)) (s : List UInt8) : qG N s 0 = if idxF N s < N.length then idxF N s + 1 else 0 := by
  unfold qG idxF
  rw [List.drop_zero, Nat.zero_add]
theorem qG_le (N : List (List UInt8)) (s : List UInt8) (p : Nat) : qG N s p ≤ N.length := by
  unfold qG
  split <;> omega
theorem own_set {w : World} {base : Nat} {e : TypeId} {size n : Nat} {v : Value} {xs : List Value} (h : w.ownsRow base e size v n xs) {V j : Nat} (hV : V < base) (u : Value) : (w.setCell ⟨V, j, none⟩ u).ownsRow base e size v n xs :=
  h.kept (row := some V) ⟨rfl, rfl, rfl, by simp [World.setCell], fun k _ hk => Below.heap_setCell _ _ _ _ (fun e => hk (by simp [e]))⟩ (Or.inr (fun e => by have := (h.lt V e).1; omega))
def RReadPost (N : List (List UInt8)) (s : List UInt8) (w : World) (e : Ending) (w' : World) : Prop :=
  ∃ (L : Option Addr) (c : Nat), e = .returned (.tuple #[.slice L (stepsF N s).2.2.length c, .agg #[.int .i64 (stepsF N s).1, .int .i64 (stepsF N s).2.1]]) ∧ Rd w' L ((stepsF N s).2.2.flatMap spC) ∧ Below w.heap.size w w'
theorem rread_of {N : List (List UInt8)} {s : List UInt8} {w w' : World} {c a : Int} {l : List St} {L : Option Addr} {k : Nat} (h : stepsF N s = (c, a, l)) (hr : Rd w' L (l.flatMap spC)) (hb : Below w.heap.size w w') :
    RReadPost N s w (.returned (.tuple #[.slice L l.length k, .agg #[.int .i64 c, .int .i64 a]])) w' := ⟨L, k, by rw [h], by rw [h]; exact hr, hb⟩
/-- the document's kinds looked at -/
def KStR (k : Nat) (r : List UInt8) (t10 t11 : Value) : Prop :=
  (t10 = .int .i64 (-1) ∧ t11 = .string ⟨#[]⟩ ∧ fk k r = none) ∨
  (∃ (j : Nat) (a b : Bool) (rest : List UInt8), t10 = .int .i64 (j : Int) ∧ t11 = .string ⟨rest.toArray⟩ ∧ kindN a b = j ∧ fk k r = some (a, b, rest))
theorem rstep_info : (Tryd.prog.info? 42).map (fun i => (i.zero, i.size, i.bytes)) = some (some (.agg #[.bool false, .bool false, .int .i64 0]), 3, 16) := by kernel_rfl
theorem ba_tail (r : List UInt8) (k : Nat) : (ByteArray.mk r.toArray).extract k r.length = ⟨(r.drop k).toArray⟩ := by
  rw [ba_cut, List.take_of_length_le (by rw [List.length_drop]; exact Nat.le_refl _)]
set_option maxRecDepth 20000 in
set_option maxHeartbeats 8000000 in
theorem rread_any (s : List UInt8) (hl : s.length ≤ 30000) (N : List (List UInt8)) (hN : Names N) (NA : Option Addr) (nc : Nat) (w : World) (hM : Rd w NA (N.map strV)) :
    Calls Tryd.prog 16 #[.string ⟨s.toArray⟩, .slice NA N.length nc] w (RReadPost N s w) := by
  obtain ⟨i0, hi, hz0, hz1, hz2⟩ := info_parts rstep_info
  have HI := Lib.hid hi
  have HZ0 := Lib.hid hz0
  have HZ1 := Lib.hid hz1
  have HZ2 := Lib.hid hz2
  have HNM := Lib.hid hM
  have HN := Lib.hid hN
  have hn40 := hN.len
  have hlc : ¬ (30000 : Int) < (s.length : Int) := by omega
  clear hi hz0 hz1 hz2 hM hN
  have bv := Blk.new w 36 [.int .i64 0, .int .i64 0]
  have hx1 := ext_alloc w (.cells (List.toArray [.int .i64 0, .int .i64 0]) 36)
  obtain ⟨V, hV⟩ : ∃ V, V = w.heap.size := ⟨_, rfl⟩
  obtain ⟨W1, hW1⟩ : ∃ W1, W1 = w.alloc (.cells (List.toArray [.int .i64 0, .int .i64 0]) 36) := ⟨_, rfl⟩
  rw [← hW1] at bv hx1
  rw [← hV] at bv
  have hs1 : W1.heap.size = V + 1 := by rw [hW1, hV]; simp
  have bk := Blk.new W1 9 wordsL
  have hx2 := ext_alloc W1 (.cells (List.toArray wordsL) 9)
  obtain ⟨W2, hW2⟩ : ∃ W2, W2 = W1.alloc (.cells (List.toArray wordsL) 9) := ⟨_, rfl⟩
  rw [← hW2] at bk hx2
  rw [hs1] at bk
  have HV2 := Lib.hid (bv.ext (hx2.mono (by rw [hs1]; exact Nat.le_refl _)))
  have HK2 := Lib.hid bk
  have HB2 := Lib.hid (ext_trans hx1 hx2)
  have HVV := Lib.hid hV
  clear bv hx1 bk hx2
  go_enter Tryd.func16, Tryd.ntmps16
  go_wp2_with fail
  rw [show w.heap.size = V from hV.symm]
  rw [show w.alloc (.cells #[.int .i64 0, .int .i64 0] 36) = W1 from hW1.symm]
  rw [show W1.alloc (.cells #[.string ⟨#[115, 117, 114, 101, 32]⟩, .string ⟨#[110, 111, 116, 32, 115, 117, 114, 101, 32]⟩, .string ⟨#[104, 111, 108, 100, 115, 32]⟩, .string ⟨#[102, 97, 105, 108, 115, 32]⟩] 9) = W2 from hW2.symm]
  clear hW1 hW2 hV hs1
  refine (rrows_any s hl _).mono ?_
  have hRl := rows_len s
  have HRr := Lib.hid (rows_row_len s)
  have HST := Lib.hid (show stepsF N s = readF N (rowsF s) 0 [] by unfold stepsF; rw [if_neg (by omega)])
  unfold RowsPost
  obtain ⟨R, hR⟩ : ∃ R, R = rowsF s := ⟨_, rfl⟩
  rw [← hR] at hRl HRr HST ⊢
  clear hR
  rintro e w1 ⟨RA, rc, rfl, hr, hb1⟩
  have HR := Lib.hid hr
  have HB1 := Lib.hid (ext_trans HB2.out hb1)
  have HV1 := Lib.hid (HV2.out.ext (hb1.mono (show V + 1 ≤ _ from HV2.out.lt)))
  have HK1 := Lib.hid (HK2.out.ext (hb1.mono (show V + 1 + 1 ≤ _ from HK2.out.lt)))
  have HNM1 := Lib.hid (HNM.out.ext HB1.out)
  clear hr hb1
  go_wp2_with fail
  go_loopw [8, 9] (fun t8 t9 wr => ∃ (i : Nat) (acc : List St), t9 = .int .i64 i ∧ i ≤ R.length ∧ acc.length ≤ i ∧ Hid (stepsF N s = readF N (R.drop i) i acc) ∧ Hid (Below w1.heap.size w1 wr) ∧ Hid (wr.ownsRow w1.heap.size 42 3 t8 acc.length (acc.flatMap spC))) (fun _ t9 _ => R.length - (intOf t9).toNat)
  case atStart => exact ⟨0, [], rfl, Nat.zero_le _, Nat.le_refl _, HST.out, Below.refl _ _, World.ownsRow_nil _ _ _ _⟩
  case round =>
    obtain ⟨i, acc, rfl, hi, hal, HS, HB, HO⟩ := hrel
    obtain ⟨wo, rfl⟩ : ∃ wo, wo = wr := ⟨_, rfl⟩
    by_cases hlt : i < R.length
    · have hltc : (i : Int) < (R.length : Int) := by omega
      obtain ⟨rb, ro, rfl, r0⟩ := row_at (HR.out.ext HB.out) hlt
      have hrl : R[i].length ≤ 30000 := Nat.le_trans (HRr.out _ (List.getElem_mem hlt)) hl
      have HS1 := Lib.hid (HS.out.trans (read_step hlt))
      obtain ⟨r, hr⟩ : ∃ r, r = R[i] := ⟨_, rfl⟩
      rw [← hr] at r0 hrl HS1
      clear hr HS
      have HR0 := Lib.hid r0
      clear r0
      go_wp2_with fail
      go_loopw [10, 11, 12] (fun t10 t11 t12 wi => ∃ k : Nat, t12 = .int .i64 k ∧ k ≤ 4 ∧ Hid (Below wo.heap.size wo wi) ∧ KStR k r t10 t11) (fun _ _ t12 _ => 4 - (intOf t12).toNat)
      case atStart => exact ⟨0, rfl, by omega, Below.refl _ _, .inl ⟨rfl, rfl, rfl⟩⟩
      case round =>
        obtain ⟨k, rfl, hk, HBi, hst⟩ := hrel
        have HBw := Lib.hid (HB.out.trans (HBi.out.mono HB.out.size))
        have HKi := Lib.hid (HK1.out.ext (HBw.out.mono (show V + 1 + 1 ≤ _ from HK1.out.lt)))
        by_cases hk4 : k < 4
        · have hk4c : (k : Int) < 4 := by omega
          obtain ⟨ka, kb, hks, hkn, c0⟩ := word_k HKi.out hk4
          have r0 := cell_ext HBi.out HR0.out
          have HKS := Lib.hid hks
          have HKN := Lib.hid hkn
          have hpl9 : (kwp ka kb).length ≤ 9 := by have := kw_len ka kb; unfold kwp; simp; omega
          have HHIT := Lib.hid (fun (h : fk k r = none) hp => fk_hit h hks hp)
          have HMISS := Lib.hid (fun (h : fk k r = none) hp => fk_miss h hks hp)
          have HEXC := Lib.hid (fun x (h : fk k r = some x) => fk_excl h hk4 hks)
          simp only at HHIT HMISS HEXC
          obtain ⟨p, hp⟩ : ∃ p, p = kwp ka kb := ⟨_, rfl⟩
          rw [← hp] at c0 hpl9 HHIT HMISS HEXC
          clear hp hks hkn
          rcases hst with ⟨rfl, rfl, hfk⟩ | ⟨j, a, b, rest, rfl, rfl, hj, hfk⟩
          · have HFK := Lib.hid hfk
            clear hfk
            cases hbp : Lib.hasPrefix r p with
            | true =>
              obtain ⟨hpl, htk⟩ := pre_take.1 hbp
              have HBP := Lib.hid hbp
              have hplc : (p.length : Int) ≤ (r.length : Int) := by omega
              have heq : (((ByteArray.mk r.toArray).extract 0 p.length).toList == p) = true := by
                rw [Lib.extract_toList]
                simpa using htk
              clear htk hbp
              go_wp2_with fail
              go_quiet (fail)
              have r1 := cell_ext (ext_drewN wr nq) r0
              go_wp2_with fail
              go_roundw
              case rel =>
                refine ⟨k + 1, by go_num, by omega, HBi.out.trans ((ext_drewN wr nq).mono HBi.out.size), .inr ⟨k, ka, kb, r.drop p.length, rfl, congrArg Value.string (ba_tail r p.length), HKN.out, HHIT.out HFK.out HBP.out⟩⟩
              case measure => simp [intOf]; omega
            | false =>
              have HBP := Lib.hid hbp
              clear hbp
              by_cases hpl : p.length ≤ r.length
              · have hplc : (p.length : Int) ≤ (r.length : Int) := by omega
                have hne : ¬ r.take p.length = p := fun e => by
                  have := pre_take.2 ⟨hpl, e⟩
                  rw [HBP.out] at this
                  cases this
                have heq : (((ByteArray.mk r.toArray).extract 0 p.length).toList == p) = false := by
                  rw [Lib.extract_toList]
                  simpa using hne
                clear hne
                go_wp2_with fail
                go_quiet (fail)
                go_wp2_with fail
                go_roundw
                case rel => exact ⟨k + 1, by go_num, by omega, HBi.out.trans ((ext_drewN wr nq).mono HBi.out.size), .inl ⟨rfl, rfl, HMISS.out HFK.out HBP.out⟩⟩
                case measure => simp [intOf]; omega
              · have hplc : ¬ (p.length : Int) ≤ (r.length : Int) := by omega
                go_wp2_with fail
                go_quiet (fail)
                go_wp2_with fail
                go_roundw
                case rel => exact ⟨k + 1, by go_num, by omega, HBi.out.trans ((ext_drewN wr nq).mono HBi.out.size), .inl ⟨rfl, rfl, HMISS.out HFK.out HBP.out⟩⟩
                case measure => simp [intOf]; omega
          · have HFK := Lib.hid hfk
            have HBP := Lib.hid (HEXC.out _ hfk)
            have HJ := Lib.hid hj
            clear hfk hj
            by_cases hpl : p.length ≤ r.length
            · have hplc : (p.length : Int) ≤ (r.length : Int) := by omega
              have hne : ¬ r.take p.length = p := fun e => by
                have := pre_take.2 ⟨hpl, e⟩
                rw [HBP.out] at this
                cases this
              have heq : (((ByteArray.mk r.toArray).extract 0 p.length).toList == p) = false := by
                rw [Lib.extract_toList]
                simpa using hne
              clear hne
              go_wp2_with fail
              go_quiet (fail)
              go_wp2_with fail
              go_roundw
              case rel => exact ⟨k + 1, by go_num, by omega, HBi.out.trans ((ext_drewN wr nq).mono HBi.out.size), .inr ⟨j, a, b, rest, rfl, rfl, HJ.out, fk_had HFK.out⟩⟩
              case measure => simp [intOf]; omega
            · have hplc : ¬ (p.length : Int) ≤ (r.length : Int) := by omega
              go_wp2_with fail
              go_quiet (fail)
              go_wp2_with fail
              go_roundw
              case rel => exact ⟨k + 1, by go_num, by omega, HBi.out.trans ((ext_drewN wr nq).mono HBi.out.size), .inr ⟨j, a, b, rest, rfl, rfl, HJ.out, fk_had HFK.out⟩⟩
              case measure => simp [intOf]; omega
        · obtain rfl : k = 4 := by omega
          have HVi := Lib.hid (HV1.out.ext (HBw.out.mono (show V + 1 ≤ _ from HV1.out.lt)))
          have HBt := Lib.hid (ext_trans HB1.out HBw.out)
          have z0 := HVi.out.cell 0 rfl
          have z1 := HVi.out.cell 1 rfl
          have f0 := HVi.out.free 0
          have f1 := HVi.out.free 1
          have HOi := Lib.hid (own_ext HO.out HBi.out)
          clear hk hk4
          rcases hst with ⟨rfl, rfl, hfk⟩ | ⟨j, a, b, rest, rfl, rfl, hj, hfk⟩
          · have HOUT := Lib.hid (show stepsF N s = (1, (i : Int), []) by
              have h := HS1.out
              rw [rowF, ← fk_all, hfk] at h
              exact h)
            clear hfk
            have hr0 := (HVi.out.set 0 (.int .i64 (1))).set 1 (.int .i64 ((i : Int)))
            have s0 := hr0.cell 0 rfl
            have s1 := hr0.cell 1 rfl
            have HBx := Lib.hid ((HBt.out.setCell (p := ⟨V, 0, none⟩) (by rw [← HVV.out]; exact Nat.le_refl _) (.int .i64 (1))).setCell (p := ⟨V, 1, none⟩) (by rw [← HVV.out]; exact Nat.le_refl _) (.int .i64 ((i : Int))))
            clear hr0
            go_wp2_with fail
            refine bodyPost_ret (v := .tuple #[.slice none 0 0, .agg #[.int .i64 (1), .int .i64 ((i : Int))]]) (by simp [results, Tryd.results16, go_sem, s0, s1]) rfl ?_
            exact rread_of (l := []) HOUT.out Rd.nil HBx.out
          · have HKD := Lib.hid (show kindF r = some (a, b, rest) by rw [← fk_all]; exact hfk)
            have hrest := fk_len hfk
            simp only at hrest
            clear hfk
            have hj0 : ¬ (j : Int) < 0 := by omega
            have HRW := Lib.hid (show stepsF N s = (match (if idxF N (Lib.trimPrefix rest notW) < N.length then Except.ok (a, b, if Lib.hasPrefix rest notW then -((idxF N (Lib.trimPrefix rest notW) : Int) + 1) else (idxF N (Lib.trimPrefix rest notW) : Int) + 1) else Except.error 7 : Except Int St) with
                | .error e => (e, (i : Int), ([] : List St))
                | .ok x => readF N (R.drop (i + 1)) (i + 1) (acc ++ [x])) by
              have h := HS1.out
              rw [rowF, HKD.out] at h
              exact h)
            go_upto_region 21 with fail
            go_cut [79] from 24 to 115 (fun s79 wx => wr = wx ∧ s79 = .bool (Lib.hasPrefix rest notW))
            case first =>
              cases hbp : Lib.hasPrefix rest notW with
              | true =>
                obtain ⟨hpl, htk⟩ := pre_take.1 hbp
                have HBP := Lib.hid hbp
                have hplc : (4 : Int) ≤ (rest.length : Int) := by simp [notW] at hpl; omega
                have heq : (((ByteArray.mk rest.toArray).extract 0 4).toList == [110, 111, 116, 32]) = true := by
                  have : rest.take 4 = [110, 111, 116, 32] := htk
                  rw [Lib.extract_toList]
                  simpa using this
                clear htk hbp hpl
                go_wp2_with fail
                go_meet
                exact ⟨rfl, by rw [HBP.out]⟩
              | false =>
                have HBP := Lib.hid hbp
                by_cases hpl : 4 ≤ rest.length
                · have hplc : (4 : Int) ≤ (rest.length : Int) := by omega
                  have hne : ¬ rest.take 4 = [110, 111, 116, 32] := fun e => by
                    have := (pre_take (r := rest) (p := notW)).2 ⟨hpl, e⟩
                    rw [hbp] at this
                    cases this
                  have heq : (((ByteArray.mk rest.toArray).extract 0 4).toList == [110, 111, 116, 32]) = false := by
                    rw [Lib.extract_toList]
                    simpa using hne
                  clear hne hbp
                  go_wp2_with fail
                  go_meet
                  exact ⟨rfl, by rw [HBP.out]⟩
                · have hplc : ¬ (4 : Int) ≤ (rest.length : Int) := by omega
                  clear hbp
                  go_wp2_with fail
                  go_meet
                  exact ⟨rfl, by rw [HBP.out]⟩
            case rest =>
              obtain ⟨hwx, hcb⟩ := hcut
              subst hwx
              cases hbp : Lib.hasPrefix rest notW with
              | true =>
                rw [hbp] at HRW hcb
                obtain rfl := hcb
                have hrl4 : (4 : Int) ≤ (rest.length : Int) := by have h := (pre_take.1 hbp).1; simp [notW] at h; omega
                have htp := trim_hit hbp
                rw [htp] at HRW
                clear htp hbp
                go_upto_region 24 with fail
                rw [ba_tail rest 4]
                obtain ⟨tp, htp⟩ : ∃ tp, tp = rest.drop 4 := ⟨_, rfl⟩
                rw [show rest.drop notW.length = rest.drop 4 from rfl, ← htp] at HRW
                rw [← htp]
                clear htp
                go_wp2_with fail
                go_loop [15, 16] (fun t15 t16 => ∃ (p : Nat) (z : Int), p ≤ N.length ∧ t16 = .int .i64 z ∧ Hid (z = (p : Int) - 1) ∧ -1 ≤ z ∧ z < 40 ∧ ∃ q : Nat, t15 = .int .i64 (q : Int) ∧ q ≤ N.length ∧ Hid (q = qG N tp p)) (fun _ t16 => (intOf t16 + 1).toNat)
                case atStart => exact ⟨N.length, (N.length : Int) - 1, Nat.le_refl _, by go_num, rfl, by omega, by omega, 0, rfl, Nat.zero_le _, (qG_end N tp).symm⟩
                case round =>
                  obtain ⟨p, z, hp, rfl, HZ, hz1, hz2, q, rfl, hq, HQ⟩ := hrel
                  by_cases hzn : 0 ≤ z
                  · obtain ⟨k, rfl⟩ : ∃ k : Nat, z = (k : Int) := ⟨z.toNat, by omega⟩
                    have hpk : p = k + 1 := by have := HZ.out; omega
                    have hkl : k < N.length := by omega
                    have hklc : (k : Int) < (N.length : Int) := by omega
                    obtain ⟨nb, no, rfl, m0⟩ := name_at (HNM1.out.ext HBw.out) hkl
                    have HNK := Lib.hid (show N[k] = N[k] from rfl)
                    by_cases he : N[k] = tp
                    · have HQ2 := Lib.hid (qG_hit hkl he)
                      rw [he] at m0
                      clear he HNK
                      go_wp2_with fail
                      go_round
                      case rel => exact ⟨k, (k : Int) - 1, by omega, by go_num, rfl, by omega, by omega, k + 1, by go_num, by omega, HQ2.out.symm⟩
                      case measure => simp [intOf]
                    · have HQ2 := Lib.hid (qG_miss hkl he)
                      obtain ⟨nm, hnm⟩ : ∃ nm, nm = N[k] := ⟨_, rfl⟩
                      rw [← hnm] at m0 he
                      have hb1 : (nm == tp) = false := by simpa using he
                      clear hnm HNK
                      go_wp2_with fail
                      go_round
                      case rel => exact ⟨k, (k : Int) - 1, by omega, by go_num, rfl, by omega, by omega, q, rfl, hq, by show q = _; rw [HQ2.out, HQ.out, hpk]⟩
                      case measure => simp [intOf]
                  · obtain rfl : z = -1 := by omega
                    have HQ0 := Lib.hid (show q = qG N tp 0 by rw [HQ.out]; congr 1; have := HZ.out; omega)
                    clear HQ HZ
                    by_cases hix : idxF N tp < N.length
                    · obtain ⟨j2, hj2⟩ : ∃ j, j = idxF N tp := ⟨_, rfl⟩
                      have hqj : q = j2 + 1 := by rw [HQ0.out, qG_zero, if_pos hix, hj2]
                      have hq0 : ((q : Int) == 0) = false := by rw [beq_eq_false_iff_ne]; omega
                      have HOUT : Hid (stepsF N s = readF N (R.drop (i + 1)) (i + 1) (acc ++ [(a, b, -(q : Int))])) := Lib.hid (by
                        have h := HRW.out
                        rw [if_pos hix, ← hj2] at h
                        rw [hqj]
                        exact h)
                      have hq40 : (q : Int) ≤ 40 := by omega
                      have hqp : (0 : Int) < (q : Int) := by omega
                      clear HRW hix hj2 hqj z0 z1 f0 f1
                      have HJ := hj
                      clear hj
                      cases a with
                      | true =>
                        cases b with
                        | true =>
                          obtain rfl : j = 0 := HJ.symm
                          go_upto_region 32 with fail
                          go_wp2_with (at_builtin; refine wpList_append_own _ rfl _ _ _ rfl w1.heap.size 42 i0 _ 3 16 Tryd.underlying22 HI.out HZ0.out HZ1.out HZ2.out rfl (by omega) u8 acc.length _ rfl (World.ownsRow.alloc HOi.out _) ⟨wr.heap.size, 0, none⟩ 1 1 [.bool true, .bool true, .int .i64 (-(q : Int))] rfl rfl (new_cells wr [.bool true, .bool true, .int .i64 (-(q : Int))] _ _ rfl) (by intro u hu; simp only [List.mem_cons, List.not_mem_nil, or_false] at hu; rcases hu with rfl | rfl | rfl <;> rfl) (by simp only [maxLen]; omega) (by omega) (Nat.le_trans HBw.out.size (by simp)) ?_; intro v1 w6 hown1 hg1 _; have HO6 := Lib.hid hown1; have HB6 := Lib.hid (grown_ext (HBw.out.trans ((ext_alloc wr _).mono HBw.out.size)) rfl (World.ownsRow.alloc HOi.out _) hg1); clear hown1 hg1)
                          go_roundw
                          case rel =>
                            refine ⟨i + 1, acc ++ [(true, true, (-(q : Int)))], by go_num, by omega, by simp; omega, HOUT.out, HB6.out, ?_⟩
                            have ho := HO6.out
                            show World.ownsRow _ _ _ _ _ _ _
                            simpa [spC] using ho
                          case measure => simp [intOf]; omega
                        | false =>
                          obtain rfl : j = 1 := HJ.symm
                          go_upto_region 32 with fail
                          go_wp2_with (at_builtin; refine wpList_append_own _ rfl _ _ _ rfl w1.heap.size 42 i0 _ 3 16 Tryd.underlying22 HI.out HZ0.out HZ1.out HZ2.out rfl (by omega) u8 acc.length _ rfl (World.ownsRow.alloc HOi.out _) ⟨wr.heap.size, 0, none⟩ 1 1 [.bool true, .bool false, .int .i64 (-(q : Int))] rfl rfl (new_cells wr [.bool true, .bool false, .int .i64 (-(q : Int))] _ _ rfl) (by intro u hu; simp only [List.mem_cons, List.not_mem_nil, or_false] at hu; rcases hu with rfl | rfl | rfl <;> rfl) (by simp only [maxLen]; omega) (by omega) (Nat.le_trans HBw.out.size (by simp)) ?_; intro v1 w6 hown1 hg1 _; have HO6 := Lib.hid hown1; have HB6 := Lib.hid (grown_ext (HBw.out.trans ((ext_alloc wr _).mono HBw.out.size)) rfl (World.ownsRow.alloc HOi.out _) hg1); clear hown1 hg1)
                          go_roundw
                          case rel =>
                            refine ⟨i + 1, acc ++ [(true, false, (-(q : Int)))], by go_num, by omega, by simp; omega, HOUT.out, HB6.out, ?_⟩
                            have ho := HO6.out
                            show World.ownsRow _ _ _ _ _ _ _
                            simpa [spC] using ho
                          case measure => simp [intOf]; omega
                      | false =>
                        cases b with
                        | true =>
                          obtain rfl : j = 2 := HJ.symm
                          go_upto_region 32 with fail
                          go_wp2_with (at_builtin; refine wpList_append_own _ rfl _ _ _ rfl w1.heap.size 42 i0 _ 3 16 Tryd.underlying22 HI.out HZ0.out HZ1.out HZ2.out rfl (by omega) u8 acc.length _ rfl (World.ownsRow.alloc HOi.out _) ⟨wr.heap.size, 0, none⟩ 1 1 [.bool false, .bool true, .int .i64 (-(q : Int))] rfl rfl (new_cells wr [.bool false, .bool true, .int .i64 (-(q : Int))] _ _ rfl) (by intro u hu; simp only [List.mem_cons, List.not_mem_nil, or_false] at hu; rcases hu with rfl | rfl | rfl <;> rfl) (by simp only [maxLen]; omega) (by omega) (Nat.le_trans HBw.out.size (by simp)) ?_; intro v1 w6 hown1 hg1 _; have HO6 := Lib.hid hown1; have HB6 := Lib.hid (grown_ext (HBw.out.trans ((ext_alloc wr _).mono HBw.out.size)) rfl (World.ownsRow.alloc HOi.out _) hg1); clear hown1 hg1)
                          go_roundw
                          case rel =>
                            refine ⟨i + 1, acc ++ [(false, true, (-(q : Int)))], by go_num, by omega, by simp; omega, HOUT.out, HB6.out, ?_⟩
                            have ho := HO6.out
                            show World.ownsRow _ _ _ _ _ _ _
                            simpa [spC] using ho
                          case measure => simp [intOf]; omega
                        | false =>
                          obtain rfl : j = 3 := HJ.symm
                          go_upto_region 32 with fail
                          go_wp2_with (at_builtin; refine wpList_append_own _ rfl _ _ _ rfl w1.heap.size 42 i0 _ 3 16 Tryd.underlying22 HI.out HZ0.out HZ1.out HZ2.out rfl (by omega) u8 acc.length _ rfl (World.ownsRow.alloc HOi.out _) ⟨wr.heap.size, 0, none⟩ 1 1 [.bool false, .bool false, .int .i64 (-(q : Int))] rfl rfl (new_cells wr [.bool false, .bool false, .int .i64 (-(q : Int))] _ _ rfl) (by intro u hu; simp only [List.mem_cons, List.not_mem_nil, or_false] at hu; rcases hu with rfl | rfl | rfl <;> rfl) (by simp only [maxLen]; omega) (by omega) (Nat.le_trans HBw.out.size (by simp)) ?_; intro v1 w6 hown1 hg1 _; have HO6 := Lib.hid hown1; have HB6 := Lib.hid (grown_ext (HBw.out.trans ((ext_alloc wr _).mono HBw.out.size)) rfl (World.ownsRow.alloc HOi.out _) hg1); clear hown1 hg1)
                          go_roundw
                          case rel =>
                            refine ⟨i + 1, acc ++ [(false, false, (-(q : Int)))], by go_num, by omega, by simp; omega, HOUT.out, HB6.out, ?_⟩
                            have ho := HO6.out
                            show World.ownsRow _ _ _ _ _ _ _
                            simpa [spC] using ho
                          case measure => simp [intOf]; omega
                    · obtain rfl : q = 0 := by rw [HQ0.out, qG_zero, if_neg hix]
                      have HOUT := Lib.hid (show stepsF N s = (7, (i : Int), []) by
                        have h := HRW.out
                        rw [if_neg hix] at h
                        exact h)
                      clear HRW hix
                      have hr0 := (HVi.out.set 0 (.int .i64 (7))).set 1 (.int .i64 ((i : Int)))
                      have s0 := hr0.cell 0 rfl
                      have s1 := hr0.cell 1 rfl
                      have HBx := Lib.hid ((HBt.out.setCell (p := ⟨V, 0, none⟩) (by rw [← HVV.out]; exact Nat.le_refl _) (.int .i64 (7))).setCell (p := ⟨V, 1, none⟩) (by rw [← HVV.out]; exact Nat.le_refl _) (.int .i64 ((i : Int))))
                      clear hr0
                      go_wp2_with fail
                      refine bodyPost_ret (v := .tuple #[.slice none 0 0, .agg #[.int .i64 (7), .int .i64 ((i : Int))]]) (by simp [results, Tryd.results16, go_sem, s0, s1]) rfl ?_
                      exact rread_of (l := []) HOUT.out Rd.nil HBx.out
              | false =>
                have htp : Lib.trimPrefix rest notW = rest := by unfold Lib.trimPrefix; rw [hbp]; rfl
                rw [hbp] at HRW hcb
                rw [htp] at HRW
                obtain rfl := hcb
                clear htp hbp
                obtain ⟨tp, htp⟩ : ∃ tp, tp = rest := ⟨_, rfl⟩
                rw [← htp] at HRW ⊢
                clear htp
                go_wp2_with fail
                go_loop [15, 16] (fun t15 t16 => ∃ (p : Nat) (z : Int), p ≤ N.length ∧ t16 = .int .i64 z ∧ Hid (z = (p : Int) - 1) ∧ -1 ≤ z ∧ z < 40 ∧ ∃ q : Nat, t15 = .int .i64 (q : Int) ∧ q ≤ N.length ∧ Hid (q = qG N tp p)) (fun _ t16 => (intOf t16 + 1).toNat)
                case atStart => exact ⟨N.length, (N.length : Int) - 1, Nat.le_refl _, by go_num, rfl, by omega, by omega, 0, rfl, Nat.zero_le _, (qG_end N tp).symm⟩
                case round =>
                  obtain ⟨p, z, hp, rfl, HZ, hz1, hz2, q, rfl, hq, HQ⟩ := hrel
                  by_cases hzn : 0 ≤ z
                  · obtain ⟨k, rfl⟩ : ∃ k : Nat, z = (k : Int) := ⟨z.toNat, by omega⟩
                    have hpk : p = k + 1 := by have := HZ.out; omega
                    have hkl : k < N.length := by omega
                    have hklc : (k : Int) < (N.length : Int) := by omega
                    obtain ⟨nb, no, rfl, m0⟩ := name_at (HNM1.out.ext HBw.out) hkl
                    have HNK := Lib.hid (show N[k] = N[k] from rfl)
                    by_cases he : N[k] = tp
                    · have HQ2 := Lib.hid (qG_hit hkl he)
                      rw [he] at m0
                      clear he HNK
                      go_wp2_with fail
                      go_round
                      case rel => exact ⟨k, (k : Int) - 1, by omega, by go_num, rfl, by omega, by omega, k + 1, by go_num, by omega, HQ2.out.symm⟩
                      case measure => simp [intOf]
                    · have HQ2 := Lib.hid (qG_miss hkl he)
                      obtain ⟨nm, hnm⟩ : ∃ nm, nm = N[k] := ⟨_, rfl⟩
                      rw [← hnm] at m0 he
                      have hb1 : (nm == tp) = false := by simpa using he
                      clear hnm HNK
                      go_wp2_with fail
                      go_round
                      case rel => exact ⟨k, (k : Int) - 1, by omega, by go_num, rfl, by omega, by omega, q, rfl, hq, by show q = _; rw [HQ2.out, HQ.out, hpk]⟩
                      case measure => simp [intOf]
                  · obtain rfl : z = -1 := by omega
                    have HQ0 := Lib.hid (show q = qG N tp 0 by rw [HQ.out]; congr 1; have := HZ.out; omega)
                    clear HQ HZ
                    by_cases hix : idxF N tp < N.length
                    · obtain ⟨j2, hj2⟩ : ∃ j, j = idxF N tp := ⟨_, rfl⟩
                      have hqj : q = j2 + 1 := by rw [HQ0.out, qG_zero, if_pos hix, hj2]
                      have hq0 : ((q : Int) == 0) = false := by rw [beq_eq_false_iff_ne]; omega
                      have HOUT : Hid (stepsF N s = readF N (R.drop (i + 1)) (i + 1) (acc ++ [(a, b, (q : Int))])) := Lib.hid (by
                        have h := HRW.out
                        rw [if_pos hix, ← hj2] at h
                        rw [hqj]
                        exact h)
                      have hq40 : (q : Int) ≤ 40 := by omega
                      have hqp : (0 : Int) < (q : Int) := by omega
                      clear HRW hix hj2 hqj z0 z1 f0 f1
                      have HJ := hj
                      clear hj
                      cases a with
                      | true =>
                        cases b with
                        | true =>
                          obtain rfl : j = 0 := HJ.symm
                          go_upto_region 32 with fail
                          go_wp2_with (at_builtin; refine wpList_append_own _ rfl _ _ _ rfl w1.heap.size 42 i0 _ 3 16 Tryd.underlying22 HI.out HZ0.out HZ1.out HZ2.out rfl (by omega) u8 acc.length _ rfl (World.ownsRow.alloc HOi.out _) ⟨wr.heap.size, 0, none⟩ 1 1 [.bool true, .bool true, .int .i64 (q : Int)] rfl rfl (new_cells wr [.bool true, .bool true, .int .i64 (q : Int)] _ _ rfl) (by intro u hu; simp only [List.mem_cons, List.not_mem_nil, or_false] at hu; rcases hu with rfl | rfl | rfl <;> rfl) (by simp only [maxLen]; omega) (by omega) (Nat.le_trans HBw.out.size (by simp)) ?_; intro v1 w6 hown1 hg1 _; have HO6 := Lib.hid hown1; have HB6 := Lib.hid (grown_ext (HBw.out.trans ((ext_alloc wr _).mono HBw.out.size)) rfl (World.ownsRow.alloc HOi.out _) hg1); clear hown1 hg1)
                          go_roundw
                          case rel =>
                            refine ⟨i + 1, acc ++ [(true, true, (q : Int))], by go_num, by omega, by simp; omega, HOUT.out, HB6.out, ?_⟩
                            have ho := HO6.out
                            show World.ownsRow _ _ _ _ _ _ _
                            simpa [spC] using ho
                          case measure => simp [intOf]; omega
                        | false =>
                          obtain rfl : j = 1 := HJ.symm
                          go_upto_region 32 with fail
                          go_wp2_with (at_builtin; refine wpList_append_own _ rfl _ _ _ rfl w1.heap.size 42 i0 _ 3 16 Tryd.underlying22 HI.out HZ0.out HZ1.out HZ2.out rfl (by omega) u8 acc.length _ rfl (World.ownsRow.alloc HOi.out _) ⟨wr.heap.size, 0, none⟩ 1 1 [.bool true, .bool false, .int .i64 (q : Int)] rfl rfl (new_cells wr [.bool true, .bool false, .int .i64 (q : Int)] _ _ rfl) (by intro u hu; simp only [List.mem_cons, List.not_mem_nil, or_false] at hu; rcases hu with rfl | rfl | rfl <;> rfl) (by simp only [maxLen]; omega) (by omega) (Nat.le_trans HBw.out.size (by simp)) ?_; intro v1 w6 hown1 hg1 _; have HO6 := Lib.hid hown1; have HB6 := Lib.hid (grown_ext (HBw.out.trans ((ext_alloc wr _).mono HBw.out.size)) rfl (World.ownsRow.alloc HOi.out _) hg1); clear hown1 hg1)
                          go_roundw
                          case rel =>
                            refine ⟨i + 1, acc ++ [(true, false, (q : Int))], by go_num, by omega, by simp; omega, HOUT.out, HB6.out, ?_⟩
                            have ho := HO6.out
                            show World.ownsRow _ _ _ _ _ _ _
                            simpa [spC] using ho
                          case measure => simp [intOf]; omega
                      | false =>
                        cases b with
                        | true =>
                          obtain rfl : j = 2 := HJ.symm
                          go_upto_region 32 with fail
                          go_wp2_with (at_builtin; refine wpList_append_own _ rfl _ _ _ rfl w1.heap.size 42 i0 _ 3 16 Tryd.underlying22 HI.out HZ0.out HZ1.out HZ2.out rfl (by omega) u8 acc.length _ rfl (World.ownsRow.alloc HOi.out _) ⟨wr.heap.size, 0, none⟩ 1 1 [.bool false, .bool true, .int .i64 (q : Int)] rfl rfl (new_cells wr [.bool false, .bool true, .int .i64 (q : Int)] _ _ rfl) (by intro u hu; simp only [List.mem_cons, List.not_mem_nil, or_false] at hu; rcases hu with rfl | rfl | rfl <;> rfl) (by simp only [maxLen]; omega) (by omega) (Nat.le_trans HBw.out.size (by simp)) ?_; intro v1 w6 hown1 hg1 _; have HO6 := Lib.hid hown1; have HB6 := Lib.hid (grown_ext (HBw.out.trans ((ext_alloc wr _).mono HBw.out.size)) rfl (World.ownsRow.alloc HOi.out _) hg1); clear hown1 hg1)
                          go_roundw
                          case rel =>
                            refine ⟨i + 1, acc ++ [(false, true, (q : Int))], by go_num, by omega, by simp; omega, HOUT.out, HB6.out, ?_⟩
                            have ho := HO6.out
                            show World.ownsRow _ _ _ _ _ _ _
                            simpa [spC] using ho
                          case measure => simp [intOf]; omega
                        | false =>
                          obtain rfl : j = 3 := HJ.symm
                          go_upto_region 32 with fail
                          go_wp2_with (at_builtin; refine wpList_append_own _ rfl _ _ _ rfl w1.heap.size 42 i0 _ 3 16 Tryd.underlying22 HI.out HZ0.out HZ1.out HZ2.out rfl (by omega) u8 acc.length _ rfl (World.ownsRow.alloc HOi.out _) ⟨wr.heap.size, 0, none⟩ 1 1 [.bool false, .bool false, .int .i64 (q : Int)] rfl rfl (new_cells wr [.bool false, .bool false, .int .i64 (q : Int)] _ _ rfl) (by intro u hu; simp only [List.mem_cons, List.not_mem_nil, or_false] at hu; rcases hu with rfl | rfl | rfl <;> rfl) (by simp only [maxLen]; omega) (by omega) (Nat.le_trans HBw.out.size (by simp)) ?_; intro v1 w6 hown1 hg1 _; have HO6 := Lib.hid hown1; have HB6 := Lib.hid (grown_ext (HBw.out.trans ((ext_alloc wr _).mono HBw.out.size)) rfl (World.ownsRow.alloc HOi.out _) hg1); clear hown1 hg1)
                          go_roundw
                          case rel =>
                            refine ⟨i + 1, acc ++ [(false, false, (q : Int))], by go_num, by omega, by simp; omega, HOUT.out, HB6.out, ?_⟩
                            have ho := HO6.out
                            show World.ownsRow _ _ _ _ _ _ _
                            simpa [spC] using ho
                          case measure => simp [intOf]; omega
                    · obtain rfl : q = 0 := by rw [HQ0.out, qG_zero, if_neg hix]
                      have HOUT := Lib.hid (show stepsF N s = (7, (i : Int), []) by
                        have h := HRW.out
                        rw [if_neg hix] at h
                        exact h)
                      clear HRW hix
                      have hr0 := (HVi.out.set 0 (.int .i64 (7))).set 1 (.int .i64 ((i : Int)))
                      have s0 := hr0.cell 0 rfl
                      have s1 := hr0.cell 1 rfl
                      have HBx := Lib.hid ((HBt.out.setCell (p := ⟨V, 0, none⟩) (by rw [← HVV.out]; exact Nat.le_refl _) (.int .i64 (7))).setCell (p := ⟨V, 1, none⟩) (by rw [← HVV.out]; exact Nat.le_refl _) (.int .i64 ((i : Int))))
                      clear hr0
                      go_wp2_with fail
                      refine bodyPost_ret (v := .tuple #[.slice none 0 0, .agg #[.int .i64 (7), .int .i64 ((i : Int))]]) (by simp [results, Tryd.results16, go_sem, s0, s1]) rfl ?_
                      exact rread_of (l := []) HOUT.out Rd.nil HBx.out
    · obtain rfl : R.length = i := by omega
      have hlc2 : ¬ (R.length : Int) < (R.length : Int) := by omega
      obtain ⟨A1, c1, rfl, _⟩ := own_slice HO.out
      have HOUT := Lib.hid (show stepsF N s = (0, -1, acc) by
        have h := HS.out
        rw [List.drop_length] at h
        exact h)
      have HBw := HB
      have hv1 : V < w1.heap.size := HV1.out.lt
      have HO2 := Lib.hid (Rd.of_own (own_set (j := 1) (own_set (j := 0) HO.out hv1 (.int .i64 0)) hv1 (.int .i64 (-1))))
      clear hv1
      have HVi := Lib.hid (HV1.out.ext (HBw.out.mono (show V + 1 ≤ _ from HV1.out.lt)))
      have HBt := Lib.hid (ext_trans HB1.out HBw.out)
      have z0 := HVi.out.cell 0 rfl
      have z1 := HVi.out.cell 1 rfl
      have f0 := HVi.out.free 0
      have f1 := HVi.out.free 1
      have hr0 := (HVi.out.set 0 (.int .i64 0)).set 1 (.int .i64 (-1))
      have s0 := hr0.cell 0 rfl
      have s1 := hr0.cell 1 rfl
      have HBx := Lib.hid ((HBt.out.setCell (p := ⟨V, 0, none⟩) (by rw [← HVV.out]; exact Nat.le_refl _) (.int .i64 0)).setCell (p := ⟨V, 1, none⟩) (by rw [← HVV.out]; exact Nat.le_refl _) (.int .i64 (-1)))
      clear hr0
      go_wp2_with fail
      refine bodyPost_ret (v := .tuple #[.slice A1 acc.length c1, .agg #[.int .i64 0, .int .i64 (-1)]]) (by simp [results, Tryd.results16, go_sem, s0, s1]) rfl ?_
      exact rread_of (l := acc) HOUT.out HO2.out HBx.out
end Go.Proofs.YtpbmamcmmogidaaDoor.Wt

/- The law LedgerAnew answers true: the walk, joined. -/
import Derived.Test.YtipbmpakdcmdoaaDoorLedgerAnewWalk
namespace Go.Proofs.YtipbmpakdcmdoaaDoor.LedgerAnew
open Go.RowKit Mem Pays Nest Claims Settle

structure Errs4 (w : World) (aB aD aC aK : Addr) : Prop where
  b : w.cell? ⟨1, 0, none⟩ = some (.iface 191 (.pointer (some aB)))
  d : w.cell? ⟨3, 0, none⟩ = some (.iface 191 (.pointer (some aD)))
  c : w.cell? ⟨2, 0, none⟩ = some (.iface 191 (.pointer (some aC)))
  k : w.cell? ⟨8, 0, none⟩ = some (.iface 191 (.pointer (some aK)))
theorem Errs4.ext {w w' : World} {aB aD aC aK : Addr} (h : Errs4 w aB aD aC aK) (hb : Below w.heap.size w w') : Errs4 w' aB aD aC aK :=
  ⟨cell_ext hb h.b, cell_ext hb h.d, cell_ext hb h.c, cell_ext hb h.k⟩
theorem rd_blk {w : World} {B : Nat} {T : TypeId} {cs : List Value} (h : Blk w B T cs) : Rd w (some ⟨B, 0, none⟩) cs := fun j u hj => ⟨B, 0, rfl, by rw [Nat.zero_add]; exact h.cell j hj⟩
def one (B : Nat) : List Cl := [⟨40, [(1, 32, 7)], some ⟨B, 0, none⟩, 1⟩]
theorem one_vb (B : Nat) : ¬ VB (one B) (one B).length := by
  rintro (h | ⟨i, hi, r, hr, h⟩)
  · simp [one] at h
  · have : i = 0 := by simp [one] at hi; omega
    subst this
    simp [one] at hr
    subst hr
    simp at h
theorem one_vd (B : Nat) : ¬ Upto (PD (one B)) (one B).length := by
  rintro ⟨i, hi, r, hr, h⟩
  have : i = 0 := by simp [one] at hi; omega
  subst this
  simp [one] at hr
  subst hr
  rcases h with (h | ⟨_, _, h, _⟩) | ⟨k, hk, p, hp, h⟩
  · exact h ⟨show (1 : Int) ≤ 40 by decide, show (40 : Int) ≤ 3652059 by decide⟩
  · omega
  · have : k = 0 := by simp at hk; omega
    subst this
    simp at hp
    subst hp
    rcases h with h | h | h
    · exact h ⟨by decide, by decide⟩
    · exact h ⟨by decide, by decide⟩
    · revert h; decide
theorem one_vc (B : Nat) : ¬ VC (one B) 5000 (one B).length := by
  rintro (h | ⟨i, hi, r, hr, k, hk, p, hp, h⟩)
  · omega
  · have : i = 0 := by simp [one] at hi; omega
    subst this
    simp [one] at hr
    subst hr
    have : k = 0 := by simp at hk; omega
    subst this
    simp at hp
    subst hp
    unfold BadCent at h
    simp at h
theorem one_run (B : Nat) : (run 5000 ((one B).map Cl.key)).es = [(40, [(.rights, -7), (.paid, 7)])] := by
  show (run 5000 [(40, [(1, 32, 7)])]).es = _
  decide
theorem one_fits (B : Nat) : Fits 5000 (run 5000 (((one B).map Cl.key).take 0)) (40, [(1, 32, 7)]) := by
  show Fits 5000 (run 5000 []) _
  refine ⟨⟨by decide, by decide⟩, ⟨by decide, by decide⟩, ⟨by decide, by decide⟩, ⟨by decide, by decide⟩⟩
set_option maxRecDepth 100000 in
theorem settles_any (aB aD aC aK : Addr) (w : World) (hE : Errs4 w aB aD aC aK) : Calls Tryd.prog 17 #[] w fun e w' => e = .returned (.bool true) ∧ Below w.heap.size w w' := by
  have HE := Lib.hid hE
  clear hE
  go_enter Tryd.func17, Tryd.ntmps17
  go_wp2_with fail
  have hC : Cls ((w.alloc (.cells #[.int .i64 1, .int .i64 32, .int .i64 7] 55)).alloc (.cells #[.int .i64 40, .slice (some ⟨w.heap.size, 0, none⟩) 1 1] 109)) (some ⟨w.heap.size + 1, 0, none⟩) (one w.heap.size) := by
    have h1 := Blk.new w 55 [.int .i64 1, .int .i64 32, .int .i64 7]
    have h2 := Blk.new (w.alloc (.cells #[.int .i64 1, .int .i64 32, .int .i64 7] 55)) 109 [.int .i64 40, .slice (some ⟨w.heap.size, 0, none⟩) 1 1]
    refine ⟨?_, ?_, ?_⟩
    · have := rd_blk h2
      simpa [one, clCells] using this
    · intro r hr
      simp [one] at hr
      subst hr
      exact (rd_blk h1).ext (ext_alloc _ _)
    · intro r hr
      simp [one] at hr
      subst hr
      exact ⟨by simp, by simp [maxLen]⟩
  have HC := Lib.hid hC
  clear hC
  have hb0 := ext_trans (ext_alloc w (.cells #[.int .i64 1, .int .i64 32, .int .i64 7] 55)) (ext_alloc _ (.cells #[.int .i64 40, .slice (some ⟨w.heap.size, 0, none⟩) 1 1] 109))
  have HB0 := Lib.hid hb0
  have hE2 := HE.out.ext hb0
  have HE2 := Lib.hid hE2
  clear hb0 hE2
  refine (settle_any _ 1 (one w.heap.size) 5000 _ HC.out (by simp [one]) (by intro r hr; simp [one] at hr; subst hr; simp) _ _ _ _ HE2.out.b HE2.out.d HE2.out.c HE2.out.k).mono ?_
  rintro e w' ⟨hb, h⟩
  have HB := Lib.hid (ext_trans HB0.out hb)
  clear hb
  rcases h with ⟨h, _⟩ | ⟨_, h, _⟩ | ⟨_, _, h, _⟩ | ⟨_, _, _, ⟨j, hj, _, h, _⟩ | ⟨_, A, c, es, rfl, hk, hes, hc⟩⟩
  · exact absurd h (one_vb _)
  · exact absurd h (one_vd _)
  · exact absurd h (one_vc _)
  · have : j = 0 := by simp [one] at hj; omega
    subst this
    exact absurd (one_fits _) h
  · rw [one_run] at hk
    obtain ⟨e0, rfl⟩ : ∃ e0, es = [e0] := by
      clear hes hc
      cases es with
      | nil => simp at hk
      | cons e0 t =>
        cases t with
        | nil => exact ⟨e0, rfl⟩
        | cons _ _ => simp at hk
    have hl : e0.lines.length = 2 := by
      simp [En.key] at hk
      rw [hk.2]
      rfl
    obtain ⟨b, o, rfl, r2⟩ := en_at hes (k := 0) (by simp)
    simp only [List.getElem_cons_zero, hl] at r2
    have hc1 : 1 ≤ c := hc
    clear hk hes hc hl
    go_wp2_with fail
    go_ret
    exact ⟨rfl, HB.out⟩
theorem not_debts {a : Acc} (h : a ≠ .debts) : ((bytes a).toList == [100, 101, 98, 116, 115]) = false := by
  rw [ByteArray.toList_eq]
  cases a <;> first | exact absurd rfl h | decide
theorem sumE_bd (l : List Line) (h : SmallL l) (k : Nat) : -6000000000000 ≤ sumE (l.take k) ∧ sumE (l.take k) ≤ 6000000000000 := by
  obtain ⟨h1, h2⟩ := h
  have := sumL_bd 2000000000000 ((l.take k).map (·.2)) (by
    intro x hx
    obtain ⟨y, hy, rfl⟩ := List.mem_map.1 hx
    exact h2 y (List.mem_of_mem_take hy))
  rw [List.length_map, List.length_take] at this
  unfold sumE
  omega
set_option maxRecDepth 100000 in
set_option maxHeartbeats 2000000 in
theorem walk (A : Option Addr) (c : Nat) (rs : List Cl) (rate : Int) (aB aD aC aK : Addr) (w : World) (hE : Errs4 w aB aD aC aK) (hr : Cls w A rs) (hc : rs.length ≤ c) (hcm : c ≤ maxLen) (hn : rs.length ≤ 1048576) (hd : ∀ r ∈ rs, r.dues.length ≤ 1048576) :
    Calls Tryd.prog 4 #[.slice A rs.length c, .int .i64 rate] w fun e w' => e = .returned (.bool true) ∧ Below w.heap.size w w' := by
  have HE := Lib.hid hE
  have HR := Lib.hid hr
  have HD := Lib.hid hd
  have HC := Lib.hid (And.intro hc hcm)
  clear hE hr hd hc hcm
  go_enter Tryd.func4, Tryd.ntmps4
  go_wp2_with fail
  refine (settles_any _ _ _ _ _ HE.out).mono ?_
  rintro e w1 ⟨rfl, hb⟩
  have HB := Lib.hid hb
  clear hb
  go_wp2_with fail
  refine (few_any _ _ _ _ (HR.out.ext HB.out) HC.out.1 HC.out.2).mono ?_
  rintro e w' ⟨b, rfl, hb, rfl⟩
  cases b
  · go_wp2_with fail
    go_ret
    exact ⟨rfl, HB.out⟩
  · have h4 := hb rfl
    clear hb
    by_cases h0 : rs.length = 0
    · have h0' : ((rs.length : Int) == 0) = true := by simp [h0]
      go_wp2_with fail
      go_ret
      exact ⟨rfl, HB.out⟩
    · have h0' : ((rs.length : Int) == 0) = false := by rw [beq_eq_false_iff_ne]; omega
      go_wp2_with fail
      refine (claims_any _ _ _ _ (HR.out.ext HB.out) hn HD.out).mono ?_
      rintro e w2 ⟨A2, c2, rs2, rfl, hk, hcl, hc2, hm2, hb2⟩
      have HB2 := Lib.hid (ext_trans HB.out hb2)
      have HK := Lib.hid hk
      have HCL := Lib.hid hcl
      have hl2 : rs2.length = rs.length := by simpa using congrArg List.length hk
      have HL2 := Lib.hid hl2
      have HDU := Lib.hid (show ∀ r ∈ rs2, r.dues.length ≤ 1048576 from fun r hr => by
        have h1 : Cl.key r ∈ rs2.map Cl.key := List.mem_map.2 ⟨r, hr, rfl⟩
        rw [hk] at h1
        obtain ⟨r', hr', e⟩ := List.mem_map.1 h1
        have := HD.out r' hr'
        have e2 : r'.dues = r.dues := congrArg Prod.snd e
        rwa [e2] at this)
      clear hk hcl hc2 hm2 hb2 hl2
      go_wp2_with fail
      have HE2 := Lib.hid (HE.out.ext HB2.out)
      refine (settle_any _ _ rs2 rate _ HCL.out (by rw [HL2.out]; exact hn) HDU.out _ _ _ _ HE2.out.b HE2.out.d HE2.out.c HE2.out.k).mono ?_
      rintro e w3 ⟨hb3, h⟩
      have HB3 := Lib.hid (ext_trans HB2.out hb3)
      clear hb3
      rcases h with ⟨_, rfl⟩ | ⟨_, _, rfl⟩ | ⟨_, _, _, rfl⟩ | ⟨h1, h2, h3, ⟨j, hj, _, _, rfl⟩ | ⟨hf, A3, c3, es, rfl, hk, hes, hc3⟩⟩
      · go_wp2_with fail
        go_ret
        exact ⟨rfl, HB3.out⟩
      · go_wp2_with fail
        go_ret
        exact ⟨rfl, HB3.out⟩
      · go_wp2_with fail
        go_ret
        exact ⟨rfl, HB3.out⟩
      · go_wp2_with fail
        go_ret
        exact ⟨rfl, HB3.out⟩
      · have HS := Lib.hid (sane_of h1 h3)
        have HF := Lib.hid hf
        have HKE := Lib.hid hk
        have HES := Lib.hid hes
        clear h1 h2 h3 hf hk hes
        have HI := Lib.hid (show Inv (run rate (rs2.map Cl.key)) from run_inv rate HS.out.r0 _)
        have HSM := Lib.hid (show Sml (run rate (rs2.map Cl.key)) rs2.length by
          have := run_small rate HS.out.r0 (rs2.map Cl.key) rs2.length (by simp) (fun i hi hij => by rw [List.getElem_map]; exact HF.out i (by rwa [List.length_map] at hi))
          rwa [List.take_of_length_le (by simp)] at this)
        have hel : es.length ≤ 400 := by
          have h1 := HSM.out.len
          rw [← HKE.out, List.length_map] at h1
          have := HS.out.n
          omega
        have HSL := Lib.hid (show ∀ e ∈ es, SmallL e.lines from fun e he => HSM.out.es (e.day, e.lines) (by rw [← HKE.out]; exact List.mem_map.2 ⟨e, he, rfl⟩))
        have HSU := Lib.hid (show ∀ e ∈ es, sumE e.lines = 0 from fun e he => HI.out.sums (e.day, e.lines) (by rw [← HKE.out]; exact List.mem_map.2 ⟨e, he, rfl⟩))
        have HNV := Lib.hid (show ∀ i, i ≤ es.length → bal .debts ((es.map En.key).take i) ≤ 0 from fun i hi => by
          have := HI.out.never i (by rw [← HKE.out, List.length_map]; exact hi)
          rwa [← HKE.out] at this)
        go_wp2_with fail
        go_loopw [9, 10] (fun d i wr => w3 = wr ∧ ∃ j : Nat, d = .int .i64 (-(bal .debts ((es.map En.key).take j))) ∧ i = .int .i64 j ∧ j ≤ es.length) (fun _ i _ => (es.length - intOf i).toNat)
        case atStart => exact ⟨rfl, 0, by simp [bal, sumL], rfl, by omega⟩
        case round =>
          obtain ⟨hw, j, rfl, rfl, hj⟩ := hrel
          subst hw
          have hbd := bal_bd .debts ((es.map En.key).take j) (fun e he => by
            obtain ⟨x, hx, rfl⟩ := List.mem_map.1 (List.mem_of_mem_take he)
            exact HSL.out x hx)
          rw [List.length_take, List.length_map] at hbd
          obtain ⟨hb1, hb2⟩ : -2400000000000000 ≤ bal .debts ((es.map En.key).take j) ∧ bal .debts ((es.map En.key).take j) ≤ 2400000000000000 := by
            have : ((min j es.length : Nat) : Int) ≤ 400 := by omega
            omega
          clear hbd
          by_cases hlt : j < es.length
          · have hcl : (j : Int) < es.length := by omega
            obtain ⟨b, o, rfl, r2⟩ := en_at HES.out hlt
            have HL := Lib.hid (HES.out.lines _ (List.getElem_mem hlt))
            have HM := Lib.hid (HSL.out _ (List.getElem_mem hlt))
            have HZ := Lib.hid (HSU.out _ (List.getElem_mem hlt))
            have HT := Lib.hid (bal_take .debts (es.map En.key) j (by simpa using hlt))
            have HN := Lib.hid (HNV.out (j + 1) (by omega))
            have hl3 : es[j].lines.length ≤ 3 := HM.out.1
            generalize bal .debts ((es.map En.key).take j) = B0 at *
            go_wp2_with fail
            go_loopw [9, 11, 12] (fun d s i wr => w3 = wr ∧ ∃ m : Nat, d = .int .i64 (-B0 - balL .debts (es[j].lines.take m)) ∧ s = .int .i64 (sumE (es[j].lines.take m)) ∧ i = .int .i64 m ∧ m ≤ es[j].lines.length) (fun _ _ i _ => (es[j].lines.length - intOf i).toNat)
            case atStart => exact ⟨rfl, 0, by simp [balL, sumL], by simp [sumE, sumL], rfl, by omega⟩
            case round =>
              obtain ⟨hw, m, rfl, rfl, rfl, hm⟩ := hrel
              subst hw
              obtain ⟨lb1, lb2⟩ := balL_bd .debts es[j].lines HM.out m
              obtain ⟨sb1, sb2⟩ := sumE_bd es[j].lines HM.out m
              by_cases hlm : m < es[j].lines.length
              · have hcm : (m : Int) < es[j].lines.length := by omega
                obtain ⟨b', o', hA, l0, l1⟩ := li_at HL.out hlm
                obtain ⟨s1, s2⟩ := HM.out.2 _ (List.getElem_mem hlm)
                have HA := Lib.hid hA
                clear hA
                rw [HA.out] at r2
                rw [val_eq] at l0
                have HT3 := Lib.hid (balL_take .debts es[j].lines m hlm)
                have HT4 := Lib.hid (sumE_take es[j].lines m hlm)
                by_cases hx : es[j].lines[m].1 = .debts
                · have HX := Lib.hid hx
                  rw [hx] at l0
                  simp only [bytes] at l0
                  clear hx
                  go_wp2_with fail
                  go_roundw
                  case rel =>
                    refine ⟨by first | trivial | rfl, m + 1, ?_, by rw [HT4.out], by simp, by omega⟩
                    rw [HT3.out, if_pos HX.out, Int.sub_sub]
                  case measure => simp [intOf]; omega
                · have q1 := not_debts hx
                  have HX := Lib.hid hx
                  clear hx
                  go_wp2_with fail
                  go_roundw
                  case rel =>
                    refine ⟨by first | trivial | rfl, m + 1, ?_, by rw [HT4.out], by simp, by omega⟩
                    rw [HT3.out, if_neg HX.out]
                    simp
                  case measure => simp [intOf]; omega
              · have hcm : ¬ (m : Int) < es[j].lines.length := by omega
                have hmm : es[j].lines.take m = es[j].lines := List.take_of_length_le (by omega)
                rw [hmm, HZ.out]
                obtain ⟨V, hV⟩ : ∃ V, V = -B0 - balL .debts es[j].lines := ⟨_, rfl⟩
                have hbt : bal .debts ((es.map En.key).take (j + 1)) = B0 + balL .debts es[j].lines := by rw [HT.out, List.getElem_map]; rfl
                have hv0 : 0 ≤ V := by have := HN.out; rw [hbt] at this; omega
                rw [← hV]
                have HV := Lib.hid (show V = -bal .debts ((es.map En.key).take (j + 1)) by rw [hbt, hV]; omega)
                clear hmm hV hbt
                go_wp2_with fail
                go_roundw
                case rel =>
                  refine ⟨by first | trivial | rfl, j + 1, by rw [HV.out], by simp, by omega⟩
                case measure => simp [intOf]; omega
          · have hcl : ¬ (j : Int) < es.length := by omega
            have hkj : (es.map En.key).take j = es.map En.key := List.take_of_length_le (by simp; omega)
            rw [hkj]
            obtain ⟨rt, hrt⟩ : ∃ x, x = (run rate (rs2.map Cl.key)).right := ⟨_, rfl⟩
            obtain ⟨db, hdb⟩ : ∃ x, x = (run rate (rs2.map Cl.key)).debt := ⟨_, rfl⟩
            have HbR := Lib.hid (show bal .rights (es.map En.key) = -rt by rw [HKE.out, hrt]; exact HI.out.bR)
            have HbP := Lib.hid (show bal .paid (es.map En.key) = rt + db by rw [HKE.out, hrt, hdb, HI.out.bP]; exact HI.out.paid)
            have hbD : bal .debts (es.map En.key) = -db := by rw [HKE.out, hdb]; exact HI.out.bD
            rw [hbD]
            obtain ⟨t1, t2⟩ : G rt := by rw [hrt]; exact HSM.out.right
            obtain ⟨t3, t4⟩ : G db := by rw [hdb]; exact HSM.out.debt
            have HRT := Lib.hid hrt
            clear hb1 hb2 hkj hbD hrt hdb
            go_wp2_with fail
            refine (balance_any .rights _ _ _ _ HES.out hel HSL.out).mono ?_
            rintro e w' ⟨rfl, rfl⟩
            rw [HbR.out]
            go_wp2_with fail
            refine (balance_any .paid _ _ _ _ HES.out hel HSL.out).mono ?_
            rintro e w' ⟨rfl, rfl⟩
            rw [HbP.out]
            obtain ⟨k, hk⟩ : ∃ k, rs.length = k + 1 := ⟨rs.length - 1, by omega⟩
            have hkl : k < rs.length := by omega
            have HR3 := Lib.hid (HR.out.ext HB3.out)
            obtain ⟨b, o, rfl, x0, x1⟩ := HR3.out.row hkl
            have hk2 : k < rs2.length := by rw [HL2.out]; exact hkl
            have hkey : rs2[k].key = rs[k].key := by
              have := congrArg (fun l => l[k]?) HK.out
              simpa [hk2, hkl] using this
            have hdue := HS.out.due _ (List.getElem_mem hk2)
            rw [show rs2[k].dues = rs[k].dues from congrArg Prod.snd hkey] at hdue
            have HDE := Lib.hid hdue
            have HOV := Lib.hid (show overSum rs[k].day rs[k].dues = rt by
              rw [HRT.out, ← List.take_of_length_le (l := rs2.map Cl.key) (i := k + 1) (by rw [List.length_map, HL2.out]; omega), run_take rate _ k (by rw [List.length_map]; exact hk2), List.getElem_map, hkey]
              rfl)
            have HRK := Lib.hid (HR3.out.dues _ (List.getElem_mem hkl))
            clear hkey hdue
            go_wp2_with fail
            refine (right_any _ _ _ _ _ HRK.out HDE.out.1 HDE.out.2).mono ?_
            rintro e w4 ⟨rfl, hb4⟩
            have HB4 := Lib.hid (ext_trans HB3.out hb4)
            clear hb4
            rw [HOV.out]
            go_wp2_with fail
            go_ret
            exact ⟨rfl, HB4.out⟩
end Go.Proofs.YtipbmpakdcmdoaaDoor.LedgerAnew

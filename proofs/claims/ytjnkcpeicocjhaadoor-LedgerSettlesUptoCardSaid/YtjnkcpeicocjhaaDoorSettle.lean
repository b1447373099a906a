/- Settling claims: the ledger's own function. -/
import Derived.Test.YtjnkcpeicocjhaaDoorLVal
import Derived.Test.YtjnkcpeicocjhaaDoorPut
namespace Go.Proofs.YtjnkcpeicocjhaaDoor.Settle
open Go.RowKit Mem Pays Nest Claims

/-- what the tests leave: few claims, of few good amounts -/
structure Sane (rs : List Cl) (rate : Int) : Prop where
  r0 : 0 ≤ rate
  r1 : rate ≤ 10000
  n : rs.length ≤ 400
  due : ∀ r ∈ rs, r.dues.length ≤ 400 ∧ ∀ p ∈ r.dues, -1000000000000 ≤ p.2.2 ∧ p.2.2 ≤ 1000000000000
theorem sane_of {rs : List Cl} {rate : Int} (h1 : ¬ VB rs rs.length) (h3 : ¬ VC rs rate rs.length) : Sane rs rate := by
  unfold VB at h1
  unfold VC at h3
  refine ⟨by omega, by omega, by omega, fun r hr => ?_⟩
  obtain ⟨i, hi⟩ := List.getElem?_of_mem hr
  have hlt := (List.getElem?_eq_some_iff.1 hi).1
  refine ⟨?_, fun p hp => ?_⟩
  · rcases Nat.lt_or_ge 400 r.dues.length with h | h
    · exact absurd (.inr ⟨i, hlt, r, hi, h⟩) h1
    · exact h
  · obtain ⟨k, hk⟩ := List.getElem?_of_mem hp
    have hkl := (List.getElem?_eq_some_iff.1 hk).1
    by_cases hb : BadCent p
    · exact absurd (.inr ⟨i, hlt, r, hi, k, hkl, p, hk, hb⟩) h3
    · unfold BadCent at hb; omega
theorem entry_info : (Tryd.prog.info? 56).map (fun i => (i.zero, i.size, i.bytes)) = some (some (.agg #[.int .i64 0, .string ⟨#[]⟩, .slice none 0 0]), 3, 48) := by kernel_rfl
theorem addL_len (a : Acc) (n : Int) : (addL a n).length ≤ 1 := by unfold addL; split <;> simp
theorem lines_pos (D W : Int) (h : 0 < D) : linesOf D W = (([] ++ addL .rights (-D)) ++ addL .paid (D - W)) ++ addL .debts W := by
  unfold linesOf addL
  rw [if_neg (show ¬ D = 0 by omega), if_neg (show ¬ -D = 0 by omega)]
  by_cases h1 : D - W = 0
  · simp [h1]
  · simp [h, h1]
theorem lines_neg (D : Int) (h : D ≤ 0) : linesOf D D = ([] ++ addL .rights (-D)) ++ addL .debts D := by
  unfold linesOf addL
  rw [if_neg (show ¬ (0 < D ∧ D - D ≠ 0) by omega)]
  by_cases h1 : D = 0
  · simp [h1]
  · rw [if_neg h1, if_neg (show ¬ -D = 0 by omega)]
    simp
structure En where
  day : Int
  lines : List Line
  A : Option Addr
  c : Nat
def En.key (e : En) : Int × List Line := (e.day, e.lines)
def enCells (e : En) : List Value := [.int .i64 e.day, .string ⟨#[97, 110, 101, 119]⟩, .slice e.A e.lines.length e.c]
theorem enCells_len (e : En) : (enCells e).length = 3 := rfl
structure Ens (w : World) (A : Option Addr) (es : List En) : Prop where
  rows : Rd w A (es.flatMap enCells)
  lines : ∀ e ∈ es, Rd w e.A (e.lines.flatMap liCells)
  cap : ∀ e ∈ es, e.lines.length ≤ e.c
/-- what settling hands on -/
def SettlePost (rs : List Cl) (rate : Int) (EB ED EC : Value) (w : World) (e : Ending) (w' : World) : Prop :=
  Below w.heap.size w w' ∧
  ((VB rs rs.length ∧ e = .returned (.tuple #[.slice none 0 0, EB])) ∨ (¬ VB rs rs.length ∧ Upto (PD rs) rs.length ∧ e = .returned (.tuple #[.slice none 0 0, ED])) ∨
   (¬ VB rs rs.length ∧ ¬ Upto (PD rs) rs.length ∧ VC rs rate rs.length ∧ e = .returned (.tuple #[.slice none 0 0, EC])) ∨
   (¬ VB rs rs.length ∧ ¬ Upto (PD rs) rs.length ∧ ¬ VC rs rate rs.length ∧
     ((∃ j, ∃ h : j < rs.length, (∀ i (hi : i < rs.length), i < j → Fits rate (run rate ((rs.map Cl.key).take i)) rs[i].key) ∧ ¬ Fits rate (run rate ((rs.map Cl.key).take j)) rs[j].key ∧ e = .returned (.tuple #[.slice none 0 0, EC])) ∨
      ((∀ i (hi : i < rs.length), Fits rate (run rate ((rs.map Cl.key).take i)) rs[i].key) ∧ ∃ A c es, e = .returned (.tuple #[.slice A es.length c, .nilIface]) ∧ es.map En.key = (run rate (rs.map Cl.key)).es ∧ Ens w' A es ∧ es.length ≤ c))))

set_option maxRecDepth 100000 in
set_option maxHeartbeats 2000000 in
theorem settle_any (A : Option Addr) (c : Nat) (rs : List Cl) (rate : Int) (w : World) (hr : Cls w A rs) (hn : rs.length ≤ 1048576) (hd : ∀ r ∈ rs, r.dues.length ≤ 1048576) (aB aD aC aK : Addr)
    (hB : w.cell? ⟨1, 0, none⟩ = some (.iface 238 (.pointer (some aB)))) (hD : w.cell? ⟨2, 0, none⟩ = some (.iface 238 (.pointer (some aD)))) (hC : w.cell? ⟨0, 0, none⟩ = some (.iface 238 (.pointer (some aC)))) (hK : w.cell? ⟨3, 0, none⟩ = some (.iface 238 (.pointer (some aK)))) :
    Calls Tryd.prog 14 #[.slice A rs.length c, .int .i64 rate] w (SettlePost rs rate (.iface 238 (.pointer (some aB))) (.iface 238 (.pointer (some aD))) (.iface 238 (.pointer (some aC))) w) := by
  have HR := Lib.hid hr
  have HDL := Lib.hid hd
  have HEB := Lib.hid hB
  have HED := Lib.hid hD
  have HEC := Lib.hid hC
  have HEK := Lib.hid hK
  clear hr hd hB hD hC hK
  obtain ⟨i0, hi, hz0, hz1, hz2⟩ := info_parts entry_info
  have HI := Lib.hid hi
  have HZ0 := Lib.hid hz0
  have HZ1 := Lib.hid hz1
  have HZ2 := Lib.hid hz2
  clear hi hz0 hz1 hz2
  go_enter Tryd.func14, Tryd.ntmps14
  go_wp2_with fail
  refine (valid_any _ _ _ _ _ HR.out hn HDL.out _ _ _ HEB.out HED.out HEC.out).mono ?_
  rintro e w1 ⟨⟨v, rfl, hv⟩, hb⟩
  have HB := Lib.hid hb
  clear hb
  rcases hv with ⟨h1, rfl⟩ | ⟨h1, h2, rfl⟩ | ⟨h1, h2, h3, rfl⟩ | ⟨h1, h2, h3, rfl⟩
  · have H1 := Lib.hid h1
    clear h1
    go_wp2_with fail
    go_ret2
    exact ⟨HB.out, .inl ⟨H1.out, rfl⟩⟩
  · have H1 := Lib.hid h1
    have H2 := Lib.hid h2
    clear h1 h2
    go_wp2_with fail
    go_ret2
    exact ⟨HB.out, .inr (.inl ⟨H1.out, H2.out, rfl⟩)⟩
  · have H1 := Lib.hid h1
    have H2 := Lib.hid h2
    have H3 := Lib.hid h3
    clear h1 h2 h3
    go_wp2_with fail
    go_ret2
    exact ⟨HB.out, .inr (.inr (.inl ⟨H1.out, H2.out, H3.out, rfl⟩))⟩
  · have H1 := Lib.hid h1
    have H2 := Lib.hid h2
    have H3 := Lib.hid h3
    clear h1 h2 h3
    have HS := Lib.hid (sane_of H1.out H3.out)
    have hn4 := HS.out.n
    have hR := HR.out
    have HR1 := Lib.hid (HR.out.ext HB.out)
    have HEC1 := Lib.hid (cell_ext HB.out HEC.out)
    have HEK1 := Lib.hid (cell_ext HB.out HEK.out)
    clear HR hn hR HEC HEK HEB HED
    go_wp2_with fail
    go_loopw [7, 8, 9, 10, 30] (fun out rt db pd i wr => Hid (Below w1.heap.size w1 wr) ∧ ∃ (S : St) (j : Nat) (es : List En), rt = .int .i64 S.right ∧ db = .int .i64 S.debt ∧ pd = .int .i64 S.paid ∧ i = .int .i64 j ∧ j ≤ rs.length ∧ Hid (S = run rate ((rs.map Cl.key).take j)) ∧ Hid (∀ i (hi : i < rs.length), i < j → Fits rate (run rate ((rs.map Cl.key).take i)) rs[i].key) ∧ Hid (es.map En.key = S.es) ∧ Hid (wr.ownsRow w1.heap.size 56 3 out es.length (es.flatMap enCells)) ∧ Hid (∀ e ∈ es, RdK wr 119 e.A (e.lines.flatMap liCells) ∧ e.lines.length ≤ e.c)) (fun _ _ _ _ i _ => (rs.length - intOf i).toNat)
    case atStart => exact ⟨Below.refl _ _, ⟨0, 0, 0, []⟩, 0, [], rfl, rfl, rfl, rfl, by omega, rfl, fun i hi h => by omega, rfl, World.ownsRow_nil _ _ _ _, fun e he => by cases he⟩
    case round =>
      obtain ⟨HBr, S, j, es, rfl, rfl, rfl, rfl, hj, HSt, HF, HK, HO, HL⟩ := hrel
      by_cases hlt : j < rs.length
      · have hcl : (j : Int) < rs.length := by omega
        have HR2 := Lib.hid (HR1.out.ext HBr.out)
        obtain ⟨b, o, rfl, r0, r1⟩ := HR2.out.row hlt
        have HDU := Lib.hid (HR2.out.dues _ (List.getElem_mem hlt))
        have hdue := HS.out.due _ (List.getElem_mem hlt)
        have hd4 := hdue.1
        have HCE := Lib.hid hdue.2
        have HINV := Lib.hid (show Inv S from by rw [HSt.out]; exact run_inv rate HS.out.r0 _)
        have HSM := Lib.hid (show Sml S j from by rw [HSt.out]; exact run_small rate HS.out.r0 _ j (by rw [List.length_map]; omega) (fun i hi hij => by rw [List.getElem_map]; exact HF.out i (by rwa [List.length_map] at hi) hij))
        obtain ⟨sr1, sr2⟩ := HSM.out.right
        obtain ⟨sd1, sd2⟩ := HSM.out.debt
        have sd0 := HINV.out.debt
        have sp := HINV.out.paid
        have sl := HSM.out.len
        have hel : es.length = S.es.length := by have := congrArg List.length HK.out; simpa using this
        have HEL := Lib.hid hel
        have HSP := Lib.hid sp
        clear hel sp hdue
        go_wp2_with fail
        obtain ⟨w0, hw0⟩ : ∃ w0, w0 = wr := ⟨_, rfl⟩
        subst hw0
        go_loopw [13, 37] (fun nw i wi => Hid (Below w0.heap.size w0 wi) ∧ Hid (Blk wi w0.heap.size 113 [.int .i64 rs[j].day, .slice rs[j].A rs[j].dues.length rs[j].c]) ∧ ∃ k : Nat, nw = .int .i64 (overSum rs[j].day (rs[j].dues.take k)) ∧ i = .int .i64 k ∧ k ≤ rs[j].dues.length) (fun _ i _ => (rs[j].dues.length - intOf i).toNat)
        case atStart => exact ⟨ext_alloc w0 _, Blk.new _ _ [_, _], 0, by simp [overSum, sumL], rfl, by omega⟩
        case round =>
          clear r0 r1
          obtain ⟨HBi, HX, k, rfl, rfl, hk⟩ := hrel
          have x0 := HX.out.cell 0 rfl
          have y0 : ∀ o, (wr.alloc o).cell? ⟨w0.heap.size, 0, none⟩ = some (.int .i64 rs[j].day) := fun o => cell_ext (ext_alloc wr o) x0
          have hbd := overSum_bd rs[j].day (rs[j].dues.take k) (fun p hp => HCE.out p (List.mem_of_mem_take hp))
          rw [List.length_take] at hbd
          obtain ⟨hb1, hb2⟩ : -400000000000000 ≤ overSum rs[j].day (rs[j].dues.take k) ∧ overSum rs[j].day (rs[j].dues.take k) ≤ 400000000000000 := by
            have : ((min k rs[j].dues.length : Nat) : Int) ≤ 400 := by omega
            omega
          clear hbd
          by_cases hlk : k < rs[j].dues.length
          · have hck : (k : Int) < rs[j].dues.length := by omega
            obtain ⟨hc1, hc2⟩ := HCE.out _ (List.getElem_mem hlk)
            obtain ⟨b2, o2, hA, p0, p1, p2⟩ := pay_at (HDU.out.ext HBi.out) hlk
            have HA := Lib.hid hA
            clear hA
            rw [HA.out]
            have HT := Lib.hid (overSum_take rs[j].day rs[j].dues k hlk)
            by_cases hto : rs[j].dues[k].2.1 ≤ rs[j].day
            · go_wp2_with fail
              go_roundw
              case rel =>
                refine ⟨ext_trans HBi.out (ext_alloc wr _), by show Blk _ _ _ _; rw [← HA.out]; exact HX.out.ext ((Below.refl _ _).alloc HX.out.lt _), k + 1, ?_, by simp, by omega⟩
                rw [HT.out, if_pos hto]
              case measure => simp [intOf]; omega
            · go_wp2_with fail
              go_roundw
              case rel =>
                refine ⟨ext_trans HBi.out (ext_alloc wr _), by show Blk _ _ _ _; rw [← HA.out]; exact HX.out.ext ((Below.refl _ _).alloc HX.out.lt _), k + 1, ?_, by simp, by omega⟩
                rw [HT.out, if_neg hto]
                simp
              case measure => simp [intOf]; omega
          · have hck : ¬ (k : Int) < rs[j].dues.length := by omega
            have hk2 : k = rs[j].dues.length := by omega
            subst hk2
            obtain ⟨N, hN⟩ : ∃ N, N = nowOf rs[j].key := ⟨_, rfl⟩
            rw [show overSum rs[j].day (rs[j].dues.take rs[j].dues.length) = N by rw [List.take_length, hN]; rfl] at hb1 hb2 ⊢
            have HN := Lib.hid hN
            clear hN
            have HB2 := Lib.hid (ext_trans HBr.out HBi.out)
            have HEC2 := Lib.hid (cell_ext HB2.out HEC1.out)
            have FT : Hid ((nowOf rs[j].key = N) ∧ run rate ((rs.map Cl.key).take j) = S) := ⟨HN.out.symm, HSt.out.symm⟩
            by_cases gN : G N
            · obtain ⟨n1, n2⟩ := gN
              by_cases gd : G (N - S.right)
              · obtain ⟨d1, d2⟩ := gd
                obtain ⟨D, rfl⟩ : ∃ D, N = D + S.right := ⟨N - S.right, by omega⟩
                rw [Int.add_sub_cancel] at d1 d2
                go_wp2_with fail
                refine (Coin.good_yes _ n1 n2 _).mono ?_
                rintro e w' ⟨rfl, rfl⟩
                go_wp2_with fail
                refine (Coin.good_yes _ d1 d2 _).mono ?_
                rintro e w' ⟨rfl, rfl⟩
                go_wp2_with fail
                clear x0 y0
                refine (put_any .rights _ wr.heap.size rs[j].day none 0 [] (by simp) _ (Blk.new wr _ [_, _, _]) (World.ownsRow_nil _ _ _ _)).mono ?_
                rintro e w2 ⟨⟨v, rfl⟩, A2, c2, hX2, hO2, hb2'⟩
                have HBx := Lib.hid (HBi.out.trans (((ext_alloc wr _).trans hb2').mono HBi.out.size))
                have HX2 := Lib.hid hX2
                have HO2 := Lib.hid hO2
                have hl2 : ([] ++ addL .rights (-D)).length ≤ 1 := by simpa using addL_len .rights (-D)
                have hpd1 : -2000000000000 ≤ S.paid := by have := HSP.out; omega
                have hpd2 : S.paid ≤ 2000000000000 := by have := HSP.out; omega
                clear hX2 hO2 hb2'
                by_cases hpos : 0 < D
                · go_wp2_with fail
                  have HEC3 := Lib.hid (cell_ext (ext_trans HBr.out HBx.out) HEC1.out)
                  have HEK3 := Lib.hid (cell_ext (ext_trans HBr.out HBx.out) HEK1.out)
                  refine (Coin.part_any _ _ _ _ _ _ HEC3.out HEK3.out).mono ?_
                  rintro e w' ⟨rfl, q, rfl⟩
                  have hp0 := partV_nonneg D rate (by omega) HS.out.r0
                  obtain ⟨PV, hPV⟩ : ∃ p, p = (Coin.partV D rate 2).1 := ⟨_, rfl⟩
                  rw [← hPV] at hp0 ⊢
                  have HPV := Lib.hid hPV
                  clear hPV HEC3 HEK3
                  by_cases hmn : S.debt ≤ PV
                  · have hw1 : -1000000000000 ≤ D - S.debt := by omega
                    have hw2 : D - S.debt ≤ 1000000000000 := by omega
                    go_wp2_with fail
                    refine (put_any .paid _ wr.heap.size rs[j].day _ _ _ (by omega) _ ((show Blk _ _ _ _ from HX2.out).ext (below_drewN (Below.refl _ _) q)) (own_ext HO2.out (ext_drewN w2 q))).mono ?_
                    rintro e w3 ⟨⟨v, rfl⟩, A3, c3, hX3, hO3, hb3⟩
                    have HBV := Lib.hid (HBx.out.trans (((below_drewN (Below.refl _ w2) q).trans hb3).mono HBi.out.size))
                    have HX3 := Lib.hid hX3
                    have HO3 := Lib.hid hO3
                    have hl3 : (([] ++ addL .rights (-D)) ++ addL .paid (D - S.debt)).length ≤ 2 := by
                      rw [List.length_append]
                      have := addL_len .paid (D - S.debt)
                      omega
                    have hw3 : -1000000000000 ≤ D - S.debt := by omega
                    have hw4 : D - S.debt ≤ 1000000000000 := by omega
                    have hq1 : -5000000000000 ≤ S.paid + (D - S.debt) := by omega
                    have hq2 : S.paid + (D - S.debt) ≤ 5000000000000 := by omega
                    clear hX3 hO3 hb3 HX2 HO2 HBx
                    go_wp2_with fail
                    refine (put_any .debts _ wr.heap.size rs[j].day _ _ _ (by omega) _ HX3.out HO3.out).mono ?_
                    rintro e w4 ⟨⟨v, rfl⟩, A4, c4, hX4, hO4, hb4⟩
                    have HBW := Lib.hid (HBV.out.trans (hb4.mono HBi.out.size))
                    have HOFF := Lib.hid (show offOf rate S.debt D = S.debt from by unfold offOf; rw [if_pos hpos, ← HPV.out]; split <;> omega)
                    rw [← lines_pos D (S.debt) hpos] at hX4 hO4
                    obtain ⟨ls, hls⟩ : ∃ ls, ls = linesOf D (S.debt) := ⟨_, rfl⟩
                    rw [← hls] at hX4 hO4
                    have HLS := Lib.hid hls
                    clear hls
                    have HX4 := Lib.hid hX4
                    have HO4 := Lib.hid hO4
                    clear hX4 hO4 hb4 HX3 HO3 HBV
                    have e0 := (show Blk _ _ _ _ from HX4.out).cell 0 rfl
                    have e1 := (show Blk _ _ _ _ from HX4.out).cell 1 rfl
                    have e2 := (show Blk _ _ _ _ from HX4.out).cell 2 rfl
                    have HBT := Lib.hid (ext_trans HBr.out HBW.out)
                    have HEC5 := Lib.hid (cell_ext HBT.out HEC1.out)
                    have HPD := Lib.hid (show (step rate S rs[j].key).paid = S.paid + (D - S.debt) by unfold step; simp only [FT.out.1, Int.add_sub_cancel, HOFF.out]; rw [if_pos hpos])
                    have HDB := Lib.hid (show (step rate S rs[j].key).debt = 0 by unfold step; simp only [FT.out.1, Int.add_sub_cancel, HOFF.out, Int.sub_self])
                    by_cases gD : G 0
                    · obtain ⟨gd1, gd2⟩ := gD
                      by_cases gP : G (S.paid + (D - S.debt))
                      · obtain ⟨gp1, gp2⟩ := gP
                        have HFj := Lib.hid (show Fits rate (run rate ((rs.map Cl.key).take j)) rs[j].key by
                          rw [FT.out.2]
                          refine ⟨by rw [FT.out.1]; exact ⟨n1, n2⟩, by rw [FT.out.1, Int.add_sub_cancel]; exact ⟨d1, d2⟩, by rw [HDB.out]; exact ⟨gd1, gd2⟩, by rw [HPD.out]; exact ⟨gp1, gp2⟩⟩)
                        have HSt2 := Lib.hid (show step rate S rs[j].key = run rate ((rs.map Cl.key).take (j + 1)) by
                          rw [run_take rate _ j (by rw [List.length_map]; exact hlt), List.getElem_map, FT.out.2])
                        have HRT := Lib.hid (show (step rate S rs[j].key).right = D + S.right by unfold step; exact FT.out.1)
                        by_cases hz : D = 0
                        · have hz1 : (D != 0) = false := by simp [hz]
                          have HES := Lib.hid (show (step rate S rs[j].key).es = S.es by unfold step; simp only [FT.out.1, Int.add_sub_cancel]; rw [if_pos hz])
                          clear hz
                          go_wp2_with fail
                          refine (Coin.good_yes _ gd1 gd2 _).mono ?_
                          rintro e w' ⟨rfl, rfl⟩
                          go_wp2_with fail
                          refine (Coin.good_yes _ gp1 gp2 _).mono ?_
                          rintro e w' ⟨rfl, rfl⟩
                          go_wp2_with fail
                          go_roundw
                          case rel =>
                            refine ⟨HBT.out, step rate S rs[j].key, j + 1, es, by rw [HRT.out], by rw [HDB.out], by rw [HPD.out], by simp, by omega, HSt2.out, ?_, ?_, ?_, ?_⟩
                            · intro i hi hij
                              by_cases e : i = j
                              · subst e; exact HFj.out
                              · exact HF.out i hi (by omega)
                            · show _ = _
                              rw [HES.out]; exact HK.out
                            · exact own_ext HO.out HBW.out
                            · intro e he
                              exact ⟨(HL.out e he).1.ext HBW.out, (HL.out e he).2⟩
                          case measure => simp [intOf]; omega
                        · have hz1 : (D != 0) = true := by simp [hz]
                          have HES := Lib.hid (show (step rate S rs[j].key).es = S.es ++ [(rs[j].day, ls)] by unfold step; simp only [FT.out.1, Int.add_sub_cancel, HOFF.out]; rw [if_neg hz, HLS.out]; rfl)
                          clear hz
                          go_wp2_with fail
                          refine (Coin.good_yes _ gd1 gd2 _).mono ?_
                          rintro e w' ⟨rfl, rfl⟩
                          go_wp2_with fail
                          refine (Coin.good_yes _ gp1 gp2 _).mono ?_
                          rintro e w' ⟨rfl, rfl⟩
                          have HO5 := Lib.hid (own_ext HO.out HBW.out)
                          have hel4 : es.length ≤ 400 := by have := HEL.out; omega
                          have hsz : w1.heap.size ≤ w4.heap.size := HBT.out.size
                          go_wp2_with (at_builtin; refine wpList_append_own _ rfl (.tmp 111) (.tmp 113) _ rfl w1.heap.size 56 i0 _ 3 48 Tryd.underlying44 HI.out HZ0.out HZ1.out HZ2.out rfl (by omega) u7 es.length _ rfl (World.ownsRow.alloc HO5.out _) ⟨w4.heap.size, 0, none⟩ 1 1 [.int .i64 rs[j].day, .string ⟨#[97, 110, 101, 119]⟩, .slice A4 ls.length c4] rfl rfl (new_cells w4 [.int .i64 rs[j].day, .string ⟨#[97, 110, 101, 119]⟩, .slice A4 ls.length c4] _ _ rfl) (by intro u hu; simp only [List.mem_cons, List.not_mem_nil, or_false] at hu; rcases hu with rfl | rfl | rfl <;> rfl) (by simp only [maxLen]; omega) (by omega) (by simp; omega) ?_; intro v1 w5 hown1 hg1 _; have HO6 := Lib.hid hown1; have HG6 := Lib.hid hg1; clear hown1 hg1)
                          go_roundw
                          case rel =>
                            have hkind := Lib.ownsRow_kind (World.ownsRow.alloc HO5.out (.cells #[.int .i64 rs[j].day, .string ⟨#[97, 110, 101, 119]⟩, .slice A4 ls.length c4] 56))
                            refine ⟨?_, step rate S rs[j].key, j + 1, es ++ [⟨rs[j].day, ls, A4, c4⟩], by rw [HRT.out], by rw [HDB.out], by rw [HPD.out], by simp, by omega, HSt2.out, ?_, ?_, ?_, ?_⟩
                            · exact (HBT.out.alloc hsz _).grown HG6.out (by simp; omega) (fun g hg => (HO5.out.lt g hg).1)
                            · intro i hi hij
                              by_cases e : i = j
                              · subst e; exact HFj.out
                              · exact HF.out i hi (by omega)
                            · show _ = _
                              rw [HES.out, List.map_append, HK.out]
                              rfl
                            · have ho := HO6.out
                              show World.ownsRow _ _ _ _ _ _ _
                              simpa [List.flatMap_append, enCells] using ho
                            · intro e he
                              have hls : ls.length ≤ c4 := by
                                obtain ⟨_, _, e1, h2, _⟩ := own_slice HO4.out
                                injection e1 with _ _ e3
                                omega
                              rcases List.mem_append.1 he with he | he
                              · exact ⟨(((HL.out e he).1.ext HBW.out).ext (ext_alloc w4 _)).grown HG6.out hkind (by decide), (HL.out e he).2⟩
                              · rw [List.mem_singleton] at he
                                subst he
                                exact ⟨((RdK.of_own HO4.out).ext (ext_alloc w4 _)).grown HG6.out hkind (by decide), hls⟩
                          case measure => simp [intOf]; omega
                      · have GP := Lib.hid gP
                        clear gP
                        go_wp2_with fail
                        refine (Coin.good_yes _ gd1 gd2 _).mono ?_
                        rintro e w' ⟨rfl, rfl⟩
                        go_wp2_with fail
                        refine (Coin.good_no _ (by have := GP.out; unfold G at this; omega) _).mono ?_
                        rintro e w' ⟨rfl, rfl⟩
                        go_wp2_with fail
                        have ec := HEC5.out
                        go_quiet (fail)
                        go_wp2_with fail
                        go_ret2
                        exact ⟨HB.out.trans ((HBT.out.trans ((ext_drewN _ nq).mono HBT.out.size)).mono HB.out.size), .inr (.inr (.inr ⟨H1.out, H2.out, H3.out, .inl ⟨j, hlt, HF.out, fun h => by rw [FT.out.2] at h; obtain ⟨_, _, _, h⟩ := h; rw [HPD.out] at h; exact GP.out h, rfl⟩⟩))⟩
                    · have GDD := Lib.hid gD
                      clear gD
                      go_wp2_with fail
                      refine (Coin.good_no _ (by have := GDD.out; unfold G at this; omega) _).mono ?_
                      rintro e w' ⟨rfl, rfl⟩
                      go_wp2_with fail
                      have ec := HEC5.out
                      go_quiet (fail)
                      go_wp2_with fail
                      go_ret2
                      exact ⟨HB.out.trans ((HBT.out.trans ((ext_drewN _ nq).mono HBT.out.size)).mono HB.out.size), .inr (.inr (.inr ⟨H1.out, H2.out, H3.out, .inl ⟨j, hlt, HF.out, fun h => by rw [FT.out.2] at h; obtain ⟨_, _, h, _⟩ := h; rw [HDB.out] at h; exact GDD.out h, rfl⟩⟩))⟩
                  · have hmn2 : PV < S.debt := by omega
                    have hw1 : -1000000000000 ≤ D - PV := by omega
                    have hw2 : D - PV ≤ 1000000000000 := by omega
                    go_wp2_with fail
                    refine (put_any .paid _ wr.heap.size rs[j].day _ _ _ (by omega) _ ((show Blk _ _ _ _ from HX2.out).ext (below_drewN (Below.refl _ _) q)) (own_ext HO2.out (ext_drewN w2 q))).mono ?_
                    rintro e w3 ⟨⟨v, rfl⟩, A3, c3, hX3, hO3, hb3⟩
                    have HBV := Lib.hid (HBx.out.trans (((below_drewN (Below.refl _ w2) q).trans hb3).mono HBi.out.size))
                    have HX3 := Lib.hid hX3
                    have HO3 := Lib.hid hO3
                    have hl3 : (([] ++ addL .rights (-D)) ++ addL .paid (D - PV)).length ≤ 2 := by
                      rw [List.length_append]
                      have := addL_len .paid (D - PV)
                      omega
                    have hw3 : -1000000000000 ≤ D - PV := by omega
                    have hw4 : D - PV ≤ 1000000000000 := by omega
                    have hq1 : -5000000000000 ≤ S.paid + (D - PV) := by omega
                    have hq2 : S.paid + (D - PV) ≤ 5000000000000 := by omega
                    clear hX3 hO3 hb3 HX2 HO2 HBx
                    go_wp2_with fail
                    refine (put_any .debts _ wr.heap.size rs[j].day _ _ _ (by omega) _ HX3.out HO3.out).mono ?_
                    rintro e w4 ⟨⟨v, rfl⟩, A4, c4, hX4, hO4, hb4⟩
                    have HBW := Lib.hid (HBV.out.trans (hb4.mono HBi.out.size))
                    have HOFF := Lib.hid (show offOf rate S.debt D = PV from by unfold offOf; rw [if_pos hpos, ← HPV.out]; split <;> omega)
                    rw [← lines_pos D (PV) hpos] at hX4 hO4
                    obtain ⟨ls, hls⟩ : ∃ ls, ls = linesOf D (PV) := ⟨_, rfl⟩
                    rw [← hls] at hX4 hO4
                    have HLS := Lib.hid hls
                    clear hls
                    have HX4 := Lib.hid hX4
                    have HO4 := Lib.hid hO4
                    clear hX4 hO4 hb4 HX3 HO3 HBV
                    have e0 := (show Blk _ _ _ _ from HX4.out).cell 0 rfl
                    have e1 := (show Blk _ _ _ _ from HX4.out).cell 1 rfl
                    have e2 := (show Blk _ _ _ _ from HX4.out).cell 2 rfl
                    have HBT := Lib.hid (ext_trans HBr.out HBW.out)
                    have HEC5 := Lib.hid (cell_ext HBT.out HEC1.out)
                    have HPD := Lib.hid (show (step rate S rs[j].key).paid = S.paid + (D - PV) by unfold step; simp only [FT.out.1, Int.add_sub_cancel, HOFF.out]; rw [if_pos hpos])
                    have HDB := Lib.hid (show (step rate S rs[j].key).debt = S.debt - (PV) by unfold step; simp only [FT.out.1, Int.add_sub_cancel, HOFF.out])
                    by_cases gD : G (S.debt - (PV))
                    · obtain ⟨gd1, gd2⟩ := gD
                      by_cases gP : G (S.paid + (D - PV))
                      · obtain ⟨gp1, gp2⟩ := gP
                        have HFj := Lib.hid (show Fits rate (run rate ((rs.map Cl.key).take j)) rs[j].key by
                          rw [FT.out.2]
                          refine ⟨by rw [FT.out.1]; exact ⟨n1, n2⟩, by rw [FT.out.1, Int.add_sub_cancel]; exact ⟨d1, d2⟩, by rw [HDB.out]; exact ⟨gd1, gd2⟩, by rw [HPD.out]; exact ⟨gp1, gp2⟩⟩)
                        have HSt2 := Lib.hid (show step rate S rs[j].key = run rate ((rs.map Cl.key).take (j + 1)) by
                          rw [run_take rate _ j (by rw [List.length_map]; exact hlt), List.getElem_map, FT.out.2])
                        have HRT := Lib.hid (show (step rate S rs[j].key).right = D + S.right by unfold step; exact FT.out.1)
                        by_cases hz : D = 0
                        · have hz1 : (D != 0) = false := by simp [hz]
                          have HES := Lib.hid (show (step rate S rs[j].key).es = S.es by unfold step; simp only [FT.out.1, Int.add_sub_cancel]; rw [if_pos hz])
                          clear hz
                          go_wp2_with fail
                          refine (Coin.good_yes _ gd1 gd2 _).mono ?_
                          rintro e w' ⟨rfl, rfl⟩
                          go_wp2_with fail
                          refine (Coin.good_yes _ gp1 gp2 _).mono ?_
                          rintro e w' ⟨rfl, rfl⟩
                          go_wp2_with fail
                          go_roundw
                          case rel =>
                            refine ⟨HBT.out, step rate S rs[j].key, j + 1, es, by rw [HRT.out], by rw [HDB.out], by rw [HPD.out], by simp, by omega, HSt2.out, ?_, ?_, ?_, ?_⟩
                            · intro i hi hij
                              by_cases e : i = j
                              · subst e; exact HFj.out
                              · exact HF.out i hi (by omega)
                            · show _ = _
                              rw [HES.out]; exact HK.out
                            · exact own_ext HO.out HBW.out
                            · intro e he
                              exact ⟨(HL.out e he).1.ext HBW.out, (HL.out e he).2⟩
                          case measure => simp [intOf]; omega
                        · have hz1 : (D != 0) = true := by simp [hz]
                          have HES := Lib.hid (show (step rate S rs[j].key).es = S.es ++ [(rs[j].day, ls)] by unfold step; simp only [FT.out.1, Int.add_sub_cancel, HOFF.out]; rw [if_neg hz, HLS.out]; rfl)
                          clear hz
                          go_wp2_with fail
                          refine (Coin.good_yes _ gd1 gd2 _).mono ?_
                          rintro e w' ⟨rfl, rfl⟩
                          go_wp2_with fail
                          refine (Coin.good_yes _ gp1 gp2 _).mono ?_
                          rintro e w' ⟨rfl, rfl⟩
                          have HO5 := Lib.hid (own_ext HO.out HBW.out)
                          have hel4 : es.length ≤ 400 := by have := HEL.out; omega
                          have hsz : w1.heap.size ≤ w4.heap.size := HBT.out.size
                          go_wp2_with (at_builtin; refine wpList_append_own _ rfl (.tmp 111) (.tmp 113) _ rfl w1.heap.size 56 i0 _ 3 48 Tryd.underlying44 HI.out HZ0.out HZ1.out HZ2.out rfl (by omega) u7 es.length _ rfl (World.ownsRow.alloc HO5.out _) ⟨w4.heap.size, 0, none⟩ 1 1 [.int .i64 rs[j].day, .string ⟨#[97, 110, 101, 119]⟩, .slice A4 ls.length c4] rfl rfl (new_cells w4 [.int .i64 rs[j].day, .string ⟨#[97, 110, 101, 119]⟩, .slice A4 ls.length c4] _ _ rfl) (by intro u hu; simp only [List.mem_cons, List.not_mem_nil, or_false] at hu; rcases hu with rfl | rfl | rfl <;> rfl) (by simp only [maxLen]; omega) (by omega) (by simp; omega) ?_; intro v1 w5 hown1 hg1 _; have HO6 := Lib.hid hown1; have HG6 := Lib.hid hg1; clear hown1 hg1)
                          go_roundw
                          case rel =>
                            have hkind := Lib.ownsRow_kind (World.ownsRow.alloc HO5.out (.cells #[.int .i64 rs[j].day, .string ⟨#[97, 110, 101, 119]⟩, .slice A4 ls.length c4] 56))
                            refine ⟨?_, step rate S rs[j].key, j + 1, es ++ [⟨rs[j].day, ls, A4, c4⟩], by rw [HRT.out], by rw [HDB.out], by rw [HPD.out], by simp, by omega, HSt2.out, ?_, ?_, ?_, ?_⟩
                            · exact (HBT.out.alloc hsz _).grown HG6.out (by simp; omega) (fun g hg => (HO5.out.lt g hg).1)
                            · intro i hi hij
                              by_cases e : i = j
                              · subst e; exact HFj.out
                              · exact HF.out i hi (by omega)
                            · show _ = _
                              rw [HES.out, List.map_append, HK.out]
                              rfl
                            · have ho := HO6.out
                              show World.ownsRow _ _ _ _ _ _ _
                              simpa [List.flatMap_append, enCells] using ho
                            · intro e he
                              have hls : ls.length ≤ c4 := by
                                obtain ⟨_, _, e1, h2, _⟩ := own_slice HO4.out
                                injection e1 with _ _ e3
                                omega
                              rcases List.mem_append.1 he with he | he
                              · exact ⟨(((HL.out e he).1.ext HBW.out).ext (ext_alloc w4 _)).grown HG6.out hkind (by decide), (HL.out e he).2⟩
                              · rw [List.mem_singleton] at he
                                subst he
                                exact ⟨((RdK.of_own HO4.out).ext (ext_alloc w4 _)).grown HG6.out hkind (by decide), hls⟩
                          case measure => simp [intOf]; omega
                      · have GP := Lib.hid gP
                        clear gP
                        go_wp2_with fail
                        refine (Coin.good_yes _ gd1 gd2 _).mono ?_
                        rintro e w' ⟨rfl, rfl⟩
                        go_wp2_with fail
                        refine (Coin.good_no _ (by have := GP.out; unfold G at this; omega) _).mono ?_
                        rintro e w' ⟨rfl, rfl⟩
                        go_wp2_with fail
                        have ec := HEC5.out
                        go_quiet (fail)
                        go_wp2_with fail
                        go_ret2
                        exact ⟨HB.out.trans ((HBT.out.trans ((ext_drewN _ nq).mono HBT.out.size)).mono HB.out.size), .inr (.inr (.inr ⟨H1.out, H2.out, H3.out, .inl ⟨j, hlt, HF.out, fun h => by rw [FT.out.2] at h; obtain ⟨_, _, _, h⟩ := h; rw [HPD.out] at h; exact GP.out h, rfl⟩⟩))⟩
                    · have GDD := Lib.hid gD
                      clear gD
                      go_wp2_with fail
                      refine (Coin.good_no _ (by have := GDD.out; unfold G at this; omega) _).mono ?_
                      rintro e w' ⟨rfl, rfl⟩
                      go_wp2_with fail
                      have ec := HEC5.out
                      go_quiet (fail)
                      go_wp2_with fail
                      go_ret2
                      exact ⟨HB.out.trans ((HBT.out.trans ((ext_drewN _ nq).mono HBT.out.size)).mono HB.out.size), .inr (.inr (.inr ⟨H1.out, H2.out, H3.out, .inl ⟨j, hlt, HF.out, fun h => by rw [FT.out.2] at h; obtain ⟨_, _, h, _⟩ := h; rw [HDB.out] at h; exact GDD.out h, rfl⟩⟩))⟩
                · have hpos2 : D ≤ 0 := by omega
                  have HBV := Lib.hid HBx.out
                  have HX3 := Lib.hid HX2.out
                  have HO3 := Lib.hid HO2.out
                  clear HX2 HO2 HBx
                  go_wp2_with fail
                  refine (put_any .debts _ wr.heap.size rs[j].day _ _ _ (by omega) _ HX3.out HO3.out).mono ?_
                  rintro e w4 ⟨⟨v, rfl⟩, A4, c4, hX4, hO4, hb4⟩
                  have HBW := Lib.hid (HBV.out.trans (hb4.mono HBi.out.size))
                  have HOFF := Lib.hid (show offOf rate S.debt D = D from by unfold offOf; rw [if_neg (show ¬ 0 < D by omega)])
                  rw [← lines_neg D hpos2] at hX4 hO4
                  obtain ⟨ls, hls⟩ : ∃ ls, ls = linesOf D (D) := ⟨_, rfl⟩
                  rw [← hls] at hX4 hO4
                  have HLS := Lib.hid hls
                  clear hls
                  have HX4 := Lib.hid hX4
                  have HO4 := Lib.hid hO4
                  clear hX4 hO4 hb4 HX3 HO3 HBV
                  have e0 := (show Blk _ _ _ _ from HX4.out).cell 0 rfl
                  have e1 := (show Blk _ _ _ _ from HX4.out).cell 1 rfl
                  have e2 := (show Blk _ _ _ _ from HX4.out).cell 2 rfl
                  have HBT := Lib.hid (ext_trans HBr.out HBW.out)
                  have HEC5 := Lib.hid (cell_ext HBT.out HEC1.out)
                  have HPD := Lib.hid (show (step rate S rs[j].key).paid = S.paid by unfold step; simp only [FT.out.1, Int.add_sub_cancel, HOFF.out]; rw [if_neg (show ¬ 0 < D by omega)])
                  have HDB := Lib.hid (show (step rate S rs[j].key).debt = S.debt - (D) by unfold step; simp only [FT.out.1, Int.add_sub_cancel, HOFF.out])
                  by_cases gD : G (S.debt - (D))
                  · obtain ⟨gd1, gd2⟩ := gD
                    by_cases gP : G (S.paid)
                    · obtain ⟨gp1, gp2⟩ := gP
                      have HFj := Lib.hid (show Fits rate (run rate ((rs.map Cl.key).take j)) rs[j].key by
                        rw [FT.out.2]
                        refine ⟨by rw [FT.out.1]; exact ⟨n1, n2⟩, by rw [FT.out.1, Int.add_sub_cancel]; exact ⟨d1, d2⟩, by rw [HDB.out]; exact ⟨gd1, gd2⟩, by rw [HPD.out]; exact ⟨gp1, gp2⟩⟩)
                      have HSt2 := Lib.hid (show step rate S rs[j].key = run rate ((rs.map Cl.key).take (j + 1)) by
                        rw [run_take rate _ j (by rw [List.length_map]; exact hlt), List.getElem_map, FT.out.2])
                      have HRT := Lib.hid (show (step rate S rs[j].key).right = D + S.right by unfold step; exact FT.out.1)
                      by_cases hz : D = 0
                      · have hz1 : (D != 0) = false := by simp [hz]
                        have HES := Lib.hid (show (step rate S rs[j].key).es = S.es by unfold step; simp only [FT.out.1, Int.add_sub_cancel]; rw [if_pos hz])
                        clear hz
                        go_wp2_with fail
                        refine (Coin.good_yes _ gd1 gd2 _).mono ?_
                        rintro e w' ⟨rfl, rfl⟩
                        go_wp2_with fail
                        refine (Coin.good_yes _ gp1 gp2 _).mono ?_
                        rintro e w' ⟨rfl, rfl⟩
                        go_wp2_with fail
                        go_roundw
                        case rel =>
                          refine ⟨HBT.out, step rate S rs[j].key, j + 1, es, by rw [HRT.out], by rw [HDB.out], by rw [HPD.out], by simp, by omega, HSt2.out, ?_, ?_, ?_, ?_⟩
                          · intro i hi hij
                            by_cases e : i = j
                            · subst e; exact HFj.out
                            · exact HF.out i hi (by omega)
                          · show _ = _
                            rw [HES.out]; exact HK.out
                          · exact own_ext HO.out HBW.out
                          · intro e he
                            exact ⟨(HL.out e he).1.ext HBW.out, (HL.out e he).2⟩
                        case measure => simp [intOf]; omega
                      · have hz1 : (D != 0) = true := by simp [hz]
                        have HES := Lib.hid (show (step rate S rs[j].key).es = S.es ++ [(rs[j].day, ls)] by unfold step; simp only [FT.out.1, Int.add_sub_cancel, HOFF.out]; rw [if_neg hz, HLS.out]; rfl)
                        clear hz
                        go_wp2_with fail
                        refine (Coin.good_yes _ gd1 gd2 _).mono ?_
                        rintro e w' ⟨rfl, rfl⟩
                        go_wp2_with fail
                        refine (Coin.good_yes _ gp1 gp2 _).mono ?_
                        rintro e w' ⟨rfl, rfl⟩
                        have HO5 := Lib.hid (own_ext HO.out HBW.out)
                        have hel4 : es.length ≤ 400 := by have := HEL.out; omega
                        have hsz : w1.heap.size ≤ w4.heap.size := HBT.out.size
                        go_wp2_with (at_builtin; refine wpList_append_own _ rfl (.tmp 111) (.tmp 113) _ rfl w1.heap.size 56 i0 _ 3 48 Tryd.underlying44 HI.out HZ0.out HZ1.out HZ2.out rfl (by omega) u7 es.length _ rfl (World.ownsRow.alloc HO5.out _) ⟨w4.heap.size, 0, none⟩ 1 1 [.int .i64 rs[j].day, .string ⟨#[97, 110, 101, 119]⟩, .slice A4 ls.length c4] rfl rfl (new_cells w4 [.int .i64 rs[j].day, .string ⟨#[97, 110, 101, 119]⟩, .slice A4 ls.length c4] _ _ rfl) (by intro u hu; simp only [List.mem_cons, List.not_mem_nil, or_false] at hu; rcases hu with rfl | rfl | rfl <;> rfl) (by simp only [maxLen]; omega) (by omega) (by simp; omega) ?_; intro v1 w5 hown1 hg1 _; have HO6 := Lib.hid hown1; have HG6 := Lib.hid hg1; clear hown1 hg1)
                        go_roundw
                        case rel =>
                          have hkind := Lib.ownsRow_kind (World.ownsRow.alloc HO5.out (.cells #[.int .i64 rs[j].day, .string ⟨#[97, 110, 101, 119]⟩, .slice A4 ls.length c4] 56))
                          refine ⟨?_, step rate S rs[j].key, j + 1, es ++ [⟨rs[j].day, ls, A4, c4⟩], by rw [HRT.out], by rw [HDB.out], by rw [HPD.out], by simp, by omega, HSt2.out, ?_, ?_, ?_, ?_⟩
                          · exact (HBT.out.alloc hsz _).grown HG6.out (by simp; omega) (fun g hg => (HO5.out.lt g hg).1)
                          · intro i hi hij
                            by_cases e : i = j
                            · subst e; exact HFj.out
                            · exact HF.out i hi (by omega)
                          · show _ = _
                            rw [HES.out, List.map_append, HK.out]
                            rfl
                          · have ho := HO6.out
                            show World.ownsRow _ _ _ _ _ _ _
                            simpa [List.flatMap_append, enCells] using ho
                          · intro e he
                            have hls : ls.length ≤ c4 := by
                              obtain ⟨_, _, e1, h2, _⟩ := own_slice HO4.out
                              injection e1 with _ _ e3
                              omega
                            rcases List.mem_append.1 he with he | he
                            · exact ⟨(((HL.out e he).1.ext HBW.out).ext (ext_alloc w4 _)).grown HG6.out hkind (by decide), (HL.out e he).2⟩
                            · rw [List.mem_singleton] at he
                              subst he
                              exact ⟨((RdK.of_own HO4.out).ext (ext_alloc w4 _)).grown HG6.out hkind (by decide), hls⟩
                        case measure => simp [intOf]; omega
                    · have GP := Lib.hid gP
                      clear gP
                      go_wp2_with fail
                      refine (Coin.good_yes _ gd1 gd2 _).mono ?_
                      rintro e w' ⟨rfl, rfl⟩
                      go_wp2_with fail
                      refine (Coin.good_no _ (by have := GP.out; unfold G at this; omega) _).mono ?_
                      rintro e w' ⟨rfl, rfl⟩
                      go_wp2_with fail
                      have ec := HEC5.out
                      go_quiet (fail)
                      go_wp2_with fail
                      go_ret2
                      exact ⟨HB.out.trans ((HBT.out.trans ((ext_drewN _ nq).mono HBT.out.size)).mono HB.out.size), .inr (.inr (.inr ⟨H1.out, H2.out, H3.out, .inl ⟨j, hlt, HF.out, fun h => by rw [FT.out.2] at h; obtain ⟨_, _, _, h⟩ := h; rw [HPD.out] at h; exact GP.out h, rfl⟩⟩))⟩
                  · have GDD := Lib.hid gD
                    clear gD
                    go_wp2_with fail
                    refine (Coin.good_no _ (by have := GDD.out; unfold G at this; omega) _).mono ?_
                    rintro e w' ⟨rfl, rfl⟩
                    go_wp2_with fail
                    have ec := HEC5.out
                    go_quiet (fail)
                    go_wp2_with fail
                    go_ret2
                    exact ⟨HB.out.trans ((HBT.out.trans ((ext_drewN _ nq).mono HBT.out.size)).mono HB.out.size), .inr (.inr (.inr ⟨H1.out, H2.out, H3.out, .inl ⟨j, hlt, HF.out, fun h => by rw [FT.out.2] at h; obtain ⟨_, _, h, _⟩ := h; rw [HDB.out] at h; exact GDD.out h, rfl⟩⟩))⟩
              · have GD := Lib.hid gd
                clear gd
                go_wp2_with fail
                refine (Coin.good_yes _ n1 n2 _).mono ?_
                rintro e w' ⟨rfl, rfl⟩
                go_wp2_with fail
                refine (Coin.good_no _ (by have := GD.out; unfold G at this; omega) _).mono ?_
                rintro e w' ⟨rfl, rfl⟩
                go_wp2_with fail
                have ec := HEC2.out
                go_quiet (fail)
                go_wp2_with fail
                go_ret2
                exact ⟨HB.out.trans ((HB2.out.trans ((ext_drewN _ nq).mono HB2.out.size)).mono HB.out.size), .inr (.inr (.inr ⟨H1.out, H2.out, H3.out, .inl ⟨j, hlt, HF.out, fun h => by rw [FT.out.2] at h; obtain ⟨_, h, _⟩ := h; rw [FT.out.1] at h; exact GD.out h, rfl⟩⟩))⟩
            · have GN := Lib.hid gN
              clear gN
              go_wp2_with fail
              refine (Coin.good_no _ (by have := GN.out; unfold G at this; omega) _).mono ?_
              rintro e w' ⟨rfl, rfl⟩
              go_wp2_with fail
              have ec := HEC2.out
              go_quiet (fail)
              go_wp2_with fail
              go_ret2
              exact ⟨HB.out.trans ((HB2.out.trans ((ext_drewN _ nq).mono HB2.out.size)).mono HB.out.size), .inr (.inr (.inr ⟨H1.out, H2.out, H3.out, .inl ⟨j, hlt, HF.out, fun h => by rw [FT.out.2] at h; obtain ⟨h, _⟩ := h; rw [FT.out.1] at h; exact GN.out h, rfl⟩⟩))⟩
      · have hcl : ¬ (j : Int) < rs.length := by omega
        have hj2 : j = rs.length := by omega
        obtain ⟨Ao, co, rfl, hco, _⟩ := own_slice HO.out
        go_wp2_with fail
        go_ret2
        refine ⟨HB.out.trans (HBr.out.mono HB.out.size), .inr (.inr (.inr ⟨H1.out, H2.out, H3.out, .inr ⟨fun i hi => HF.out i hi (by omega), Ao, co, es, rfl, ?_, ⟨Rd.of_own HO.out, fun e he => (HL.out e he).1.rd, fun e he => (HL.out e he).2⟩, hco⟩⟩))⟩
        rw [HK.out, HSt.out, hj2, List.take_of_length_le (by simp)]
end Go.Proofs.YtjnkcpeicocjhaaDoor.Settle

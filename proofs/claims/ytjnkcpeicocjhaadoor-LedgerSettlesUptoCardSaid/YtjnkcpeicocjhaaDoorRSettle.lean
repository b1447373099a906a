/- Settling claims: the document's own function. -/
import Derived.Test.YtjnkcpeicocjhaaDoorRSettleP
namespace Go.Proofs.YtjnkcpeicocjhaaDoor.RSettle
open Go.RowKit Mem Pays Nest Claims Settle

theorem G_iff (n : Int) : G n ↔ (-1000000000000 ≤ n ∧ n ≤ 1000000000000) := Iff.rfl
theorem small_g (n : Int) (w : World) : Calls Tryd.prog 44 #[.int .i64 n] w fun e w' => ∃ g : Bool, e = .returned (.bool g) ∧ w = w' ∧ (g = true ↔ (-1000000000000 ≤ n ∧ n ≤ 1000000000000)) :=
  (small_b n w).mono fun e w' ⟨he, hw⟩ => ⟨_, he, hw, by rw [decide_eq_true_iff]⟩
def OkPost (rs : List Cl) (rate : Int) (e : Ending) (w' : World) : Prop :=
  (∃ j, ∃ h : j < rs.length, (∀ i (hi : i < rs.length), i < j → Fits rate (run rate ((rs.map Cl.key).take i)) rs[i].key) ∧ ¬ Fits rate (run rate ((rs.map Cl.key).take j)) rs[j].key ∧ e = .returned (.tuple #[.slice none 0 0, .int .i64 3])) ∨
  ((∀ i (hi : i < rs.length), Fits rate (run rate ((rs.map Cl.key).take i)) rs[i].key) ∧ ∃ A c es, e = .returned (.tuple #[.slice A es.length c, .int .i64 0]) ∧ es.map En.key = (run rate (rs.map Cl.key)).es ∧ Ens w' A es ∧ es.length ≤ c)
/-- what the document's settling hands on -/
def RSettlePost (rs : List Cl) (rate : Int) (w : World) (e : Ending) (w' : World) : Prop :=
  Below w.heap.size w w' ∧
  ((VB rs rs.length ∧ e = .returned (.tuple #[.slice none 0 0, .int .i64 2])) ∨ (¬ VB rs rs.length ∧ Upto (PD rs) rs.length ∧ e = .returned (.tuple #[.slice none 0 0, .int .i64 4])) ∨
   (¬ VB rs rs.length ∧ ¬ Upto (PD rs) rs.length ∧ VC rs rate rs.length ∧ e = .returned (.tuple #[.slice none 0 0, .int .i64 3])) ∨
   (¬ VB rs rs.length ∧ ¬ Upto (PD rs) rs.length ∧ ¬ VC rs rate rs.length ∧ OkPost rs rate e w'))
theorem step_right (rate : Int) (S : St) (c : Int × List Pay) : (Settle.step rate S c).right = nowOf c := rfl
theorem step_debt (rate : Int) (S : St) (c : Int × List Pay) : (Settle.step rate S c).debt = S.debt - offOf rate S.debt (nowOf c - S.right) := rfl
set_option maxRecDepth 100000 in
set_option maxHeartbeats 4000000 in
theorem rsettle_any (A : Option Addr) (c : Nat) (rs : List Cl) (rate : Int) (w : World) (hr : Cls w A rs) (hn : rs.length ≤ 1048576) (hd : ∀ r ∈ rs, r.dues.length ≤ 1048576) :
    Calls Tryd.prog 16 #[.slice A rs.length c, .int .i64 rate] w (RSettlePost rs rate w) := by
  have HR := Lib.hid hr
  have HDL := Lib.hid hd
  clear hr hd
  obtain ⟨i0, hi, hz0, hz1, hz2⟩ := info_parts rentry_info
  have HI := Lib.hid hi
  have HZ0 := Lib.hid hz0
  have HZ1 := Lib.hid hz1
  have HZ2 := Lib.hid hz2
  obtain ⟨l0, hi, hz0, hz1, hz2⟩ := info_parts rline_info
  have LI := Lib.hid hi
  have LZ0 := Lib.hid hz0
  have LZ1 := Lib.hid hz1
  have LZ2 := Lib.hid hz2
  clear hi hz0 hz1 hz2
  go_enter Tryd.func16, Tryd.ntmps16
  go_wp2_with fail
  refine (rvalid_any _ _ _ _ _ HR.out hn HDL.out).mono ?_
  rintro e w1 ⟨⟨v, rfl, hv⟩, hb⟩
  have HB := Lib.hid hb
  clear hb
  rcases hv with ⟨h1, rfl⟩ | ⟨h1, h2, rfl⟩ | ⟨h1, h2, h3, rfl⟩ | ⟨h1, h2, h3, rfl⟩
  · have H1 := Lib.hid h1
    clear h1
    go_wp2_with fail
    go_ret2
    exact ⟨HB.out, .inl ⟨H1.out, rfl⟩⟩
  · have H1 := Lib.hid h1
    have H2 := Lib.hid h2
    clear h1 h2
    go_wp2_with fail
    go_ret2
    exact ⟨HB.out, .inr (.inl ⟨H1.out, H2.out, rfl⟩)⟩
  · have H1 := Lib.hid h1
    have H2 := Lib.hid h2
    have H3 := Lib.hid h3
    clear h1 h2 h3
    go_wp2_with fail
    go_ret2
    exact ⟨HB.out, .inr (.inr (.inl ⟨H1.out, H2.out, H3.out, rfl⟩))⟩
  · have HV := Lib.hid (show ∀ e w', OkPost rs rate e w' → Below w.heap.size w w' → RSettlePost rs rate w e w' from fun e w' h hb => ⟨hb, .inr (.inr (.inr ⟨h1, h2, h3, h⟩))⟩)
    have HS := Lib.hid (sane_of h1 h3)
    clear h1 h2 h3
    have hn4 := HS.out.n
    have HR1 := Lib.hid (HR.out.ext HB.out)
    clear HR hn
    go_wp2_with fail
    go_loopw [7, 8, 9, 10] (fun out rt db i wr => Hid (Below w1.heap.size w1 wr) ∧ ∃ (S : St) (j : Nat) (es : List En), rt = .int .i64 S.right ∧ db = .int .i64 S.debt ∧ i = .int .i64 j ∧ j ≤ rs.length ∧ Hid (S = run rate ((rs.map Cl.key).take j)) ∧ Hid (∀ i (hi : i < rs.length), i < j → Fits rate (run rate ((rs.map Cl.key).take i)) rs[i].key) ∧ Hid (es.map En.key = S.es) ∧ Hid (wr.ownsRow w1.heap.size 59 3 out es.length (es.flatMap enCells)) ∧ Hid (∀ e ∈ es, RdK wr 128 e.A (e.lines.flatMap liCells) ∧ e.lines.length ≤ e.c)) (fun _ _ _ i _ => (rs.length - intOf i).toNat)
    case atStart => exact ⟨Below.refl _ _, ⟨0, 0, 0, []⟩, 0, [], rfl, rfl, rfl, by omega, rfl, fun i hi h => by omega, rfl, World.ownsRow_nil _ _ _ _, fun e he => by cases he⟩
    case round =>
      obtain ⟨HBr, S, j, es, rfl, rfl, rfl, hj, HSt, HF, HK, HO, HL⟩ := hrel
      by_cases hlt : j < rs.length
      · have hcl : (j : Int) < rs.length := by omega
        have HR2 := Lib.hid (HR1.out.ext HBr.out)
        obtain ⟨b, o, rfl, r0, r1⟩ := HR2.out.row hlt
        have HDU := Lib.hid (HR2.out.dues _ (List.getElem_mem hlt))
        have hdue := HS.out.due _ (List.getElem_mem hlt)
        have HCE := Lib.hid hdue.2
        have hd4 := hdue.1
        have HINV := Lib.hid (show Inv S from by rw [HSt.out]; exact run_inv rate HS.out.r0 _)
        have HSM := Lib.hid (show Sml S j from by rw [HSt.out]; exact run_small rate HS.out.r0 _ j (by rw [List.length_map]; omega) (fun i hi hij => by rw [List.getElem_map]; exact HF.out i (by rwa [List.length_map] at hi) hij))
        obtain ⟨sr1, sr2⟩ := HSM.out.right
        obtain ⟨sd1, sd2⟩ := HSM.out.debt
        have sd0 := HINV.out.debt
        have sl := HSM.out.len
        have HEL := Lib.hid (show es.length = S.es.length by have := congrArg List.length HK.out; simpa using this)
        clear hdue
        go_wp2_with fail
        refine (right_any rs[j].day rs[j].A rs[j].c rs[j].dues _ HDU.out hd4 HCE.out).mono ?_
        rintro e w2 ⟨rfl, hb⟩
        have HB2 := Lib.hid hb
        have hbd := overSum_bd rs[j].day rs[j].dues HCE.out
        obtain ⟨hb1, hb2⟩ : -400000000000000 ≤ overSum rs[j].day rs[j].dues ∧ overSum rs[j].day rs[j].dues ≤ 400000000000000 := by omega
        clear hbd hb r0 r1
        obtain ⟨N, hN⟩ : ∃ N, N = nowOf rs[j].key := ⟨_, rfl⟩
        rw [show overSum rs[j].day rs[j].dues = N from hN.symm] at hb1 hb2 ⊢
        obtain ⟨D, rfl⟩ : ∃ D, N = D + S.right := ⟨N - S.right, by omega⟩
        have HN := Lib.hid hN
        have HSR := Lib.hid (show run rate ((rs.map Cl.key).take j) = S from HSt.out.symm)
        have HBT := Lib.hid (ext_trans HBr.out HB2.out)
        have HBad := Lib.hid (show ¬ Fits rate (run rate ((rs.map Cl.key).take j)) rs[j].key → ∀ w', Below w2.heap.size w2 w' → RSettlePost rs rate w (.returned (.tuple #[.slice none 0 0, .int .i64 3])) w' from fun h w' hb => HV.out _ _ (.inl ⟨j, hlt, HF.out, h, rfl⟩) (ext_trans HB.out (ext_trans HBT.out hb)))
        clear hN
        have sr1' : -1000000000000 ≤ S.right := sr1
        have sr2' : S.right ≤ 1000000000000 := sr2
        go_wp2_with fail
        refine (small_b _ _).mono ?_
        rintro e w' ⟨rfl, rfl⟩
        obtain ⟨g1, hg⟩ : ∃ g : Bool, decide (-1000000000000 ≤ D + S.right ∧ D + S.right ≤ 1000000000000) = g := ⟨_, rfl⟩
        have HG1 := Lib.hid (show g1 = true ↔ G (D + S.right) by rw [← hg]; unfold G; simp)
        rw [hg]
        clear hg
        go_wp2_with fail
        refine (small_b _ _).mono ?_
        rintro e w' ⟨rfl, rfl⟩
        obtain ⟨g2, hg⟩ : ∃ g : Bool, decide (-1000000000000 ≤ D ∧ D ≤ 1000000000000) = g := ⟨_, rfl⟩
        have HG2 := Lib.hid (show g2 = true ↔ G D by rw [← hg]; unfold G; simp)
        rw [hg]
        clear hg
        cases g1
        · go_wp2_with fail
          go_ret2
          exact HBad.out (fun h => by
            have := h.1
            rw [← HN.out] at this
            simpa using HG1.out.2 this) _ (Below.refl _ _)
        cases g2
        · go_wp2_with fail
          go_ret2
          exact HBad.out (fun h => by
            have := h.2.1
            rw [← HN.out, HSR.out, Int.add_sub_cancel] at this
            simpa using HG2.out.2 this) _ (Below.refl _ _)
        obtain ⟨n1, n2⟩ := HG1.out.1 (by simp)
        obtain ⟨d1, d2⟩ := HG2.out.1 (by simp)
        by_cases hpos : 0 < D
        · have hp0 : 0 ≤ (Coin.partV D rate 2).1 := partV_nonneg D rate (by omega) HS.out.r0
          go_wp2_with fail
          refine (Coin.refpart_any _ _ _ _).mono ?_
          rintro e w' ⟨rfl, rfl⟩
          obtain ⟨PV, hPV⟩ : ∃ p, p = (Coin.partV D rate 2).1 := ⟨_, rfl⟩
          obtain ⟨PC, hPC⟩ : ∃ p, p = (Coin.partV D rate 2).2 := ⟨_, rfl⟩
          rw [← hPV] at hp0
          rw [← hPV, ← hPC]
          have HPV := Lib.hid hPV
          clear hPV hPC
          by_cases hmn : S.debt < PV
          · have HOFF := Lib.hid (show offOf rate S.debt D = S.debt from by unfold offOf; rw [if_pos hpos, ← HPV.out, if_pos hmn])
            have HD3 := Lib.hid (show (Settle.step rate S rs[j].key).debt = S.debt - S.debt by rw [step_debt, ← HN.out, Int.add_sub_cancel, HOFF.out])
            have HP4 := Lib.hid (show (Settle.step rate S rs[j].key).paid = D + S.right + (S.debt - S.debt) by rw [(step_inv rate HS.out.r0 HINV.out rs[j].key).paid, HD3.out, step_right, ← HN.out])
            have hW := off_bd rate S.debt D HS.out.r0 sd0
            rw [HOFF.out] at hW
            obtain ⟨hw1, hw2, hw3⟩ := hW
            have hw4 : 0 ≤ S.debt - S.debt := by omega
            have hw5 : S.debt - S.debt ≤ 2000000000000 := by omega
            clear hw2 hw3
            go_wp2_with fail
            refine (small_g _ _).mono ?_
            rintro e w' ⟨g3, rfl, rfl, hg⟩
            have HG3 := Lib.hid (show g3 = true ↔ G (S.debt - S.debt) by rw [hg]; unfold G; omega)
            clear hg
            go_wp2_with fail
            refine (small_g _ _).mono ?_
            rintro e w' ⟨g4, rfl, rfl, hg⟩
            have HG4 := Lib.hid (show g4 = true ↔ G (D + S.right + (S.debt - S.debt)) by rw [hg]; unfold G; omega)
            clear hg
            cases g3
            · go_wp2_with fail
              go_ret2
              exact HBad.out (fun h => by
                have := h.2.2.1
                rw [HSR.out, HD3.out] at this
                simpa using HG3.out.2 this) _ (Below.refl _ _)
            cases g4
            · go_wp2_with fail
              go_ret2
              exact HBad.out (fun h => by
                have := h.2.2.2
                rw [HSR.out, HP4.out] at this
                simpa using HG4.out.2 this) _ (Below.refl _ _)
            have HFj := Lib.hid (show Fits rate (run rate ((rs.map Cl.key).take j)) rs[j].key by
              rw [HSR.out]
              exact ⟨by rw [← HN.out]; exact ⟨n1, n2⟩, by rw [← HN.out, Int.add_sub_cancel]; exact ⟨d1, d2⟩, by rw [HD3.out]; exact HG3.out.1 (by simp), by rw [HP4.out]; exact HG4.out.1 (by simp)⟩)
            have HSt2 := Lib.hid (show Settle.step rate S rs[j].key = run rate ((rs.map Cl.key).take (j + 1)) by
              rw [run_take rate _ j (by rw [List.length_map]; exact hlt), List.getElem_map, HSR.out])
            have HF2 := Lib.hid (show ∀ i (hi : i < rs.length), i < j + 1 → Fits rate (run rate ((rs.map Cl.key).take i)) rs[i].key from fun i hi hij => by
              by_cases e : i = j
              · subst e; exact HFj.out
              · exact HF.out i hi (by omega))
            have hz : D ≠ 0 := by omega
            have hz1 : (D == 0) = false := by simp [hz]
            have HES := Lib.hid (show (Settle.step rate S rs[j].key).es = S.es ++ [(rs[j].day, linesOf D (S.debt))] by unfold Settle.step; simp only [← HN.out, Int.add_sub_cancel, HOFF.out]; rw [if_neg hz]; rfl)
            obtain ⟨b5, o5, hbo, r0, r1⟩ := (HR2.out.ext HB2.out).row hlt
            cases hbo
            have HO0 := Lib.hid (show ((w2.alloc (.cells #[.string ⟨#[114, 105, 103, 104, 116, 115]⟩, .int .i64 (-D)] 128)).alloc (.cells #[.int .i64 rs[j].day, .string ⟨#[97, 110, 101, 119]⟩, .slice (some ⟨w2.heap.size, 0, none⟩) 1 1] 59)).ownsRow w2.heap.size 128 2 (.slice (some ⟨w2.heap.size, 0, none⟩) 1 1) 1 [.string ⟨#[114, 105, 103, 104, 116, 115]⟩, .int .i64 (-D)] from (World.ownsRow_lit w2 #[.string ⟨#[114, 105, 103, 104, 116, 115]⟩, .int .i64 (-D)] 1 (Nat.le_refl _) (by simp [maxLen]) rfl).alloc _)
            have HX0 := Lib.hid (show Blk ((w2.alloc (.cells #[.string ⟨#[114, 105, 103, 104, 116, 115]⟩, .int .i64 (-D)] 128)).alloc (.cells #[.int .i64 rs[j].day, .string ⟨#[97, 110, 101, 119]⟩, .slice (some ⟨w2.heap.size, 0, none⟩) 1 1] 59)) (w2.heap.size + 1) 59 [.int .i64 rs[j].day, .string ⟨#[97, 110, 101, 119]⟩, .slice (some ⟨w2.heap.size, 0, none⟩) 1 1] by
              have := Blk.new (w2.alloc (.cells #[.string ⟨#[114, 105, 103, 104, 116, 115]⟩, .int .i64 (-D)] 128)) 59 [.int .i64 rs[j].day, .string ⟨#[97, 110, 101, 119]⟩, .slice (some ⟨w2.heap.size, 0, none⟩) 1 1]
              simpa using this)
            have HBx0 := Lib.hid (ext_trans (ext_alloc w2 (.cells #[.string ⟨#[114, 105, 103, 104, 116, 115]⟩, .int .i64 (-D)] 128)) (ext_alloc _ (.cells #[.int .i64 rs[j].day, .string ⟨#[97, 110, 101, 119]⟩, .slice (some ⟨w2.heap.size, 0, none⟩) 1 1] 59)))
            go_upto_region 29 with fail
            obtain ⟨X0, hX⟩ : ∃ X, X = ((w2.alloc (.cells #[.string ⟨#[114, 105, 103, 104, 116, 115]⟩, .int .i64 (-D)] 128)).alloc (.cells #[.int .i64 rs[j].day, .string ⟨#[97, 110, 101, 119]⟩, .slice (some ⟨w2.heap.size, 0, none⟩) 1 1] 59)) := ⟨_, rfl⟩
            rw [← hX] at HO0 HX0 HBx0 ⊢
            clear hX r0 r1 hz1
            have z2 := HX0.out.cell 2 rfl
            by_cases hp : D - S.debt = 0
            · have hq : S.debt ≠ 0 := by omega
              have HP := Lib.hid hp
              have HQ := Lib.hid hq
              have hp1 : (D - S.debt != 0) = false := by simp; omega
              have hq1 : (S.debt != 0) = true := by simp; omega
              clear hp hq
              go_upto_region 33 with (at_builtin; go_loud (refine wpList_append_own _ rfl (.tmp 104) (.tmp 107) _ rfl w2.heap.size 128 l0 _ 2 24 Tryd.underlying57 LI.out LZ0.out LZ1.out LZ2.out rfl (by omega) _ 1 _ rfl (World.ownsRow.alloc HO0.out _) ⟨X0.heap.size, 0, none⟩ 1 1 [.string ⟨#[100, 101, 98, 116, 115]⟩, .int .i64 (S.debt)] rfl rfl (new_cells X0 [.string ⟨#[100, 101, 98, 116, 115]⟩, .int .i64 (S.debt)] _ _ rfl) (by intro u hu; simp only [List.mem_cons, List.not_mem_nil, or_false] at hu; rcases hu with rfl | rfl <;> rfl) (by simp only [maxLen]; omega) (by omega) (by have := HBx0.out.size; simp; omega) ?_; intro v1 w3 hown1 hg1 _; obtain ⟨A1, c1, hv1, _⟩ := own_slice hown1; subst hv1; obtain ⟨p1, p2, p3, p4⟩ := put_after HO0.out HX0.out HBx0.out (by omega) hown1 hg1; have HX1 := Lib.hid p2; have HO1 := Lib.hid p3; have HBx1 := Lib.hid p4; have z1 := p1.cell 2 rfl; have z2 := p1.free 2; clear hown1 hg1 p1 p2 p3 p4))
              obtain ⟨X1, hX⟩ : ∃ X, X = w3.setCell ⟨w2.heap.size + 1, 2, none⟩ (.slice A1 2 c1) := ⟨_, rfl⟩
              rw [← hX]
              have HO1 := Lib.hid (show X1.ownsRow w2.heap.size 128 2 (.slice A1 2 c1) 2 _ from hX ▸ HO1.out)
              have HX1 := Lib.hid (show Blk X1 (w2.heap.size + 1) 59 [.int .i64 rs[j].day, .string ⟨#[97, 110, 101, 119]⟩, .slice A1 2 c1] from hX ▸ HX1.out)
              have HBx1 := Lib.hid (show Below w2.heap.size w2 X1 from hX ▸ HBx1.out)
              clear hX z1 z2
              have z2 := HX1.out.cell 2 rfl
              have y0 := HX1.out.cell 0 rfl
              have y1 := HX1.out.cell 1 rfl
              have HBW := Lib.hid (ext_trans HB2.out HBx1.out)
              have HBT2 := Lib.hid (ext_trans HBr.out HBW.out)
              have HO5 := Lib.hid (own_ext HO.out HBW.out)
              have hel4 : es.length ≤ 400 := by have := HEL.out; omega
              have hsz : w1.heap.size ≤ X1.heap.size := HBT2.out.size
              have HLN := Lib.hid (show (linesOf D (S.debt)).length = 2 ∧ (linesOf D (S.debt)).flatMap liCells = [.string ⟨#[114, 105, 103, 104, 116, 115]⟩, .int .i64 (-D), .string ⟨#[100, 101, 98, 116, 115]⟩, .int .i64 (S.debt)] from by unfold linesOf; rw [if_neg hz, if_neg (fun h => h.2 HP.out), if_neg HQ.out]; exact ⟨rfl, rfl⟩)
              go_wp2_with (at_builtin; refine wpList_append_own _ rfl (.tmp 110) (.tmp 112) _ rfl w1.heap.size 59 i0 _ 3 48 Tryd.underlying49 HI.out HZ0.out HZ1.out HZ2.out rfl (by omega) u7 es.length _ rfl (World.ownsRow.alloc HO5.out _) ⟨X1.heap.size, 0, none⟩ 1 1 [.int .i64 rs[j].day, .string ⟨#[97, 110, 101, 119]⟩, .slice A1 2 c1] rfl rfl (new_cells X1 [.int .i64 rs[j].day, .string ⟨#[97, 110, 101, 119]⟩, .slice A1 2 c1] _ _ rfl) (by intro u hu; simp only [List.mem_cons, List.not_mem_nil, or_false] at hu; rcases hu with rfl | rfl | rfl <;> rfl) (by simp only [maxLen]; omega) (by omega) (by simp; omega) ?_; intro v1 w5 hown1 hg1 _; have HO6 := Lib.hid hown1; have HG6 := Lib.hid hg1; clear hown1 hg1)
              go_roundw
              case rel =>
                have hkind := Lib.ownsRow_kind (World.ownsRow.alloc HO5.out (.cells #[.int .i64 rs[j].day, .string ⟨#[97, 110, 101, 119]⟩, .slice A1 2 c1] 59))
                refine ⟨?_, Settle.step rate S rs[j].key, j + 1, es ++ [⟨rs[j].day, linesOf D (S.debt), A1, c1⟩], by rw [step_right, ← HN.out], by rw [HD3.out] <;> simp, by simp, by omega, HSt2.out, HF2.out, ?_, ?_, ?_⟩
                · exact (HBT2.out.alloc hsz _).grown HG6.out (by simp; omega) (fun g hg => (HO5.out.lt g hg).1)
                · show _ = _
                  rw [HES.out, List.map_append, HK.out]
                  rfl
                · have ho := HO6.out
                  show World.ownsRow _ _ _ _ _ _ _
                  simpa [List.flatMap_append, enCells, HLN.out.1] using ho
                · intro e he
                  have hls : 2 ≤ c1 := by
                    obtain ⟨_, _, e1, h2, _⟩ := own_slice HO1.out
                    injection e1 with _ _ e3
                    omega
                  rcases List.mem_append.1 he with he | he
                  · exact ⟨(((HL.out e he).1.ext HBW.out).ext (ext_alloc X1 _)).grown HG6.out hkind (by decide), (HL.out e he).2⟩
                  · rw [List.mem_singleton] at he
                    subst he
                    refine ⟨?_, by show (linesOf D (S.debt)).length ≤ c1; rw [HLN.out.1]; exact hls⟩
                    show RdK _ _ A1 ((linesOf D (S.debt)).flatMap liCells)
                    rw [HLN.out.2]
                    exact ((RdK.of_own HO1.out).ext (ext_alloc X1 _)).grown HG6.out hkind (by decide)
              case measure => simp [intOf]; omega
            by_cases hq : S.debt = 0
            · have HP := Lib.hid hp
              have HQ := Lib.hid hq
              have hp1 : (D - S.debt != 0) = true := by simp; omega
              have hq1 : (S.debt != 0) = false := by simp; omega
              clear hp hq
              go_upto_region 33 with (at_builtin; go_loud (refine wpList_append_own _ rfl (.tmp 93) (.tmp 98) _ rfl w2.heap.size 128 l0 _ 2 24 Tryd.underlying57 LI.out LZ0.out LZ1.out LZ2.out rfl (by omega) _ 1 _ rfl (World.ownsRow.alloc HO0.out _) ⟨X0.heap.size, 0, none⟩ 1 1 [.string ⟨#[112, 97, 105, 100]⟩, .int .i64 (D - S.debt)] rfl rfl (new_cells X0 [.string ⟨#[112, 97, 105, 100]⟩, .int .i64 (D - S.debt)] _ _ rfl) (by intro u hu; simp only [List.mem_cons, List.not_mem_nil, or_false] at hu; rcases hu with rfl | rfl <;> rfl) (by simp only [maxLen]; omega) (by omega) (by have := HBx0.out.size; simp; omega) ?_; intro v1 w3 hown1 hg1 _; obtain ⟨A1, c1, hv1, _⟩ := own_slice hown1; subst hv1; obtain ⟨p1, p2, p3, p4⟩ := put_after HO0.out HX0.out HBx0.out (by omega) hown1 hg1; have HX1 := Lib.hid p2; have HO1 := Lib.hid p3; have HBx1 := Lib.hid p4; have z1 := p1.cell 2 rfl; have z2 := p1.free 2; clear hown1 hg1 p1 p2 p3 p4))
              obtain ⟨X1, hX⟩ : ∃ X, X = w3.setCell ⟨w2.heap.size + 1, 2, none⟩ (.slice A1 2 c1) := ⟨_, rfl⟩
              rw [← hX]
              have HO1 := Lib.hid (show X1.ownsRow w2.heap.size 128 2 (.slice A1 2 c1) 2 _ from hX ▸ HO1.out)
              have HX1 := Lib.hid (show Blk X1 (w2.heap.size + 1) 59 [.int .i64 rs[j].day, .string ⟨#[97, 110, 101, 119]⟩, .slice A1 2 c1] from hX ▸ HX1.out)
              have HBx1 := Lib.hid (show Below w2.heap.size w2 X1 from hX ▸ HBx1.out)
              clear hX z1 z2
              have z2 := HX1.out.cell 2 rfl
              have y0 := HX1.out.cell 0 rfl
              have y1 := HX1.out.cell 1 rfl
              have HBW := Lib.hid (ext_trans HB2.out HBx1.out)
              have HBT2 := Lib.hid (ext_trans HBr.out HBW.out)
              have HO5 := Lib.hid (own_ext HO.out HBW.out)
              have hel4 : es.length ≤ 400 := by have := HEL.out; omega
              have hsz : w1.heap.size ≤ X1.heap.size := HBT2.out.size
              have HLN := Lib.hid (show (linesOf D (S.debt)).length = 2 ∧ (linesOf D (S.debt)).flatMap liCells = [.string ⟨#[114, 105, 103, 104, 116, 115]⟩, .int .i64 (-D), .string ⟨#[112, 97, 105, 100]⟩, .int .i64 (D - S.debt)] from by unfold linesOf; rw [if_neg hz, if_pos ⟨hpos, HP.out⟩, if_pos HQ.out]; exact ⟨rfl, rfl⟩)
              go_wp2_with (at_builtin; refine wpList_append_own _ rfl (.tmp 110) (.tmp 112) _ rfl w1.heap.size 59 i0 _ 3 48 Tryd.underlying49 HI.out HZ0.out HZ1.out HZ2.out rfl (by omega) u7 es.length _ rfl (World.ownsRow.alloc HO5.out _) ⟨X1.heap.size, 0, none⟩ 1 1 [.int .i64 rs[j].day, .string ⟨#[97, 110, 101, 119]⟩, .slice A1 2 c1] rfl rfl (new_cells X1 [.int .i64 rs[j].day, .string ⟨#[97, 110, 101, 119]⟩, .slice A1 2 c1] _ _ rfl) (by intro u hu; simp only [List.mem_cons, List.not_mem_nil, or_false] at hu; rcases hu with rfl | rfl | rfl <;> rfl) (by simp only [maxLen]; omega) (by omega) (by simp; omega) ?_; intro v1 w5 hown1 hg1 _; have HO6 := Lib.hid hown1; have HG6 := Lib.hid hg1; clear hown1 hg1)
              go_roundw
              case rel =>
                have hkind := Lib.ownsRow_kind (World.ownsRow.alloc HO5.out (.cells #[.int .i64 rs[j].day, .string ⟨#[97, 110, 101, 119]⟩, .slice A1 2 c1] 59))
                refine ⟨?_, Settle.step rate S rs[j].key, j + 1, es ++ [⟨rs[j].day, linesOf D (S.debt), A1, c1⟩], by rw [step_right, ← HN.out], by rw [HD3.out] <;> simp, by simp, by omega, HSt2.out, HF2.out, ?_, ?_, ?_⟩
                · exact (HBT2.out.alloc hsz _).grown HG6.out (by simp; omega) (fun g hg => (HO5.out.lt g hg).1)
                · show _ = _
                  rw [HES.out, List.map_append, HK.out]
                  rfl
                · have ho := HO6.out
                  show World.ownsRow _ _ _ _ _ _ _
                  simpa [List.flatMap_append, enCells, HLN.out.1] using ho
                · intro e he
                  have hls : 2 ≤ c1 := by
                    obtain ⟨_, _, e1, h2, _⟩ := own_slice HO1.out
                    injection e1 with _ _ e3
                    omega
                  rcases List.mem_append.1 he with he | he
                  · exact ⟨(((HL.out e he).1.ext HBW.out).ext (ext_alloc X1 _)).grown HG6.out hkind (by decide), (HL.out e he).2⟩
                  · rw [List.mem_singleton] at he
                    subst he
                    refine ⟨?_, by show (linesOf D (S.debt)).length ≤ c1; rw [HLN.out.1]; exact hls⟩
                    show RdK _ _ A1 ((linesOf D (S.debt)).flatMap liCells)
                    rw [HLN.out.2]
                    exact ((RdK.of_own HO1.out).ext (ext_alloc X1 _)).grown HG6.out hkind (by decide)
              case measure => simp [intOf]; omega
            have HP := Lib.hid hp
            have HQ := Lib.hid hq
            have hp1 : (D - S.debt != 0) = true := by simp; omega
            have hq1 : (S.debt != 0) = true := by simp; omega
            clear hp hq
            go_upto_region 31 with (at_builtin; go_loud (refine wpList_append_own _ rfl (.tmp 93) (.tmp 98) _ rfl w2.heap.size 128 l0 _ 2 24 Tryd.underlying57 LI.out LZ0.out LZ1.out LZ2.out rfl (by omega) _ 1 _ rfl (World.ownsRow.alloc HO0.out _) ⟨X0.heap.size, 0, none⟩ 1 1 [.string ⟨#[112, 97, 105, 100]⟩, .int .i64 (D - S.debt)] rfl rfl (new_cells X0 [.string ⟨#[112, 97, 105, 100]⟩, .int .i64 (D - S.debt)] _ _ rfl) (by intro u hu; simp only [List.mem_cons, List.not_mem_nil, or_false] at hu; rcases hu with rfl | rfl <;> rfl) (by simp only [maxLen]; omega) (by omega) (by have := HBx0.out.size; simp; omega) ?_; intro v1 w3 hown1 hg1 _; obtain ⟨A1, c1, hv1, _⟩ := own_slice hown1; subst hv1; obtain ⟨p1, p2, p3, p4⟩ := put_after HO0.out HX0.out HBx0.out (by omega) hown1 hg1; have HX1 := Lib.hid p2; have HO1 := Lib.hid p3; have HBx1 := Lib.hid p4; have z1 := p1.cell 2 rfl; have z2 := p1.free 2; clear hown1 hg1 p1 p2 p3 p4))
            obtain ⟨X1, hX⟩ : ∃ X, X = w3.setCell ⟨w2.heap.size + 1, 2, none⟩ (.slice A1 2 c1) := ⟨_, rfl⟩
            rw [← hX]
            have HO1 := Lib.hid (show X1.ownsRow w2.heap.size 128 2 (.slice A1 2 c1) 2 _ from hX ▸ HO1.out)
            have HX1 := Lib.hid (show Blk X1 (w2.heap.size + 1) 59 [.int .i64 rs[j].day, .string ⟨#[97, 110, 101, 119]⟩, .slice A1 2 c1] from hX ▸ HX1.out)
            have HBx1 := Lib.hid (show Below w2.heap.size w2 X1 from hX ▸ HBx1.out)
            clear hX z1 z2
            have z2 := HX1.out.cell 2 rfl
            go_upto_region 33 with (at_builtin; go_loud (refine wpList_append_own _ rfl (.tmp 104) (.tmp 107) _ rfl w2.heap.size 128 l0 _ 2 24 Tryd.underlying57 LI.out LZ0.out LZ1.out LZ2.out rfl (by omega) _ 2 _ rfl (World.ownsRow.alloc HO1.out _) ⟨X1.heap.size, 0, none⟩ 1 1 [.string ⟨#[100, 101, 98, 116, 115]⟩, .int .i64 (S.debt)] rfl rfl (new_cells X1 [.string ⟨#[100, 101, 98, 116, 115]⟩, .int .i64 (S.debt)] _ _ rfl) (by intro u hu; simp only [List.mem_cons, List.not_mem_nil, or_false] at hu; rcases hu with rfl | rfl <;> rfl) (by simp only [maxLen]; omega) (by omega) (by have := HBx1.out.size; simp; omega) ?_; intro v1 w3 hown1 hg1 _; obtain ⟨A1, c1, hv1, _⟩ := own_slice hown1; subst hv1; obtain ⟨p1, p2, p3, p4⟩ := put_after HO1.out HX1.out HBx1.out (by omega) hown1 hg1; have HX2 := Lib.hid p2; have HO2 := Lib.hid p3; have HBx2 := Lib.hid p4; have z1 := p1.cell 2 rfl; have z2 := p1.free 2; clear hown1 hg1 p1 p2 p3 p4))
            obtain ⟨X2, hX⟩ : ∃ X, X = w3.setCell ⟨w2.heap.size + 1, 2, none⟩ (.slice A1 3 c1) := ⟨_, rfl⟩
            rw [← hX]
            have HO2 := Lib.hid (show X2.ownsRow w2.heap.size 128 2 (.slice A1 3 c1) 3 _ from hX ▸ HO2.out)
            have HX2 := Lib.hid (show Blk X2 (w2.heap.size + 1) 59 [.int .i64 rs[j].day, .string ⟨#[97, 110, 101, 119]⟩, .slice A1 3 c1] from hX ▸ HX2.out)
            have HBx2 := Lib.hid (show Below w2.heap.size w2 X2 from hX ▸ HBx2.out)
            clear hX z1 z2
            have z2 := HX2.out.cell 2 rfl
            have y0 := HX2.out.cell 0 rfl
            have y1 := HX2.out.cell 1 rfl
            have HBW := Lib.hid (ext_trans HB2.out HBx2.out)
            have HBT2 := Lib.hid (ext_trans HBr.out HBW.out)
            have HO5 := Lib.hid (own_ext HO.out HBW.out)
            have hel4 : es.length ≤ 400 := by have := HEL.out; omega
            have hsz : w1.heap.size ≤ X2.heap.size := HBT2.out.size
            have HLN := Lib.hid (show (linesOf D (S.debt)).length = 3 ∧ (linesOf D (S.debt)).flatMap liCells = [.string ⟨#[114, 105, 103, 104, 116, 115]⟩, .int .i64 (-D), .string ⟨#[112, 97, 105, 100]⟩, .int .i64 (D - S.debt), .string ⟨#[100, 101, 98, 116, 115]⟩, .int .i64 (S.debt)] from by unfold linesOf; rw [if_neg hz, if_pos ⟨hpos, HP.out⟩, if_neg HQ.out]; exact ⟨rfl, rfl⟩)
            go_wp2_with (at_builtin; refine wpList_append_own _ rfl (.tmp 110) (.tmp 112) _ rfl w1.heap.size 59 i0 _ 3 48 Tryd.underlying49 HI.out HZ0.out HZ1.out HZ2.out rfl (by omega) u7 es.length _ rfl (World.ownsRow.alloc HO5.out _) ⟨X2.heap.size, 0, none⟩ 1 1 [.int .i64 rs[j].day, .string ⟨#[97, 110, 101, 119]⟩, .slice A1 3 c1] rfl rfl (new_cells X2 [.int .i64 rs[j].day, .string ⟨#[97, 110, 101, 119]⟩, .slice A1 3 c1] _ _ rfl) (by intro u hu; simp only [List.mem_cons, List.not_mem_nil, or_false] at hu; rcases hu with rfl | rfl | rfl <;> rfl) (by simp only [maxLen]; omega) (by omega) (by simp; omega) ?_; intro v1 w5 hown1 hg1 _; have HO6 := Lib.hid hown1; have HG6 := Lib.hid hg1; clear hown1 hg1)
            go_roundw
            case rel =>
              have hkind := Lib.ownsRow_kind (World.ownsRow.alloc HO5.out (.cells #[.int .i64 rs[j].day, .string ⟨#[97, 110, 101, 119]⟩, .slice A1 3 c1] 59))
              refine ⟨?_, Settle.step rate S rs[j].key, j + 1, es ++ [⟨rs[j].day, linesOf D (S.debt), A1, c1⟩], by rw [step_right, ← HN.out], by rw [HD3.out] <;> simp, by simp, by omega, HSt2.out, HF2.out, ?_, ?_, ?_⟩
              · exact (HBT2.out.alloc hsz _).grown HG6.out (by simp; omega) (fun g hg => (HO5.out.lt g hg).1)
              · show _ = _
                rw [HES.out, List.map_append, HK.out]
                rfl
              · have ho := HO6.out
                show World.ownsRow _ _ _ _ _ _ _
                simpa [List.flatMap_append, enCells, HLN.out.1] using ho
              · intro e he
                have hls : 3 ≤ c1 := by
                  obtain ⟨_, _, e1, h2, _⟩ := own_slice HO2.out
                  injection e1 with _ _ e3
                  omega
                rcases List.mem_append.1 he with he | he
                · exact ⟨(((HL.out e he).1.ext HBW.out).ext (ext_alloc X2 _)).grown HG6.out hkind (by decide), (HL.out e he).2⟩
                · rw [List.mem_singleton] at he
                  subst he
                  refine ⟨?_, by show (linesOf D (S.debt)).length ≤ c1; rw [HLN.out.1]; exact hls⟩
                  show RdK _ _ A1 ((linesOf D (S.debt)).flatMap liCells)
                  rw [HLN.out.2]
                  exact ((RdK.of_own HO2.out).ext (ext_alloc X2 _)).grown HG6.out hkind (by decide)
            case measure => simp [intOf]; omega
          · have HOFF := Lib.hid (show offOf rate S.debt D = PV from by unfold offOf; rw [if_pos hpos, ← HPV.out, if_neg hmn])
            have HD3 := Lib.hid (show (Settle.step rate S rs[j].key).debt = S.debt - PV by rw [step_debt, ← HN.out, Int.add_sub_cancel, HOFF.out])
            have HP4 := Lib.hid (show (Settle.step rate S rs[j].key).paid = D + S.right + (S.debt - PV) by rw [(step_inv rate HS.out.r0 HINV.out rs[j].key).paid, HD3.out, step_right, ← HN.out])
            have hW := off_bd rate S.debt D HS.out.r0 sd0
            rw [HOFF.out] at hW
            obtain ⟨hw1, hw2, hw3⟩ := hW
            have hw4 : 0 ≤ S.debt - PV := by omega
            have hw5 : S.debt - PV ≤ 2000000000000 := by omega
            clear hw2 hw3
            go_wp2_with fail
            refine (small_g _ _).mono ?_
            rintro e w' ⟨g3, rfl, rfl, hg⟩
            have HG3 := Lib.hid (show g3 = true ↔ G (S.debt - PV) by rw [hg]; unfold G; omega)
            clear hg
            go_wp2_with fail
            refine (small_g _ _).mono ?_
            rintro e w' ⟨g4, rfl, rfl, hg⟩
            have HG4 := Lib.hid (show g4 = true ↔ G (D + S.right + (S.debt - PV)) by rw [hg]; unfold G; omega)
            clear hg
            cases g3
            · go_wp2_with fail
              go_ret2
              exact HBad.out (fun h => by
                have := h.2.2.1
                rw [HSR.out, HD3.out] at this
                simpa using HG3.out.2 this) _ (Below.refl _ _)
            cases g4
            · go_wp2_with fail
              go_ret2
              exact HBad.out (fun h => by
                have := h.2.2.2
                rw [HSR.out, HP4.out] at this
                simpa using HG4.out.2 this) _ (Below.refl _ _)
            have HFj := Lib.hid (show Fits rate (run rate ((rs.map Cl.key).take j)) rs[j].key by
              rw [HSR.out]
              exact ⟨by rw [← HN.out]; exact ⟨n1, n2⟩, by rw [← HN.out, Int.add_sub_cancel]; exact ⟨d1, d2⟩, by rw [HD3.out]; exact HG3.out.1 (by simp), by rw [HP4.out]; exact HG4.out.1 (by simp)⟩)
            have HSt2 := Lib.hid (show Settle.step rate S rs[j].key = run rate ((rs.map Cl.key).take (j + 1)) by
              rw [run_take rate _ j (by rw [List.length_map]; exact hlt), List.getElem_map, HSR.out])
            have HF2 := Lib.hid (show ∀ i (hi : i < rs.length), i < j + 1 → Fits rate (run rate ((rs.map Cl.key).take i)) rs[i].key from fun i hi hij => by
              by_cases e : i = j
              · subst e; exact HFj.out
              · exact HF.out i hi (by omega))
            have hz : D ≠ 0 := by omega
            have hz1 : (D == 0) = false := by simp [hz]
            have HES := Lib.hid (show (Settle.step rate S rs[j].key).es = S.es ++ [(rs[j].day, linesOf D (PV))] by unfold Settle.step; simp only [← HN.out, Int.add_sub_cancel, HOFF.out]; rw [if_neg hz]; rfl)
            obtain ⟨b5, o5, hbo, r0, r1⟩ := (HR2.out.ext HB2.out).row hlt
            cases hbo
            have HO0 := Lib.hid (show ((w2.alloc (.cells #[.string ⟨#[114, 105, 103, 104, 116, 115]⟩, .int .i64 (-D)] 128)).alloc (.cells #[.int .i64 rs[j].day, .string ⟨#[97, 110, 101, 119]⟩, .slice (some ⟨w2.heap.size, 0, none⟩) 1 1] 59)).ownsRow w2.heap.size 128 2 (.slice (some ⟨w2.heap.size, 0, none⟩) 1 1) 1 [.string ⟨#[114, 105, 103, 104, 116, 115]⟩, .int .i64 (-D)] from (World.ownsRow_lit w2 #[.string ⟨#[114, 105, 103, 104, 116, 115]⟩, .int .i64 (-D)] 1 (Nat.le_refl _) (by simp [maxLen]) rfl).alloc _)
            have HX0 := Lib.hid (show Blk ((w2.alloc (.cells #[.string ⟨#[114, 105, 103, 104, 116, 115]⟩, .int .i64 (-D)] 128)).alloc (.cells #[.int .i64 rs[j].day, .string ⟨#[97, 110, 101, 119]⟩, .slice (some ⟨w2.heap.size, 0, none⟩) 1 1] 59)) (w2.heap.size + 1) 59 [.int .i64 rs[j].day, .string ⟨#[97, 110, 101, 119]⟩, .slice (some ⟨w2.heap.size, 0, none⟩) 1 1] by
              have := Blk.new (w2.alloc (.cells #[.string ⟨#[114, 105, 103, 104, 116, 115]⟩, .int .i64 (-D)] 128)) 59 [.int .i64 rs[j].day, .string ⟨#[97, 110, 101, 119]⟩, .slice (some ⟨w2.heap.size, 0, none⟩) 1 1]
              simpa using this)
            have HBx0 := Lib.hid (ext_trans (ext_alloc w2 (.cells #[.string ⟨#[114, 105, 103, 104, 116, 115]⟩, .int .i64 (-D)] 128)) (ext_alloc _ (.cells #[.int .i64 rs[j].day, .string ⟨#[97, 110, 101, 119]⟩, .slice (some ⟨w2.heap.size, 0, none⟩) 1 1] 59)))
            go_upto_region 29 with fail
            obtain ⟨X0, hX⟩ : ∃ X, X = ((w2.alloc (.cells #[.string ⟨#[114, 105, 103, 104, 116, 115]⟩, .int .i64 (-D)] 128)).alloc (.cells #[.int .i64 rs[j].day, .string ⟨#[97, 110, 101, 119]⟩, .slice (some ⟨w2.heap.size, 0, none⟩) 1 1] 59)) := ⟨_, rfl⟩
            rw [← hX] at HO0 HX0 HBx0 ⊢
            clear hX r0 r1 hz1
            have z2 := HX0.out.cell 2 rfl
            by_cases hp : D - PV = 0
            · have hq : PV ≠ 0 := by omega
              have HP := Lib.hid hp
              have HQ := Lib.hid hq
              have hp1 : (D - PV != 0) = false := by simp; omega
              have hq1 : (PV != 0) = true := by simp; omega
              clear hp hq
              go_upto_region 33 with (at_builtin; go_loud (refine wpList_append_own _ rfl (.tmp 104) (.tmp 107) _ rfl w2.heap.size 128 l0 _ 2 24 Tryd.underlying57 LI.out LZ0.out LZ1.out LZ2.out rfl (by omega) _ 1 _ rfl (World.ownsRow.alloc HO0.out _) ⟨X0.heap.size, 0, none⟩ 1 1 [.string ⟨#[100, 101, 98, 116, 115]⟩, .int .i64 (PV)] rfl rfl (new_cells X0 [.string ⟨#[100, 101, 98, 116, 115]⟩, .int .i64 (PV)] _ _ rfl) (by intro u hu; simp only [List.mem_cons, List.not_mem_nil, or_false] at hu; rcases hu with rfl | rfl <;> rfl) (by simp only [maxLen]; omega) (by omega) (by have := HBx0.out.size; simp; omega) ?_; intro v1 w3 hown1 hg1 _; obtain ⟨A1, c1, hv1, _⟩ := own_slice hown1; subst hv1; obtain ⟨p1, p2, p3, p4⟩ := put_after HO0.out HX0.out HBx0.out (by omega) hown1 hg1; have HX1 := Lib.hid p2; have HO1 := Lib.hid p3; have HBx1 := Lib.hid p4; have z1 := p1.cell 2 rfl; have z2 := p1.free 2; clear hown1 hg1 p1 p2 p3 p4))
              obtain ⟨X1, hX⟩ : ∃ X, X = w3.setCell ⟨w2.heap.size + 1, 2, none⟩ (.slice A1 2 c1) := ⟨_, rfl⟩
              rw [← hX]
              have HO1 := Lib.hid (show X1.ownsRow w2.heap.size 128 2 (.slice A1 2 c1) 2 _ from hX ▸ HO1.out)
              have HX1 := Lib.hid (show Blk X1 (w2.heap.size + 1) 59 [.int .i64 rs[j].day, .string ⟨#[97, 110, 101, 119]⟩, .slice A1 2 c1] from hX ▸ HX1.out)
              have HBx1 := Lib.hid (show Below w2.heap.size w2 X1 from hX ▸ HBx1.out)
              clear hX z1 z2
              have z2 := HX1.out.cell 2 rfl
              have y0 := HX1.out.cell 0 rfl
              have y1 := HX1.out.cell 1 rfl
              have HBW := Lib.hid (ext_trans HB2.out HBx1.out)
              have HBT2 := Lib.hid (ext_trans HBr.out HBW.out)
              have HO5 := Lib.hid (own_ext HO.out HBW.out)
              have hel4 : es.length ≤ 400 := by have := HEL.out; omega
              have hsz : w1.heap.size ≤ X1.heap.size := HBT2.out.size
              have HLN := Lib.hid (show (linesOf D (PV)).length = 2 ∧ (linesOf D (PV)).flatMap liCells = [.string ⟨#[114, 105, 103, 104, 116, 115]⟩, .int .i64 (-D), .string ⟨#[100, 101, 98, 116, 115]⟩, .int .i64 (PV)] from by unfold linesOf; rw [if_neg hz, if_neg (fun h => h.2 HP.out), if_neg HQ.out]; exact ⟨rfl, rfl⟩)
              go_wp2_with (at_builtin; refine wpList_append_own _ rfl (.tmp 110) (.tmp 112) _ rfl w1.heap.size 59 i0 _ 3 48 Tryd.underlying49 HI.out HZ0.out HZ1.out HZ2.out rfl (by omega) u7 es.length _ rfl (World.ownsRow.alloc HO5.out _) ⟨X1.heap.size, 0, none⟩ 1 1 [.int .i64 rs[j].day, .string ⟨#[97, 110, 101, 119]⟩, .slice A1 2 c1] rfl rfl (new_cells X1 [.int .i64 rs[j].day, .string ⟨#[97, 110, 101, 119]⟩, .slice A1 2 c1] _ _ rfl) (by intro u hu; simp only [List.mem_cons, List.not_mem_nil, or_false] at hu; rcases hu with rfl | rfl | rfl <;> rfl) (by simp only [maxLen]; omega) (by omega) (by simp; omega) ?_; intro v1 w5 hown1 hg1 _; have HO6 := Lib.hid hown1; have HG6 := Lib.hid hg1; clear hown1 hg1)
              go_roundw
              case rel =>
                have hkind := Lib.ownsRow_kind (World.ownsRow.alloc HO5.out (.cells #[.int .i64 rs[j].day, .string ⟨#[97, 110, 101, 119]⟩, .slice A1 2 c1] 59))
                refine ⟨?_, Settle.step rate S rs[j].key, j + 1, es ++ [⟨rs[j].day, linesOf D (PV), A1, c1⟩], by rw [step_right, ← HN.out], by rw [HD3.out] <;> simp, by simp, by omega, HSt2.out, HF2.out, ?_, ?_, ?_⟩
                · exact (HBT2.out.alloc hsz _).grown HG6.out (by simp; omega) (fun g hg => (HO5.out.lt g hg).1)
                · show _ = _
                  rw [HES.out, List.map_append, HK.out]
                  rfl
                · have ho := HO6.out
                  show World.ownsRow _ _ _ _ _ _ _
                  simpa [List.flatMap_append, enCells, HLN.out.1] using ho
                · intro e he
                  have hls : 2 ≤ c1 := by
                    obtain ⟨_, _, e1, h2, _⟩ := own_slice HO1.out
                    injection e1 with _ _ e3
                    omega
                  rcases List.mem_append.1 he with he | he
                  · exact ⟨(((HL.out e he).1.ext HBW.out).ext (ext_alloc X1 _)).grown HG6.out hkind (by decide), (HL.out e he).2⟩
                  · rw [List.mem_singleton] at he
                    subst he
                    refine ⟨?_, by show (linesOf D (PV)).length ≤ c1; rw [HLN.out.1]; exact hls⟩
                    show RdK _ _ A1 ((linesOf D (PV)).flatMap liCells)
                    rw [HLN.out.2]
                    exact ((RdK.of_own HO1.out).ext (ext_alloc X1 _)).grown HG6.out hkind (by decide)
              case measure => simp [intOf]; omega
            by_cases hq : PV = 0
            · have HP := Lib.hid hp
              have HQ := Lib.hid hq
              have hp1 : (D - PV != 0) = true := by simp; omega
              have hq1 : (PV != 0) = false := by simp; omega
              clear hp hq
              go_upto_region 33 with (at_builtin; go_loud (refine wpList_append_own _ rfl (.tmp 93) (.tmp 98) _ rfl w2.heap.size 128 l0 _ 2 24 Tryd.underlying57 LI.out LZ0.out LZ1.out LZ2.out rfl (by omega) _ 1 _ rfl (World.ownsRow.alloc HO0.out _) ⟨X0.heap.size, 0, none⟩ 1 1 [.string ⟨#[112, 97, 105, 100]⟩, .int .i64 (D - PV)] rfl rfl (new_cells X0 [.string ⟨#[112, 97, 105, 100]⟩, .int .i64 (D - PV)] _ _ rfl) (by intro u hu; simp only [List.mem_cons, List.not_mem_nil, or_false] at hu; rcases hu with rfl | rfl <;> rfl) (by simp only [maxLen]; omega) (by omega) (by have := HBx0.out.size; simp; omega) ?_; intro v1 w3 hown1 hg1 _; obtain ⟨A1, c1, hv1, _⟩ := own_slice hown1; subst hv1; obtain ⟨p1, p2, p3, p4⟩ := put_after HO0.out HX0.out HBx0.out (by omega) hown1 hg1; have HX1 := Lib.hid p2; have HO1 := Lib.hid p3; have HBx1 := Lib.hid p4; have z1 := p1.cell 2 rfl; have z2 := p1.free 2; clear hown1 hg1 p1 p2 p3 p4))
              obtain ⟨X1, hX⟩ : ∃ X, X = w3.setCell ⟨w2.heap.size + 1, 2, none⟩ (.slice A1 2 c1) := ⟨_, rfl⟩
              rw [← hX]
              have HO1 := Lib.hid (show X1.ownsRow w2.heap.size 128 2 (.slice A1 2 c1) 2 _ from hX ▸ HO1.out)
              have HX1 := Lib.hid (show Blk X1 (w2.heap.size + 1) 59 [.int .i64 rs[j].day, .string ⟨#[97, 110, 101, 119]⟩, .slice A1 2 c1] from hX ▸ HX1.out)
              have HBx1 := Lib.hid (show Below w2.heap.size w2 X1 from hX ▸ HBx1.out)
              clear hX z1 z2
              have z2 := HX1.out.cell 2 rfl
              have y0 := HX1.out.cell 0 rfl
              have y1 := HX1.out.cell 1 rfl
              have HBW := Lib.hid (ext_trans HB2.out HBx1.out)
              have HBT2 := Lib.hid (ext_trans HBr.out HBW.out)
              have HO5 := Lib.hid (own_ext HO.out HBW.out)
              have hel4 : es.length ≤ 400 := by have := HEL.out; omega
              have hsz : w1.heap.size ≤ X1.heap.size := HBT2.out.size
              have HLN := Lib.hid (show (linesOf D (PV)).length = 2 ∧ (linesOf D (PV)).flatMap liCells = [.string ⟨#[114, 105, 103, 104, 116, 115]⟩, .int .i64 (-D), .string ⟨#[112, 97, 105, 100]⟩, .int .i64 (D - PV)] from by unfold linesOf; rw [if_neg hz, if_pos ⟨hpos, HP.out⟩, if_pos HQ.out]; exact ⟨rfl, rfl⟩)
              go_wp2_with (at_builtin; refine wpList_append_own _ rfl (.tmp 110) (.tmp 112) _ rfl w1.heap.size 59 i0 _ 3 48 Tryd.underlying49 HI.out HZ0.out HZ1.out HZ2.out rfl (by omega) u7 es.length _ rfl (World.ownsRow.alloc HO5.out _) ⟨X1.heap.size, 0, none⟩ 1 1 [.int .i64 rs[j].day, .string ⟨#[97, 110, 101, 119]⟩, .slice A1 2 c1] rfl rfl (new_cells X1 [.int .i64 rs[j].day, .string ⟨#[97, 110, 101, 119]⟩, .slice A1 2 c1] _ _ rfl) (by intro u hu; simp only [List.mem_cons, List.not_mem_nil, or_false] at hu; rcases hu with rfl | rfl | rfl <;> rfl) (by simp only [maxLen]; omega) (by omega) (by simp; omega) ?_; intro v1 w5 hown1 hg1 _; have HO6 := Lib.hid hown1; have HG6 := Lib.hid hg1; clear hown1 hg1)
              go_roundw
              case rel =>
                have hkind := Lib.ownsRow_kind (World.ownsRow.alloc HO5.out (.cells #[.int .i64 rs[j].day, .string ⟨#[97, 110, 101, 119]⟩, .slice A1 2 c1] 59))
                refine ⟨?_, Settle.step rate S rs[j].key, j + 1, es ++ [⟨rs[j].day, linesOf D (PV), A1, c1⟩], by rw [step_right, ← HN.out], by rw [HD3.out] <;> simp, by simp, by omega, HSt2.out, HF2.out, ?_, ?_, ?_⟩
                · exact (HBT2.out.alloc hsz _).grown HG6.out (by simp; omega) (fun g hg => (HO5.out.lt g hg).1)
                · show _ = _
                  rw [HES.out, List.map_append, HK.out]
                  rfl
                · have ho := HO6.out
                  show World.ownsRow _ _ _ _ _ _ _
                  simpa [List.flatMap_append, enCells, HLN.out.1] using ho
                · intro e he
                  have hls : 2 ≤ c1 := by
                    obtain ⟨_, _, e1, h2, _⟩ := own_slice HO1.out
                    injection e1 with _ _ e3
                    omega
                  rcases List.mem_append.1 he with he | he
                  · exact ⟨(((HL.out e he).1.ext HBW.out).ext (ext_alloc X1 _)).grown HG6.out hkind (by decide), (HL.out e he).2⟩
                  · rw [List.mem_singleton] at he
                    subst he
                    refine ⟨?_, by show (linesOf D (PV)).length ≤ c1; rw [HLN.out.1]; exact hls⟩
                    show RdK _ _ A1 ((linesOf D (PV)).flatMap liCells)
                    rw [HLN.out.2]
                    exact ((RdK.of_own HO1.out).ext (ext_alloc X1 _)).grown HG6.out hkind (by decide)
              case measure => simp [intOf]; omega
            have HP := Lib.hid hp
            have HQ := Lib.hid hq
            have hp1 : (D - PV != 0) = true := by simp; omega
            have hq1 : (PV != 0) = true := by simp; omega
            clear hp hq
            go_upto_region 31 with (at_builtin; go_loud (refine wpList_append_own _ rfl (.tmp 93) (.tmp 98) _ rfl w2.heap.size 128 l0 _ 2 24 Tryd.underlying57 LI.out LZ0.out LZ1.out LZ2.out rfl (by omega) _ 1 _ rfl (World.ownsRow.alloc HO0.out _) ⟨X0.heap.size, 0, none⟩ 1 1 [.string ⟨#[112, 97, 105, 100]⟩, .int .i64 (D - PV)] rfl rfl (new_cells X0 [.string ⟨#[112, 97, 105, 100]⟩, .int .i64 (D - PV)] _ _ rfl) (by intro u hu; simp only [List.mem_cons, List.not_mem_nil, or_false] at hu; rcases hu with rfl | rfl <;> rfl) (by simp only [maxLen]; omega) (by omega) (by have := HBx0.out.size; simp; omega) ?_; intro v1 w3 hown1 hg1 _; obtain ⟨A1, c1, hv1, _⟩ := own_slice hown1; subst hv1; obtain ⟨p1, p2, p3, p4⟩ := put_after HO0.out HX0.out HBx0.out (by omega) hown1 hg1; have HX1 := Lib.hid p2; have HO1 := Lib.hid p3; have HBx1 := Lib.hid p4; have z1 := p1.cell 2 rfl; have z2 := p1.free 2; clear hown1 hg1 p1 p2 p3 p4))
            obtain ⟨X1, hX⟩ : ∃ X, X = w3.setCell ⟨w2.heap.size + 1, 2, none⟩ (.slice A1 2 c1) := ⟨_, rfl⟩
            rw [← hX]
            have HO1 := Lib.hid (show X1.ownsRow w2.heap.size 128 2 (.slice A1 2 c1) 2 _ from hX ▸ HO1.out)
            have HX1 := Lib.hid (show Blk X1 (w2.heap.size + 1) 59 [.int .i64 rs[j].day, .string ⟨#[97, 110, 101, 119]⟩, .slice A1 2 c1] from hX ▸ HX1.out)
            have HBx1 := Lib.hid (show Below w2.heap.size w2 X1 from hX ▸ HBx1.out)
            clear hX z1 z2
            have z2 := HX1.out.cell 2 rfl
            go_upto_region 33 with (at_builtin; go_loud (refine wpList_append_own _ rfl (.tmp 104) (.tmp 107) _ rfl w2.heap.size 128 l0 _ 2 24 Tryd.underlying57 LI.out LZ0.out LZ1.out LZ2.out rfl (by omega) _ 2 _ rfl (World.ownsRow.alloc HO1.out _) ⟨X1.heap.size, 0, none⟩ 1 1 [.string ⟨#[100, 101, 98, 116, 115]⟩, .int .i64 (PV)] rfl rfl (new_cells X1 [.string ⟨#[100, 101, 98, 116, 115]⟩, .int .i64 (PV)] _ _ rfl) (by intro u hu; simp only [List.mem_cons, List.not_mem_nil, or_false] at hu; rcases hu with rfl | rfl <;> rfl) (by simp only [maxLen]; omega) (by omega) (by have := HBx1.out.size; simp; omega) ?_; intro v1 w3 hown1 hg1 _; obtain ⟨A1, c1, hv1, _⟩ := own_slice hown1; subst hv1; obtain ⟨p1, p2, p3, p4⟩ := put_after HO1.out HX1.out HBx1.out (by omega) hown1 hg1; have HX2 := Lib.hid p2; have HO2 := Lib.hid p3; have HBx2 := Lib.hid p4; have z1 := p1.cell 2 rfl; have z2 := p1.free 2; clear hown1 hg1 p1 p2 p3 p4))
            obtain ⟨X2, hX⟩ : ∃ X, X = w3.setCell ⟨w2.heap.size + 1, 2, none⟩ (.slice A1 3 c1) := ⟨_, rfl⟩
            rw [← hX]
            have HO2 := Lib.hid (show X2.ownsRow w2.heap.size 128 2 (.slice A1 3 c1) 3 _ from hX ▸ HO2.out)
            have HX2 := Lib.hid (show Blk X2 (w2.heap.size + 1) 59 [.int .i64 rs[j].day, .string ⟨#[97, 110, 101, 119]⟩, .slice A1 3 c1] from hX ▸ HX2.out)
            have HBx2 := Lib.hid (show Below w2.heap.size w2 X2 from hX ▸ HBx2.out)
            clear hX z1 z2
            have z2 := HX2.out.cell 2 rfl
            have y0 := HX2.out.cell 0 rfl
            have y1 := HX2.out.cell 1 rfl
            have HBW := Lib.hid (ext_trans HB2.out HBx2.out)
            have HBT2 := Lib.hid (ext_trans HBr.out HBW.out)
            have HO5 := Lib.hid (own_ext HO.out HBW.out)
            have hel4 : es.length ≤ 400 := by have := HEL.out; omega
            have hsz : w1.heap.size ≤ X2.heap.size := HBT2.out.size
            have HLN := Lib.hid (show (linesOf D (PV)).length = 3 ∧ (linesOf D (PV)).flatMap liCells = [.string ⟨#[114, 105, 103, 104, 116, 115]⟩, .int .i64 (-D), .string ⟨#[112, 97, 105, 100]⟩, .int .i64 (D - PV), .string ⟨#[100, 101, 98, 116, 115]⟩, .int .i64 (PV)] from by unfold linesOf; rw [if_neg hz, if_pos ⟨hpos, HP.out⟩, if_neg HQ.out]; exact ⟨rfl, rfl⟩)
            go_wp2_with (at_builtin; refine wpList_append_own _ rfl (.tmp 110) (.tmp 112) _ rfl w1.heap.size 59 i0 _ 3 48 Tryd.underlying49 HI.out HZ0.out HZ1.out HZ2.out rfl (by omega) u7 es.length _ rfl (World.ownsRow.alloc HO5.out _) ⟨X2.heap.size, 0, none⟩ 1 1 [.int .i64 rs[j].day, .string ⟨#[97, 110, 101, 119]⟩, .slice A1 3 c1] rfl rfl (new_cells X2 [.int .i64 rs[j].day, .string ⟨#[97, 110, 101, 119]⟩, .slice A1 3 c1] _ _ rfl) (by intro u hu; simp only [List.mem_cons, List.not_mem_nil, or_false] at hu; rcases hu with rfl | rfl | rfl <;> rfl) (by simp only [maxLen]; omega) (by omega) (by simp; omega) ?_; intro v1 w5 hown1 hg1 _; have HO6 := Lib.hid hown1; have HG6 := Lib.hid hg1; clear hown1 hg1)
            go_roundw
            case rel =>
              have hkind := Lib.ownsRow_kind (World.ownsRow.alloc HO5.out (.cells #[.int .i64 rs[j].day, .string ⟨#[97, 110, 101, 119]⟩, .slice A1 3 c1] 59))
              refine ⟨?_, Settle.step rate S rs[j].key, j + 1, es ++ [⟨rs[j].day, linesOf D (PV), A1, c1⟩], by rw [step_right, ← HN.out], by rw [HD3.out] <;> simp, by simp, by omega, HSt2.out, HF2.out, ?_, ?_, ?_⟩
              · exact (HBT2.out.alloc hsz _).grown HG6.out (by simp; omega) (fun g hg => (HO5.out.lt g hg).1)
              · show _ = _
                rw [HES.out, List.map_append, HK.out]
                rfl
              · have ho := HO6.out
                show World.ownsRow _ _ _ _ _ _ _
                simpa [List.flatMap_append, enCells, HLN.out.1] using ho
              · intro e he
                have hls : 3 ≤ c1 := by
                  obtain ⟨_, _, e1, h2, _⟩ := own_slice HO2.out
                  injection e1 with _ _ e3
                  omega
                rcases List.mem_append.1 he with he | he
                · exact ⟨(((HL.out e he).1.ext HBW.out).ext (ext_alloc X2 _)).grown HG6.out hkind (by decide), (HL.out e he).2⟩
                · rw [List.mem_singleton] at he
                  subst he
                  refine ⟨?_, by show (linesOf D (PV)).length ≤ c1; rw [HLN.out.1]; exact hls⟩
                  show RdK _ _ A1 ((linesOf D (PV)).flatMap liCells)
                  rw [HLN.out.2]
                  exact ((RdK.of_own HO2.out).ext (ext_alloc X2 _)).grown HG6.out hkind (by decide)
            case measure => simp [intOf]; omega
        · have HOFF := Lib.hid (show offOf rate S.debt D = D from by unfold offOf; rw [if_neg hpos])
          have HD3 := Lib.hid (show (Settle.step rate S rs[j].key).debt = S.debt - D by rw [step_debt, ← HN.out, Int.add_sub_cancel, HOFF.out])
          have HP4 := Lib.hid (show (Settle.step rate S rs[j].key).paid = D + S.right + (S.debt - D) by rw [(step_inv rate HS.out.r0 HINV.out rs[j].key).paid, HD3.out, step_right, ← HN.out])
          have hW := off_bd rate S.debt D HS.out.r0 sd0
          rw [HOFF.out] at hW
          obtain ⟨hw1, hw2, hw3⟩ := hW
          have hw4 : 0 ≤ S.debt - D := by omega
          have hw5 : S.debt - D ≤ 2000000000000 := by omega
          clear hw2 hw3
          go_wp2_with fail
          refine (small_g _ _).mono ?_
          rintro e w' ⟨g3, rfl, rfl, hg⟩
          have HG3 := Lib.hid (show g3 = true ↔ G (S.debt - D) by rw [hg]; unfold G; omega)
          clear hg
          go_wp2_with fail
          refine (small_g _ _).mono ?_
          rintro e w' ⟨g4, rfl, rfl, hg⟩
          have HG4 := Lib.hid (show g4 = true ↔ G (D + S.right + (S.debt - D)) by rw [hg]; unfold G; omega)
          clear hg
          cases g3
          · go_wp2_with fail
            go_ret2
            exact HBad.out (fun h => by
              have := h.2.2.1
              rw [HSR.out, HD3.out] at this
              simpa using HG3.out.2 this) _ (Below.refl _ _)
          cases g4
          · go_wp2_with fail
            go_ret2
            exact HBad.out (fun h => by
              have := h.2.2.2
              rw [HSR.out, HP4.out] at this
              simpa using HG4.out.2 this) _ (Below.refl _ _)
          have HFj := Lib.hid (show Fits rate (run rate ((rs.map Cl.key).take j)) rs[j].key by
            rw [HSR.out]
            exact ⟨by rw [← HN.out]; exact ⟨n1, n2⟩, by rw [← HN.out, Int.add_sub_cancel]; exact ⟨d1, d2⟩, by rw [HD3.out]; exact HG3.out.1 (by simp), by rw [HP4.out]; exact HG4.out.1 (by simp)⟩)
          have HSt2 := Lib.hid (show Settle.step rate S rs[j].key = run rate ((rs.map Cl.key).take (j + 1)) by
            rw [run_take rate _ j (by rw [List.length_map]; exact hlt), List.getElem_map, HSR.out])
          have HF2 := Lib.hid (show ∀ i (hi : i < rs.length), i < j + 1 → Fits rate (run rate ((rs.map Cl.key).take i)) rs[i].key from fun i hi hij => by
            by_cases e : i = j
            · subst e; exact HFj.out
            · exact HF.out i hi (by omega))
          by_cases hz : D = 0
          · have HES := Lib.hid (show (Settle.step rate S rs[j].key).es = S.es by unfold Settle.step; simp only [← HN.out, Int.add_sub_cancel]; rw [if_pos hz])
            have hz1 : (D == 0) = true := by simp [hz]
            clear hz
            go_wp2_with fail
            go_roundw
            case rel =>
              refine ⟨HBT.out, Settle.step rate S rs[j].key, j + 1, es, by rw [step_right, ← HN.out], by rw [HD3.out], by simp, by omega, HSt2.out, HF2.out, ?_, own_ext HO.out HB2.out, fun e he => ⟨(HL.out e he).1.ext HB2.out, (HL.out e he).2⟩⟩
              show _ = _
              rw [HES.out]; exact HK.out
            case measure => simp [intOf]; omega
          have hz1 : (D == 0) = false := by simp [hz]
          have HES := Lib.hid (show (Settle.step rate S rs[j].key).es = S.es ++ [(rs[j].day, linesOf D (D))] by unfold Settle.step; simp only [← HN.out, Int.add_sub_cancel, HOFF.out]; rw [if_neg hz]; rfl)
          obtain ⟨b5, o5, hbo, r0, r1⟩ := (HR2.out.ext HB2.out).row hlt
          cases hbo
          have HO0 := Lib.hid (show ((w2.alloc (.cells #[.string ⟨#[114, 105, 103, 104, 116, 115]⟩, .int .i64 (-D)] 128)).alloc (.cells #[.int .i64 rs[j].day, .string ⟨#[97, 110, 101, 119]⟩, .slice (some ⟨w2.heap.size, 0, none⟩) 1 1] 59)).ownsRow w2.heap.size 128 2 (.slice (some ⟨w2.heap.size, 0, none⟩) 1 1) 1 [.string ⟨#[114, 105, 103, 104, 116, 115]⟩, .int .i64 (-D)] from (World.ownsRow_lit w2 #[.string ⟨#[114, 105, 103, 104, 116, 115]⟩, .int .i64 (-D)] 1 (Nat.le_refl _) (by simp [maxLen]) rfl).alloc _)
          have HX0 := Lib.hid (show Blk ((w2.alloc (.cells #[.string ⟨#[114, 105, 103, 104, 116, 115]⟩, .int .i64 (-D)] 128)).alloc (.cells #[.int .i64 rs[j].day, .string ⟨#[97, 110, 101, 119]⟩, .slice (some ⟨w2.heap.size, 0, none⟩) 1 1] 59)) (w2.heap.size + 1) 59 [.int .i64 rs[j].day, .string ⟨#[97, 110, 101, 119]⟩, .slice (some ⟨w2.heap.size, 0, none⟩) 1 1] by
            have := Blk.new (w2.alloc (.cells #[.string ⟨#[114, 105, 103, 104, 116, 115]⟩, .int .i64 (-D)] 128)) 59 [.int .i64 rs[j].day, .string ⟨#[97, 110, 101, 119]⟩, .slice (some ⟨w2.heap.size, 0, none⟩) 1 1]
            simpa using this)
          have HBx0 := Lib.hid (ext_trans (ext_alloc w2 (.cells #[.string ⟨#[114, 105, 103, 104, 116, 115]⟩, .int .i64 (-D)] 128)) (ext_alloc _ (.cells #[.int .i64 rs[j].day, .string ⟨#[97, 110, 101, 119]⟩, .slice (some ⟨w2.heap.size, 0, none⟩) 1 1] 59)))
          go_upto_region 29 with fail
          obtain ⟨X0, hX⟩ : ∃ X, X = ((w2.alloc (.cells #[.string ⟨#[114, 105, 103, 104, 116, 115]⟩, .int .i64 (-D)] 128)).alloc (.cells #[.int .i64 rs[j].day, .string ⟨#[97, 110, 101, 119]⟩, .slice (some ⟨w2.heap.size, 0, none⟩) 1 1] 59)) := ⟨_, rfl⟩
          rw [← hX] at HO0 HX0 HBx0 ⊢
          clear hX r0 r1 hz1
          have z2 := HX0.out.cell 2 rfl
          have hq : (D != 0) = true := by simp [hz]
          go_upto_region 33 with (at_builtin; go_loud (refine wpList_append_own _ rfl (.tmp 104) (.tmp 107) _ rfl w2.heap.size 128 l0 _ 2 24 Tryd.underlying57 LI.out LZ0.out LZ1.out LZ2.out rfl (by omega) _ 1 _ rfl (World.ownsRow.alloc HO0.out _) ⟨X0.heap.size, 0, none⟩ 1 1 [.string ⟨#[100, 101, 98, 116, 115]⟩, .int .i64 (D)] rfl rfl (new_cells X0 [.string ⟨#[100, 101, 98, 116, 115]⟩, .int .i64 (D)] _ _ rfl) (by intro u hu; simp only [List.mem_cons, List.not_mem_nil, or_false] at hu; rcases hu with rfl | rfl <;> rfl) (by simp only [maxLen]; omega) (by omega) (by have := HBx0.out.size; simp; omega) ?_; intro v1 w3 hown1 hg1 _; obtain ⟨A1, c1, hv1, _⟩ := own_slice hown1; subst hv1; obtain ⟨p1, p2, p3, p4⟩ := put_after HO0.out HX0.out HBx0.out (by omega) hown1 hg1; have HX1 := Lib.hid p2; have HO1 := Lib.hid p3; have HBx1 := Lib.hid p4; have z1 := p1.cell 2 rfl; have z2 := p1.free 2; clear hown1 hg1 p1 p2 p3 p4))
          obtain ⟨X1, hX⟩ : ∃ X, X = w3.setCell ⟨w2.heap.size + 1, 2, none⟩ (.slice A1 2 c1) := ⟨_, rfl⟩
          rw [← hX]
          have HO1 := Lib.hid (show X1.ownsRow w2.heap.size 128 2 (.slice A1 2 c1) 2 _ from hX ▸ HO1.out)
          have HX1 := Lib.hid (show Blk X1 (w2.heap.size + 1) 59 [.int .i64 rs[j].day, .string ⟨#[97, 110, 101, 119]⟩, .slice A1 2 c1] from hX ▸ HX1.out)
          have HBx1 := Lib.hid (show Below w2.heap.size w2 X1 from hX ▸ HBx1.out)
          clear hX z1 z2
          have z2 := HX1.out.cell 2 rfl
          have y0 := HX1.out.cell 0 rfl
          have y1 := HX1.out.cell 1 rfl
          have HBW := Lib.hid (ext_trans HB2.out HBx1.out)
          have HBT2 := Lib.hid (ext_trans HBr.out HBW.out)
          have HO5 := Lib.hid (own_ext HO.out HBW.out)
          have hel4 : es.length ≤ 400 := by have := HEL.out; omega
          have hsz : w1.heap.size ≤ X1.heap.size := HBT2.out.size
          have HLN := Lib.hid (show (linesOf D (D)).length = 2 ∧ (linesOf D (D)).flatMap liCells = [.string ⟨#[114, 105, 103, 104, 116, 115]⟩, .int .i64 (-D), .string ⟨#[100, 101, 98, 116, 115]⟩, .int .i64 (D)] from by unfold linesOf; rw [if_neg hz, if_neg (show ¬ (0 < D ∧ D - D ≠ 0) by omega), if_neg hz]; exact ⟨rfl, rfl⟩)
          go_wp2_with (at_builtin; refine wpList_append_own _ rfl (.tmp 110) (.tmp 112) _ rfl w1.heap.size 59 i0 _ 3 48 Tryd.underlying49 HI.out HZ0.out HZ1.out HZ2.out rfl (by omega) u7 es.length _ rfl (World.ownsRow.alloc HO5.out _) ⟨X1.heap.size, 0, none⟩ 1 1 [.int .i64 rs[j].day, .string ⟨#[97, 110, 101, 119]⟩, .slice A1 2 c1] rfl rfl (new_cells X1 [.int .i64 rs[j].day, .string ⟨#[97, 110, 101, 119]⟩, .slice A1 2 c1] _ _ rfl) (by intro u hu; simp only [List.mem_cons, List.not_mem_nil, or_false] at hu; rcases hu with rfl | rfl | rfl <;> rfl) (by simp only [maxLen]; omega) (by omega) (by simp; omega) ?_; intro v1 w5 hown1 hg1 _; have HO6 := Lib.hid hown1; have HG6 := Lib.hid hg1; clear hown1 hg1)
          go_roundw
          case rel =>
            have hkind := Lib.ownsRow_kind (World.ownsRow.alloc HO5.out (.cells #[.int .i64 rs[j].day, .string ⟨#[97, 110, 101, 119]⟩, .slice A1 2 c1] 59))
            refine ⟨?_, Settle.step rate S rs[j].key, j + 1, es ++ [⟨rs[j].day, linesOf D (D), A1, c1⟩], by rw [step_right, ← HN.out], by rw [HD3.out] <;> simp, by simp, by omega, HSt2.out, HF2.out, ?_, ?_, ?_⟩
            · exact (HBT2.out.alloc hsz _).grown HG6.out (by simp; omega) (fun g hg => (HO5.out.lt g hg).1)
            · show _ = _
              rw [HES.out, List.map_append, HK.out]
              rfl
            · have ho := HO6.out
              show World.ownsRow _ _ _ _ _ _ _
              simpa [List.flatMap_append, enCells, HLN.out.1] using ho
            · intro e he
              have hls : 2 ≤ c1 := by
                obtain ⟨_, _, e1, h2, _⟩ := own_slice HO1.out
                injection e1 with _ _ e3
                omega
              rcases List.mem_append.1 he with he | he
              · exact ⟨(((HL.out e he).1.ext HBW.out).ext (ext_alloc X1 _)).grown HG6.out hkind (by decide), (HL.out e he).2⟩
              · rw [List.mem_singleton] at he
                subst he
                refine ⟨?_, by show (linesOf D (D)).length ≤ c1; rw [HLN.out.1]; exact hls⟩
                show RdK _ _ A1 ((linesOf D (D)).flatMap liCells)
                rw [HLN.out.2]
                exact ((RdK.of_own HO1.out).ext (ext_alloc X1 _)).grown HG6.out hkind (by decide)
          case measure => simp [intOf]; omega
      · have hcl : ¬ (j : Int) < rs.length := by omega
        have hj2 : j = rs.length := by omega
        subst hj2
        obtain ⟨A', c', rfl, hle, _⟩ := own_slice HO.out
        go_wp2_with fail
        go_ret2
        refine HV.out _ _ (.inr ⟨fun i hi => HF.out i hi hi, A', c', es, rfl, ?_, ⟨Rd.of_own HO.out, fun e he => (HL.out e he).1.rd, fun e he => (HL.out e he).2⟩, hle⟩) (ext_trans HB.out HBr.out)
        rw [HK.out, HSt.out, List.take_of_length_le (by simp)]
end Go.Proofs.YtjnkcpeicocjhaaDoor.RSettle

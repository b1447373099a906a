/- Laws as texts: the program's reader: a row. -/
import Derived.Test.YtflklbhgjfonbaaGreatDoorScQ
import Derived.Test.YtflklbhgjfonbaaGreatDoorScP
import Derived.Deep.DeepCutAuto
import Derived.Deep.RegionHeld3
import Derived.Deep.DrawnRows
namespace Go.Proofs.YtflklbhgjfonbaaGreatDoor.Sc
open Go.RowKit Mem Nest Fk Err Lk Gp
attribute [local go_sem ↓] Go.wp_at_zero Go.wp_at_succ

theorem cut_key {P G : Prop} (h1 : G → P) (h2 : G) : P := h1 h2
theorem set_comm4 {w : World} {a b0 b1 b2 b3 : Addr} {u v0 v1 v2 v3 : Value} (h0 : a.block ≠ b0.block) (h1 : a.block ≠ b1.block) (h2 : a.block ≠ b2.block) (h3 : a.block ≠ b3.block) :
    ((((w.setCell a u).setCell b0 v0).setCell b1 v1).setCell b2 v2).setCell b3 v3 = ((((w.setCell b0 v0).setCell b1 v1).setCell b2 v2).setCell b3 v3).setCell a u := by
  rw [set_comm h0, set_comm h1, set_comm h2, set_comm h3]
theorem ptr_infoR : (Tryz.prog.info? 58).map (fun i => (i.zero, i.size, i.bytes)) = some (some (.pointer none), 1, 8) := by kernel_rfl
theorem own_cutp {B : Nat} {w : World} {T : TypeId} {g n c : Nat} {xs : List Value} (h : w.ownsRow B T 1 (.slice (some ⟨g, 0, none⟩) n c) n xs) {q : Nat} (hq : q ≤ n) : w.ownsRow B T 1 (.slice (some ⟨g, 0, none⟩) q c) q (xs.take q) := by
  have hxs := h.1
  rcases h.2 with ⟨h0, _⟩ | ⟨g', cap, cur, hv, hg, hh, hn, hcap, hsz, htake⟩
  · cases h0
  · simp only [Value.slice.injEq, Option.some.injEq, Addr.mk.injEq] at hv
    obtain ⟨⟨rfl, _⟩, _, rfl⟩ := hv
    refine ⟨?_, .inr ⟨g, c, cur, rfl, hg, hh, by omega, hcap, hsz, ?_⟩⟩
    · rw [List.length_take]
      omega
    · rw [← htake, List.take_take]
      congr 1
      omega
theorem own_cap {B : Nat} {w : World} {T : TypeId} {g n c : Nat} {xs : List Value} (h : w.ownsRow B T 1 (.slice (some ⟨g, 0, none⟩) n c) n xs) : n ≤ c ∧ c ≤ maxLen := by
  rcases h.2 with ⟨h0, _⟩ | ⟨g', cap, cur, hv, _, _, h1, h2, _⟩
  · cases h0
  · simp only [Value.slice.injEq] at hv
    obtain ⟨_, _, rfl⟩ := hv
    exact ⟨h1, h2⟩
set_option maxRecDepth 100000 in
set_option maxHeartbeats 4000000 in
theorem prow (E : Nat → Addr) (B : Nat) (col : Nat → Nat) (rb L0 n m : Nat) (lv : Nat → Lv) (s : Tx) (hs : s.length ≤ 100000) (w : World) (hE : Errs w E) (hB : B ≤ w.heap.size) (h : Rdr B col w rb L0 n m lv) :
    Calls Tryz.prog 19 #[.pointer (some ⟨rb, 0, none⟩), .string ⟨s.toArray⟩] w (RowP E B col rb L0 n m lv s w) := by
  have HE := Lib.hid hE
  have H := Lib.hid h
  have hn6 := h.n6
  obtain ⟨pg, pc, r0, r1, hp⟩ := h.ptr
  have HP := Lib.hid hp
  clear hE h hp
  obtain ⟨pr, hpr⟩ : ∃ pr, pr = prnB s := ⟨_, rfl⟩
  have HPr := Lib.hid (show Calls Tryz.prog 21 #[.string ⟨s.toArray⟩] w (RetB pr w) from by rw [hpr]; exact pprinted_any s (by omega) w)
  have HPe := Lib.hid hpr
  clear hpr
  have HT := Lib.hid ((Tryz.strings_TrimLeft_one ⟨s.toArray⟩ 32 (by decide) w).mono fun e w' h => (show e = .returned (.string ⟨(bodyF s).toArray⟩) ∧ w = w' from ⟨h.1, h.2.symm⟩))
  obtain ⟨bd, hbd⟩ : ∃ bd, bd = bodyF s := ⟨_, rfl⟩
  obtain ⟨ld, hld⟩ : ∃ ld, ld = leadF s := ⟨_, rfl⟩
  have hlb := lead_body s
  rw [← hbd, ← hld] at hlb
  rw [← hbd] at HT
  have HBd := Lib.hid hbd
  have HLd := Lib.hid hld
  clear hbd hld
  go_enter Tryz.func19, Tryz.ntmps19
  go_wp2_with fail
  refine HPr.out.mono ?_
  rintro e w' ⟨rfl, rfl⟩
  cases pr with
  | false =>
    have v0 := HE.out.v0
    unfold sentV at v0
    have HF := Lib.hid (show rowF ⟨treeL lv n 0, n, m⟩ s = (1, ⟨treeL lv n 0, n, m⟩) from by unfold rowF; rw [if_pos HPe.out.symm])
    go_wp2_with fail
    go_ret
    exact rowp_bad 1 _ rfl HF.out (by omega) (Below.refl _ _)
  | true =>
    go_wp2_with fail
    refine HT.out.mono ?_
    rintro e w' ⟨rfl, rfl⟩
    have hll : (s.length : Int) - (bd.length : Int) = (ld : Int) := by omega
    have hl1 : (ld : Int) ≤ 100000 := by omega
    have hl0 : (0 : Int) ≤ (bd.length : Int) := by omega
    have hl2 : (bd.length : Int) ≤ 100000 := by omega
    obtain ⟨dp, hdp⟩ : ∃ dp, dp = ld / 2 := ⟨_, rfl⟩
    have hq1 : Int.tdiv (ld : Int) 2 = (dp : Int) := by rw [hdp]; rfl
    obtain ⟨md, hmd⟩ : ∃ md, md = ld % 2 := ⟨_, rfl⟩
    have hq2 : Int.tmod (ld : Int) 2 = (md : Int) := by rw [hmd]; rfl
    have HDp := Lib.hid hdp
    have HMd := Lib.hid hmd
    have hdb : (dp : Int) ≤ 100000 := by omega
    have hdb0 : (0 : Int) ≤ (dp : Int) := by omega
    clear hdp hmd
    by_cases g1 : md = 1
    · have g1' : ((md : Int) == 1) = true := by rw [g1]; rfl
      have v0 := HE.out.v0
      unfold sentV at v0
      have HF := Lib.hid (show rowF ⟨treeL lv n 0, n, m⟩ s = (1, ⟨treeL lv n 0, n, m⟩) from row_deep HPe.out.symm (.inl (by rw [← HLd.out, ← HMd.out]; exact g1)))
      clear g1
      go_wp2_with fail
      go_ret
      exact rowp_bad 1 _ rfl HF.out (by omega) (Below.refl _ _)
    have g1' : ((md : Int) == 1) = false := by rw [beq_eq_false_iff_ne]; omega
    by_cases g2 : n < dp
    · have g2' : ((n : Int) + 1) ≤ (dp : Int) := by omega
      have v0 := HE.out.v0
      unfold sentV at v0
      have HF := Lib.hid (show rowF ⟨treeL lv n 0, n, m⟩ s = (1, ⟨treeL lv n 0, n, m⟩) from row_deep HPe.out.symm (.inr (by rw [← HLd.out, ← HDp.out]; exact g2)))
      clear g1 g2
      go_wp2_with fail
      go_ret
      exact rowp_bad 1 _ rfl HF.out (by omega) (Below.refl _ _)
    have g2' : ¬ ((n : Int) + 1) ≤ (dp : Int) := by omega
    have hdn : dp ≤ n := by omega
    have HOk := Lib.hid (show ¬ (leadF s % 2 = 1 ∨ n < leadF s / 2) from by rw [← HLd.out, ← HMd.out, ← HDp.out]; omega)
    clear g1 g2
    have HCp := Lib.hid ((Tryz.strings_CutPrefix ⟨bd.toArray⟩ ⟨#[124]⟩ w).mono fun e w' h => (show e = .returned (.tuple #[.string ⟨(Lib.trimPrefix bd [124]).toArray⟩, .bool (Lib.hasPrefix bd [124])]) ∧ w = w' from ⟨h.1, h.2.symm⟩))
    obtain ⟨b, hb⟩ : ∃ b, b = Lib.trimPrefix bd [124] := ⟨_, rfl⟩
    obtain ⟨hx, hhx⟩ : ∃ hx, hx = Lib.hasPrefix bd [124] := ⟨_, rfl⟩
    rw [← hb, ← hhx] at HCp
    have HPf := Lib.hid (And.intro hb hhx)
    clear hb hhx
    go_wp2_with fail
    refine HCp.out.mono ?_
    rintro e w' ⟨rfl, rfl⟩
    cases hx with
    | true =>
      have HBo := Lib.hid (show bodyF s = 124 :: b from by
        obtain ⟨h1, h2⟩ := HPf.out
        rw [← HBd.out, h1]
        cases hc : bd with
        | nil => rw [hc] at h2; cases h2
        | cons c t =>
          rw [hc] at h2
          have hc2 : c = 124 := by
            have h3 : ((124 : UInt8) == c) = true := by simpa [Lib.hasPrefix, List.isPrefixOf] using h2.symm
            exact (by simpa using h3 : (124 : UInt8) = c).symm
          subst hc2
          simp [Lib.trimPrefix, Lib.hasPrefix, List.isPrefixOf])
      have HRw := Lib.hid (row_line (st := ⟨treeL lv n 0, n, m⟩) HPe.out.symm HOk.out HBo.out)
      have hbl : b.length ≤ 100000 := by
        have h1 := lead_body s
        rw [HBo.out] at h1
        simp only [List.length_cons] at h1
        omega
      have hpn := HP.out n (Nat.le_refl _)
      have hc2 := H.out.sp.cells H.out.l0 n (Nat.le_refl _) 2 _ rfl
      have hc3 := H.out.sp.cells H.out.l0 n (Nat.le_refl _) 3 _ rfl
      rw [show decide (n < n) = false from by simp] at hc3
      simp only [Bool.toNat_false, Nat.add_zero] at hc2 hc3
      have HAf := Lib.hid (adr_form L0 lv n)
      rw [HAf.out] at hpn
      obtain ⟨ab, hab⟩ : ∃ ab, ab = (adr L0 lv n).block := ⟨_, rfl⟩
      obtain ⟨ao, hao⟩ : ∃ ao, ao = (adr L0 lv n).off := ⟨_, rfl⟩
      rw [← hab, ← hao] at hpn hc2 hc3
      have HAd := Lib.hid (And.intro hab hao)
      clear hab hao
      have hnn : (n : Int) + 1 - 1 = (n : Int) := by omega
      have hnl : (n : Int) < (n : Int) + 1 := by omega
      have hn6' : (n : Int) ≤ 6 := by omega
      obtain ⟨kl, hkl⟩ : ∃ kl, kl = (lv n).ks.length := ⟨_, rfl⟩
      obtain ⟨ll, hll2⟩ : ∃ ll, ll = (lv n).lines.length := ⟨_, rfl⟩
      have hbdn := H.out.sp.bd n (Nat.le_refl _)
      rw [← hkl] at hc3
      rw [← hll2] at hc2
      rw [← hkl, ← hll2] at hbdn
      obtain ⟨hbd1, hbd2⟩ := hbdn
      have HKl := Lib.hid hkl
      have HLl := Lib.hid hll2
      have hln : (spn n (treeL lv n 0)).lines.length = ll := by rw [spn_in, hll2]
      have hkn : (spn n (treeL lv n 0)).kids.length = kl := by rw [spn_in, hkl]
      have HLn := Lib.hid hln
      have HKn := Lib.hid hkn
      clear hkl hll2 hln hkn
      go_upto_region 10 with fail
      go_quiet (fail)
      have HD := Lib.hid (ext_drewN w nq)
      by_cases g3 : dp = n
      · have g3' : ((dp : Int) != (n : Int)) = false := by simp [g3]
        have HG3 := Lib.hid (show ¬ leadF s / 2 ≠ n from by rw [← HLd.out, ← HDp.out]; exact fun h => h g3)
        clear g3
        by_cases g4 : kl = 0
        · have g4' : ¬ (0 : Int) < (kl : Int) := by omega
          have HG4 := Lib.hid (show ¬ (spn n (treeL lv n 0)).kids ≠ [] from fun h => h (List.eq_nil_of_length_eq_zero (by rw [HKn.out]; exact g4)))
          clear g4
          have HBh := Lib.hid (pbehind b (by omega) E (w.drewN nq) (HE.out.below HD.out))
          obtain ⟨tx, htx⟩ : ∃ tx, tx = bhP b := ⟨_, rfl⟩
          obtain ⟨cb, hcb⟩ : ∃ cb, cb = bhC b := ⟨_, rfl⟩
          rw [← htx, ← hcb] at HBh
          obtain ⟨ev, hev⟩ : ∃ ev, ev = errI E cb := ⟨_, rfl⟩
          rw [← hev] at HBh
          have HTx := Lib.hid (And.intro htx (And.intro hcb hev))
          clear htx hcb hev
          go_wp2_with fail
          refine HBh.out.mono ?_
          rintro e w2 ⟨rfl, hb2⟩
          have HX2 := Lib.hid (ext_trans HD.out hb2)
          have hc2 := cell_ext HX2.out hc2
          clear hb2 HBh
          by_cases g5 : 40 ≤ ll
          · have g5' : (40 : Int) ≤ (ll : Int) := by omega
            have v1 := (HE.out.below HX2.out).v1
            unfold sentV at v1
            have HF := Lib.hid (show rowF ⟨treeL lv n 0, n, m⟩ s = (2, ⟨treeL lv n 0, n, m⟩) from by
              rw [HRw.out, if_neg HG3.out]
              unfold lineRow
              rw [if_neg HG4.out, if_pos (.inl (by rw [HLn.out]; exact g5))])
            clear g5
            go_wp2_with fail
            go_ret
            exact rowp_bad 2 _ rfl HF.out (by omega) HX2.out
          have g5' : ¬ (40 : Int) ≤ (ll : Int) := by omega
          by_cases g6 : 300 < tx.length
          · have g6' : (300 : Int) < (tx.length : Int) := by omega
            have v1 := (HE.out.below HX2.out).v1
            unfold sentV at v1
            have HF := Lib.hid (show rowF ⟨treeL lv n 0, n, m⟩ s = (2, ⟨treeL lv n 0, n, m⟩) from by
              rw [HRw.out, if_neg HG3.out]
              unfold lineRow
              rw [if_neg HG4.out, if_pos (.inr ((bh_long b).1 (by rw [← HTx.out.1]; exact g6)))])
            clear g5 g6
            go_wp2_with fail
            go_ret
            exact rowp_bad 2 _ rfl HF.out (by omega) HX2.out
          have g6' : ¬ (300 : Int) < (tx.length : Int) := by omega
          have HG5 := Lib.hid (show ¬ (40 ≤ (spn n (treeL lv n 0)).lines.length ∨ 300 < (bhT b).length) from by
            rw [HLn.out]
            rintro (h | h)
            · exact g5 h
            · exact g6 (by rw [HTx.out.1]; exact (bh_long b).2 h))
          clear g5 g6
          by_cases g7 : cb = 0
          · have hev : ev = .nilIface := by rw [HTx.out.2.2, g7]; rfl
            have HF := Lib.hid (show rowF ⟨treeL lv n 0, n, m⟩ s = (0, ⟨upd (addLine tx) n (treeL lv n 0), n, m⟩) from by
              rw [HRw.out, if_neg HG3.out]
              unfold lineRow
              rw [if_neg HG4.out, if_neg HG5.out, if_neg (by rw [← HTx.out.2.1]; exact fun h => h g7), HTx.out.1, bh_same (by rw [← HTx.out.2.1]; exact g7)])
            subst hev
            have H2 := Lib.hid (H.out.ext HX2.out)
            have hlo := H2.out.sp.lines
            have hne := H2.out.sp.adrc H2.out.cl H2.out.l0.lt H2.out.hB n (Nat.le_refl _)
            rw [← HAd.out.1] at hne
            rw [← HLl.out] at hlo
            have HO := Lib.hid hlo
            have HNe := Lib.hid (show ∀ g, (Value.slice (lv n).LA ll (lv n).lc).ownBlock = some g → g ≠ ab from fun g hg e => by
              have h1 := hlo.2 g hg
              obtain ⟨_, _, h3⟩ := hne
              rw [← e, h1] at h3
              unfold cK at h3
              rcases h3 with h3 | ⟨i, hi, h3⟩ <;> omega)
            have hbl3 : ab < w2.heap.size := hne.1
            have HBw := Lib.hid (Nat.le_trans hB HX2.out.size)
            obtain ⟨j0, hj0, hz0, hz1, hz2⟩ := info_parts str_infoR
            have HJ := Lib.hid hj0
            have HJ0 := Lib.hid hz0
            have HJ1 := Lib.hid hz1
            have HJ2 := Lib.hid hz2
            have xa := ext_alloc w2 (.cells #[.string ⟨tx.toArray⟩] 9)
            have HRd := Lib.hid (H2.out.ext xa)
            have HXd := Lib.hid (ext_trans HX2.out xa)
            have hfz := HRd.out.sp.free HRd.out.l0 n (Nat.le_refl _) 2
            rw [← HAd.out.1, ← HAd.out.2] at hfz
            have HFz := Lib.hid hfz
            clear hfz
            clear hj0 hz0 hz1 hz2 hlo hne g7 hc3 r0 r1 hpn xa
            go_wp2_with (at_builtin; refine wpList_append_lies _ rfl _ _ 23 rfl B 9 j0 _ 1 16 Tryz.underlying23 HJ.out HJ0.out HJ1.out HJ2.out rfl (by omega) (.slice (lv n).LA ll (lv n).lc) ll _ rfl (World.ownsRow.alloc HO.out.1 _) ⟨w2.heap.size, 0, none⟩ 1 1 [.string ⟨tx.toArray⟩] rfl rfl (new_cells w2 [.string ⟨tx.toArray⟩] _ _ rfl) (by intro v hv; simp only [List.mem_singleton] at hv; subst hv; rfl) (by omega) (by simp only [maxLen]; omega) (by omega) (by have := HBw.out; simp; omega) _ rfl ?_; intro g5 c5 w7 hown1 hg1 hfr _; have HO7 := Lib.hid hown1; have HG7 := Lib.hid hg1; have HFr := Lib.hid hfr; have y1 := (World.grownBy.cell_far hg1 ⟨ab, ao + 2, none⟩ (by show ab < _; simp; omega) (fun e => HNe.out ab e.symm rfl)).trans (cell_ext (ext_alloc w2 _) hc2); have y3 := (World.grownBy.frozen_far hg1 ⟨ab, ao + 2, none⟩ (by show ab < _; simp; omega) (fun e => HNe.out ab e.symm rfl)).trans HFz.out; clear hown1 hg1 hfr)
            go_ret
            have ho7 := HO7.out
            have hg7 := HG7.out
            have hf7 := HFr.out
            rw [HLl.out] at ho7 hg7 hf7
            obtain ⟨col', lv', q1, q2, q3⟩ := HRd.out.line (w0 := w) HXd.out hB tx (by rw [← HLl.out]; omega) g5 c5 ho7 hg7 hf7
            rw [← HAd.out.1, ← HAd.out.2, ← HLl.out] at q1 q3
            exact ⟨0, _, HF.out, rfl, .inr ⟨rfl, col', lv', q1, q2, q3⟩⟩
          · have hev : ∃ a, ev = .iface 195 (.pointer (some a)) := by
              rw [HTx.out.2.2]
              unfold errI
              rw [if_neg g7]
              exact ⟨_, rfl⟩
            obtain ⟨a, ha⟩ := hev
            have HEa := Lib.hid ha
            have HF := Lib.hid (show rowF ⟨treeL lv n 0, n, m⟩ s = (cb, ⟨treeL lv n 0, n, m⟩) from by
              rw [HRw.out, if_neg HG3.out]
              unfold lineRow
              rw [if_neg HG4.out, if_neg HG5.out, if_pos (by rw [← HTx.out.2.1]; exact g7), ← HTx.out.2.1])
            have HG7 := Lib.hid g7
            clear g7
            subst ha
            go_wp2_with fail
            go_ret
            exact rowp_bad cb _ HTx.out.2.2 HF.out HG7.out HX2.out
        · have g4' : (0 : Int) < (kl : Int) := by omega
          have v0 := HE.out.v0
          unfold sentV at v0
          have HF := Lib.hid (show rowF ⟨treeL lv n 0, n, m⟩ s = (1, ⟨treeL lv n 0, n, m⟩) from by
            rw [HRw.out, if_neg HG3.out]
            unfold lineRow
            rw [if_pos (fun h => by have h2 := HKn.out; rw [h] at h2; exact g4 h2.symm)])
          clear g4
          go_wp2_with fail
          go_ret
          exact rowp_bad 1 _ rfl HF.out (by omega) HD.out
      · have g3' : ((dp : Int) != (n : Int)) = true := by rw [bne_iff_ne]; omega
        have v0 := HE.out.v0
        unfold sentV at v0
        have HF := Lib.hid (show rowF ⟨treeL lv n 0, n, m⟩ s = (1, ⟨treeL lv n 0, n, m⟩) from by
          rw [HRw.out, if_pos (by rw [← HLd.out, ← HDp.out]; exact g3)])
        clear g3
        go_wp2_with fail
        go_ret
        exact rowp_bad 1 _ rfl HF.out (by omega) HD.out
    | false =>
      have HRw := Lib.hid (row_item (st := ⟨treeL lv n 0, n, m⟩) HPe.out.symm HOk.out (by rw [← HBd.out]; exact HPf.out.2.symm))
      have HIx := Lib.hid ((Tryz.strings_IndexByte ⟨bd.toArray⟩ 32 w).mono fun e w' h => (show e = .returned (.int .i64 (Lib.indexByte bd 32)) ∧ w = w' from ⟨h.1, h.2.symm⟩))
      obtain ⟨ix, hix⟩ : ∃ ix, ix = Lib.indexByte bd 32 := ⟨_, rfl⟩
      obtain ⟨nm, hnm⟩ : ∃ nm, nm = nameF bd := ⟨_, rfl⟩
      obtain ⟨rt, hrt⟩ : ∃ rt, rt = restF bd := ⟨_, rfl⟩
      have hcs := idx_name bd
      rw [← hix, ← hnm, ← hrt] at hcs
      rw [← hix] at HIx
      have HNm := Lib.hid (And.intro hnm hrt)
      have hlr : nm.length + rt.length = bd.length := by
        rw [hnm, hrt]
        unfold nameF restF
        rw [← List.length_append, List.takeWhile_append_dropWhile]
      clear hix hnm hrt
      have HD := Lib.hid (ext_drewN w)
      go_wp2_with fail
      refine HIx.out.mono ?_
      rintro e w' ⟨rfl, rfl⟩
      go_upto_if 113 with fail
      go_cut [13, 14] (fun t13 t14 w9 => t13 = .string ⟨nm.toArray⟩ ∧ t14 = .string ⟨rt.toArray⟩ ∧ Hid (Below w.heap.size w w9))
      case first =>
        rcases hcs with ⟨h1, h2, h3⟩ | ⟨h1, h2, h3, h4⟩
        · have hi : ¬ (0 : Int) ≤ ix := by omega
          have HN := Lib.hid (And.intro h2 h3)
          clear h1 h2 h3
          go_wp2_with fail
          go_meet
          exact ⟨by rw [HN.out.1], by rw [HN.out.2], Below.refl _ _⟩
        · have hi : (0 : Int) ≤ ix := by omega
          have hi2 : ix ≤ (bd.length : Int) := by omega
          have hx1 : (ByteArray.mk bd.toArray).extract 0 nm.length = ⟨nm.toArray⟩ := by
            apply ByteArray.ext
            simp [List.extract_eq_take_drop, h3]
          have hx2 : (ByteArray.mk bd.toArray).extract nm.length bd.length = ⟨rt.toArray⟩ := by rw [drop_ba, h4]
          subst h1
          have hi3 : (nm.length : Int) ≤ (bd.length : Int) := hi2
          have hi4 : nm.length ≤ bd.length := h2
          clear h2 h3 h4 hi2
          go_wp2_with fail
          go_quiet (fail)
          go_wp2_with fail
          go_meet
          exact ⟨rfl, rfl, HD.out nq⟩
      case rest =>
        obtain ⟨rfl, rfl, HBc⟩ := hcut
        obtain ⟨w2, rfl⟩ : ∃ w2, w2 = wc := ⟨_, rfl⟩
        have H2 := Lib.hid (H.out.ext HBc.out)
        obtain ⟨pg2, pc2, s0, s1, hp2⟩ := H2.out.ptr
        have hpd := hp2 dp hdn
        have c0 := H2.out.sp.cells H2.out.l0 dp hdn 0 _ rfl
        have c1 := H2.out.sp.cells H2.out.l0 dp hdn 1 _ rfl
        have c2 := H2.out.sp.cells H2.out.l0 dp hdn 2 _ rfl
        have c3 := H2.out.sp.cells H2.out.l0 dp hdn 3 _ rfl
        have hkr := H2.out.sp.krows hdn
        have hkl := kids_len lv hdn
        have hbdd := (H2.out.sp.bd dp hdn).2
        rw [adr_form L0 lv dp] at hpd
        obtain ⟨ab, hab⟩ : ∃ ab, ab = (adr L0 lv dp).block := ⟨_, rfl⟩
        obtain ⟨ao, hao⟩ : ∃ ao, ao = (adr L0 lv dp).off := ⟨_, rfl⟩
        rw [← hab, ← hao] at hpd c0 c1 c2 c3
        rw [← hkl] at c3
        simp only [Nat.add_zero] at c0
        have HAd := Lib.hid (And.intro hab hao)
        have hspn : spn dp (treeL lv n 0) = treeL lv (n - dp) dp := by rw [spn_tree lv dp n 0 hdn, Nat.zero_add]
        have HSn := Lib.hid hspn
        have hkb : (treeL lv (n - dp) dp).kids.length ≤ 1001 := by
          rw [hkl]
          cases decide (dp < n) <;> simp <;> omega
        obtain ⟨kds, hkds⟩ : ∃ l, l = (treeL lv (n - dp) dp).kids := ⟨_, rfl⟩
        rw [← hkds] at hkr hkl hkb c3
        have HKd := Lib.hid (And.intro hkds hkl)
        have HKr := Lib.hid hkr
        have hdp1 : (dp : Int) < (n : Int) + 1 := by omega
        obtain ⟨lbl, hlbl⟩ : ∃ b, b = (Lab.lab nm).isSome := ⟨_, rfl⟩
        have HLb := Lib.hid (plabel nm (by omega) w2)
        rw [← hlbl] at HLb
        have HLe := Lib.hid hlbl
        clear hab hao hspn hkds hkl hkr hp2 hlbl r0 r1 hcs
        go_wp2_with fail
        refine HLb.out.mono ?_
        rintro e w3 ⟨rfl, hb3⟩
        have HX3 := Lib.hid (ext_trans HBc.out hb3)
        have c0 := cell_ext hb3 c0
        have c1 := cell_ext hb3 c1
        have c2 := cell_ext hb3 c2
        have c3 := cell_ext hb3 c3
        have s1 := cell_ext hb3 s1
        have HKr3 := Lib.hid (HKr.out.ext hb3)
        clear hb3 HLb
        cases lbl with
        | false =>
          have v6 := (HE.out.below HX3.out).v6
          unfold sentV at v6
          have HF := Lib.hid (show rowF ⟨treeL lv n 0, n, m⟩ s = (7, ⟨treeL lv n 0, n, m⟩) from by
            rw [HRw.out]
            unfold itemRow
            rw [if_pos (.inl (by rw [← HBd.out, ← HNm.out.1]; have := HLe.out; cases h : Lab.lab nm with | none => rfl | some k => rw [h] at this; cases this))])
          go_wp2_with fail
          go_ret
          exact rowp_bad 7 _ rfl HF.out (by omega) HX3.out
        | true =>
          have HKi := Lib.hid (pkid (lv dp).label (lv dp).head (.slice (lv dp).LA (lv dp).lines.length (lv dp).lc) kds (rowsO lv n dp) (by omega) (lv dp).KA (lv dp).kc nm w3 HKr3.out)
          obtain ⟨ki, hki⟩ : ∃ ki, ki = kidI (lbB nm) kds := ⟨_, rfl⟩
          rw [← hki] at HKi
          have HKp := Lib.hid (show 0 ≤ ki ↔ kidB (spn dp (treeL lv n 0)) nm = true from by
            rw [hki, HSn.out, kidI_pos, HKd.out.1]
            rfl)
          clear hki
          go_wp2_with fail
          refine HKi.out.mono ?_
          rintro e w4 ⟨rfl, hb4⟩
          have HX4 := Lib.hid (ext_trans HX3.out hb4)
          have s1 := cell_ext hb4 s1
          clear hb4 HKi
          by_cases g1 : 0 ≤ ki
          · have v6 := (HE.out.below HX4.out).v6
            unfold sentV at v6
            have HF := Lib.hid (show rowF ⟨treeL lv n 0, n, m⟩ s = (7, ⟨treeL lv n 0, n, m⟩) from by
              rw [HRw.out]
              unfold itemRow
              rw [if_pos (.inr (by rw [← HBd.out, ← HNm.out.1, ← HLd.out, ← HDp.out]; exact HKp.out.1 g1))])
            go_wp2_with fail
            go_ret
            exact rowp_bad 7 _ rfl HF.out (by omega) HX4.out
          · have HNk := Lib.hid (show ¬ ((Lab.lab (nameF (bodyF s))).isNone ∨ kidB (spn (leadF s / 2) (treeL lv n 0)) (nameF (bodyF s)) = true) from by
              rw [← HBd.out, ← HNm.out.1, ← HLd.out, ← HDp.out]
              rintro (h | h)
              · have := HLe.out
                cases h2 : Lab.lab nm with
                | none => rw [h2] at this; cases this
                | some k => rw [h2] at h; cases h
              · exact g1 (HKp.out.2 h))
            have HBh := Lib.hid (pbehind rt (by omega) E w4 (HE.out.below HX4.out))
            obtain ⟨tx, htx⟩ : ∃ tx, tx = bhP rt := ⟨_, rfl⟩
            obtain ⟨cb, hcb⟩ : ∃ cb, cb = bhC rt := ⟨_, rfl⟩
            rw [← htx, ← hcb] at HBh
            obtain ⟨ev, hev⟩ : ∃ ev, ev = errI E cb := ⟨_, rfl⟩
            rw [← hev] at HBh
            have HTx := Lib.hid (And.intro htx (And.intro hcb hev))
            clear htx hcb hev
            go_wp2_with fail
            refine HBh.out.mono ?_
            rintro e w5 ⟨rfl, hb5⟩
            have HX5 := Lib.hid (ext_trans HX4.out hb5)
            have s1 := cell_ext hb5 s1
            clear hb5 HBh
            have HF2 := Lib.hid (show (300 ≤ m ∨ 6 ≤ dp ∨ 300 < tx.length) → rowF ⟨treeL lv n 0, n, m⟩ s = (2, ⟨treeL lv n 0, n, m⟩) from fun h => by
              rw [HRw.out]
              unfold itemRow
              rw [if_neg HNk.out, if_pos]
              rw [← HBd.out, ← HNm.out.2, ← HLd.out, ← HDp.out, ← bh_long, ← HTx.out.1]
              exact h)
            by_cases g2 : 300 ≤ m
            · have g2' : (300 : Int) ≤ (m : Int) := by omega
              have v1 := (HE.out.below HX5.out).v1
              unfold sentV at v1
              have HF := Lib.hid (HF2.out (.inl g2))
              clear g2
              go_wp2_with fail
              go_ret
              exact rowp_bad 2 _ rfl HF.out (by omega) HX5.out
            have g2' : ¬ (300 : Int) ≤ (m : Int) := by omega
            by_cases g3 : 6 ≤ dp
            · have g3' : (6 : Int) ≤ (dp : Int) := by omega
              have v1 := (HE.out.below HX5.out).v1
              unfold sentV at v1
              have HF := Lib.hid (HF2.out (.inr (.inl g3)))
              clear g2 g3
              go_wp2_with fail
              go_ret
              exact rowp_bad 2 _ rfl HF.out (by omega) HX5.out
            have g3' : ¬ (6 : Int) ≤ (dp : Int) := by omega
            by_cases g4 : 300 < tx.length
            · have g4' : (300 : Int) < (tx.length : Int) := by omega
              have v1 := (HE.out.below HX5.out).v1
              unfold sentV at v1
              have HF := Lib.hid (HF2.out (.inr (.inr g4)))
              clear g2 g3 g4
              go_wp2_with fail
              go_ret
              exact rowp_bad 2 _ rfl HF.out (by omega) HX5.out
            have g4' : ¬ (300 : Int) < (tx.length : Int) := by omega
            have HNb := Lib.hid (show ¬ (300 ≤ m ∨ 6 ≤ leadF s / 2 ∨ 300 < (bhT (restF (bodyF s))).length) from by
              rw [← HBd.out, ← HNm.out.2, ← HLd.out, ← HDp.out, ← bh_long, ← HTx.out.1]
              omega)
            have hm3 : m < 300 := by omega
            have hd6 : dp < 6 := by omega
            clear g2 g3 g4
            by_cases g7 : cb = 0
            · have hev : ev = .nilIface := by rw [HTx.out.2.2, g7]; rfl
              have HF := Lib.hid (show rowF ⟨treeL lv n 0, n, m⟩ s = (0, ⟨upd (addKid ⟨nm, tx, [], []⟩) dp (treeL lv n 0), dp + 1, m + 1⟩) from by
                rw [HRw.out]
                unfold itemRow
                rw [if_neg HNk.out, if_neg HNb.out, ← HBd.out, ← HNm.out.1, ← HNm.out.2, ← HTx.out.2.1, if_neg (fun h => h g7), HTx.out.1, bh_same (by rw [← HTx.out.2.1]; exact g7), ← HLd.out, ← HDp.out])
              subst hev
              have H5 := Lib.hid (H.out.ext HX5.out)
              have H6 := Lib.hid (H5.out.inc hm3)
              obtain ⟨PA5, pc5, hb5, _⟩ := H5.out.rd
              have f1 := hb5.free 1
              have hm1 : (m : Int) + 1 = ((m + 1 : Nat) : Int) := by omega
              have hmb : (m : Int) ≤ 300 := by omega
              obtain ⟨w6, hw6⟩ : ∃ w6, w6 = w5.setCell ⟨rb, 1, none⟩ (.int .i64 ((m : Int) + 1)) := ⟨_, rfl⟩
              rw [← hm1, ← hw6] at H6
              have HR6 := Lib.hid H6.out
              clear hb5 g7 H6 hm1
              go_upto_region 33 with fail
              rw [← hw6]
              obtain ⟨j0, hj0, hz0, hz1, hz2⟩ := info_parts it_infoR
              have HJ := Lib.hid hj0
              have HJ0 := Lib.hid hz0
              have HJ1 := Lib.hid hz1
              have HJ2 := Lib.hid hz2
              have hown := HR6.out.sp.own hdn
              rw [← HKd.out.2] at hown
              have HO := Lib.hid hown
              have k3 := HR6.out.sp.cells HR6.out.l0 dp hdn 3 _ rfl
              rw [← HKd.out.2, ← HAd.out.1, ← HAd.out.2] at k3
              have hfz := HR6.out.sp.free HR6.out.l0 dp hdn 3
              rw [← HAd.out.1, ← HAd.out.2] at hfz
              have hne := HR6.out.sp.adrc HR6.out.cl HR6.out.l0.lt HR6.out.hB dp hdn
              rw [← HAd.out.1] at hne
              have HNe := Lib.hid (show ∀ g, (Value.slice (lv dp).KA kds.length (lv dp).kc).ownBlock = some g → g ≠ ab from fun g hg e => by
                have h1 := hown.2 g hg
                obtain ⟨_, _, h3⟩ := hne
                rw [← e, h1] at h3
                unfold cK at h3
                rcases h3 with h3 | ⟨i, hi, h3⟩ <;> omega)
              have hab6 : ab < w6.heap.size := hne.1
              have HX6 := Lib.hid (show w.heap.size ≤ w6.heap.size from by rw [hw6]; have := HX5.out.size; simpa using this)
              have hd : Below w6.heap.size w6 w6.drew := ext_drewN w6 1
              have d3 := cell_ext hd k3
              have y3 := fun ob => cell_ext (ext_alloc w6 ob) k3
              have HK3 := Lib.hid k3
              have HFz := Lib.hid hfz
              have HKw := Lib.hid (show Kept B col col w w6 from by rw [hw6]; exact (Kept.of HX5.out).trans (Kept.set _ _ _ H5.out.hR (by show ¬ (4 ≤ col rb ∧ col rb < 10); rw [H5.out.cr]; omega)))
              clear hd hj0 hz0 hz1 hz2 hown hne hfz k3 hw6 f1 s0 hpd c0 c1 c2 c3 s1
              go_cut [] (fun wx => ∃ (col' : Nat → Nat) (g5 c5 : Nat) (PA : Option Addr) (pc : Nat) (ps : List Value), Hid (Mid B col' wx rb L0 n dp (m + 1) (lvK lv n dp nm tx g5 c5) PA pc ps) ∧ Hid (Kept B col col' w6 wx))
              case first =>
                have HL4 := Lib.hid (show (rowsO lv n dp).flatten.length = kds.length * 4 from HO.out.1.1)
                have HKm := Lib.hid (show (lv dp).ks.length + (decide (dp < n)).toNat + 1 ≤ m + 1 from by have := H5.out.km dp hdn; omega)
                have HW1 := Lib.hid (own_ext (World.ownsRow.alloc HO.out.1 (.cells #[.string ⟨#[]⟩, .string ⟨#[]⟩, .slice none 0 0, .slice none 0 0] 26)) (ext_drewN _ 1))
                have hkI : (kds.length : Int) < (kds.length : Int) + 1 := by omega
                have hkI2 : (0 : Int) ≤ (kds.length : Int) := by omega
                have hkI3 : (kds.length : Int) ≤ 1001 := by omega
                refine wp_region_held_drew (S := fun _ => True) (by kernel_rfl) trivial (fun hHeld => ?_)
                refine wpAnyH_take (i := 0) (v := ?_) rfl (by kernel_rfl) (by kernel_rfl) (by kernel_rfl) (fun _ _ _ h => h) (Or.inl ⟨by rfl, ?_⟩) (by assumption) ?_
                rotate_left
                · intro w hSw; (try dsimp only at hSw); go_simp; try with_reducible rfl
                (try dsimp only [Act.put, List.setIfInBounds_toArray, List.set_cons_zero, List.set_cons_succ])
                refine wpAnyH_take (i := 1) (v := ?_) rfl (by kernel_rfl) (by kernel_rfl) (by kernel_rfl) (fun _ _ _ h => h) (Or.inl ⟨by rfl, ?_⟩) (by assumption) ?_
                rotate_left
                · intro w hSw; (try dsimp only at hSw); go_simp; try with_reducible rfl
                (try dsimp only [Act.put, List.setIfInBounds_toArray, List.set_cons_zero, List.set_cons_succ])
                refine wpAnyH_take (i := 2) (v := ?_) rfl (by kernel_rfl) (by kernel_rfl) (by kernel_rfl) (fun _ _ _ h => h) (Or.inl ⟨by rfl, ?_⟩) (by assumption) ?_
                rotate_left
                · intro w hSw; (try dsimp only at hSw); go_simp; try with_reducible rfl
                (try dsimp only [Act.put, List.setIfInBounds_toArray, List.set_cons_zero, List.set_cons_succ])
                refine wpAnyH_take (i := 4) (v := ?_) rfl (by kernel_rfl) (by kernel_rfl) (by kernel_rfl) (fun _ _ _ h => h) (Or.inl ⟨by rfl, ?_⟩) (by assumption) ?_
                rotate_left
                · intro w hSw; (try dsimp only at hSw); go_simp; try with_reducible rfl
                (try dsimp only [Act.put, List.setIfInBounds_toArray, List.set_cons_zero, List.set_cons_succ])
                refine wpAnyH_take (i := 5) (v := ?_) rfl (by kernel_rfl) (by kernel_rfl) (by kernel_rfl) (fun _ _ _ h => h) (Or.inl ⟨by rfl, ?_⟩) (by assumption) ?_
                rotate_left
                · intro w hSw; (try dsimp only at hSw); go_simp; try with_reducible rfl
                (try dsimp only [Act.put, List.setIfInBounds_toArray, List.set_cons_zero, List.set_cons_succ])
                refine wpAnyH_take (i := 6) (v := ?_) rfl (by kernel_rfl) (by kernel_rfl) (by kernel_rfl) (fun _ _ _ h => h) (Or.inl ⟨by rfl, ?_⟩) (by assumption) ?_
                rotate_left
                · intro w hSw; (try dsimp only at hSw); go_simp; try with_reducible rfl
                (try dsimp only [Act.put, List.setIfInBounds_toArray, List.set_cons_zero, List.set_cons_succ])
                have y3' := y3
                clear y3
                apply cut_key
                · intro key
                  refine wpAnyH_ready (rs := [3, 8]) (by kernel_rfl) (by simp) ?_
                  refine AllReadyH.cons rfl (fun K hK => ?_) ?_
                  · go_simp
                    refine hK.out _ _ trivial (fun hHeld => ?_)
                    clear hK K
                    (try dsimp only [Act.put, List.setIfInBounds_toArray, List.set_cons_zero, List.set_cons_succ])
                    refine wpAnyH_take (i := 7) (v := ?_) rfl (by kernel_rfl) (by kernel_rfl) (by kernel_rfl) (fun _ _ _ h => h) (Or.inl ⟨by rfl, ?_⟩) (by assumption) ?_
                    rotate_left
                    · intro w hSw; (try dsimp only at hSw); go_simp; try with_reducible rfl
                    (try dsimp only [Act.put, List.setIfInBounds_toArray, List.set_cons_zero, List.set_cons_succ])
                    refine wpAnyH_ready (rs := [8]) (by kernel_rfl) (by simp) ?_
                    refine AllReadyH.cons rfl (fun K hK => ?_) ?_
                    · go_simp
                      refine hK.out _ _ trivial (fun hHeld => ?_)
                      clear hK K
                      (try dsimp only [Act.put, List.setIfInBounds_toArray, List.set_cons_zero, List.set_cons_succ])
                      exact key
                    exact AllReadyH.nil
                  refine AllReadyH.cons rfl (fun K hK => ?_) ?_
                  · go_simp
                    refine hK.out _ _ trivial (fun hHeld => ?_)
                    clear hK K
                    (try dsimp only [Act.put, List.setIfInBounds_toArray, List.set_cons_zero, List.set_cons_succ])
                    refine wpAnyH_ready (rs := [3]) (by kernel_rfl) (by simp) ?_
                    refine AllReadyH.cons rfl (fun K hK => ?_) ?_
                    · go_simp
                      refine hK.out _ _ trivial (fun hHeld => ?_)
                      clear hK K
                      (try dsimp only [Act.put, List.setIfInBounds_toArray, List.set_cons_zero, List.set_cons_succ])
                      refine wpAnyH_take (i := 7) (v := ?_) rfl (by kernel_rfl) (by kernel_rfl) (by kernel_rfl) (fun _ _ _ h => h) (Or.inl ⟨by rfl, ?_⟩) (by assumption) ?_
                      rotate_left
                      · intro w hSw; (try dsimp only at hSw); go_simp; try with_reducible rfl
                      (try dsimp only [Act.put, List.setIfInBounds_toArray, List.set_cons_zero, List.set_cons_succ])
                      exact cast (by kernel_rfl) key
                    exact AllReadyH.nil
                  exact AllReadyH.nil
                · skip
                  refine wpAnyH_ready (rs := [9]) (by kernel_rfl) (by simp) ?_
                  refine AllReadyH.cons rfl (fun K hK => ?_) ?_
                  · refine step_append_lies _ (by rfl) (.tmp 172) (.tmp 177) 24 (by rfl) B 26 j0 _ 4 80 Tryz.underlying24 HJ.out HJ0.out HJ1.out HJ2.out rfl (by omega) (.slice (lv dp).KA kds.length (lv dp).kc) kds.length (rowsO lv n dp).flatten (by rfl) HW1.out ⟨w6.heap.size, 0, none⟩ 1 1 [.string ⟨#[]⟩, .string ⟨#[]⟩, .slice none 0 0, .slice none 0 0] (by rfl) rfl (fun j v hj => cell_ext (ext_drewN _ 1) (new_cells w6 [.string ⟨#[]⟩, .string ⟨#[]⟩, .slice none 0 0, .slice none 0 0] _ _ rfl j v hj)) (by intro v hv; simp only [List.mem_cons, List.not_mem_nil, or_false] at hv; rcases hv with rfl | rfl | rfl | rfl <;> rfl) (by omega) (by simp only [maxLen]; omega) (by omega) (by have := HX6.out; simp; omega) (w6.heap.size + 1) (by simp) ?_
                    intro g5 c5 w7 hown1 hg1 hfr hlt
                    have HO7 := Lib.hid hown1
                    have HG7 := Lib.hid hg1
                    have hne5 : g5 ≠ ab := by
                      rcases hfr with e | e
                      · exact HNe.out g5 e
                      · omega
                    have HFr := Lib.hid (show (Value.slice (lv dp).KA kds.length (lv dp).kc).ownBlock = some g5 ∨ w6.heap.size ≤ g5 from by rcases hfr with e | e; exact .inl e; right; omega)
                    have y0 := hown1.cellAt (kds.length * 4 + 0) (by omega)
                    have y1 := hown1.cellAt (kds.length * 4 + 1) (by omega)
                    have y2 := hown1.cellAt (kds.length * 4 + 2) (by omega)
                    have y3 := hown1.cellAt (kds.length * 4 + 3) (by omega)
                    rw [List.getElem?_append_right (by rw [HL4.out]; omega), show kds.length * 4 + 0 - (rowsO lv n dp).flatten.length = 0 from by rw [HL4.out]; omega] at y0
                    rw [List.getElem?_append_right (by rw [HL4.out]; omega), show kds.length * 4 + 1 - (rowsO lv n dp).flatten.length = 1 from by rw [HL4.out]; omega] at y1
                    rw [List.getElem?_append_right (by rw [HL4.out]; omega), show kds.length * 4 + 2 - (rowsO lv n dp).flatten.length = 2 from by rw [HL4.out]; omega] at y2
                    rw [List.getElem?_append_right (by rw [HL4.out]; omega), show kds.length * 4 + 3 - (rowsO lv n dp).flatten.length = 3 from by rw [HL4.out]; omega] at y3
                    simp only [List.getElem?_cons_zero, List.getElem?_cons_succ, Nat.add_zero] at y0 y1 y2 y3
                    have z0 := hown1.frozenAt (kds.length * 4)
                    have z1 := hown1.frozenAt (kds.length * 4 + 1)
                    have z2 := hown1.frozenAt (kds.length * 4 + 2)
                    have z3 := hown1.frozenAt (kds.length * 4 + 3)
                    have ya := (World.grownBy.cell_far hg1 ⟨ab, ao + 3, none⟩ (by show ab < _; simp; omega) (fun e => HNe.out ab e.symm rfl)).trans (cell_ext (ext_drewN _ 1) (y3' (.cells #[.string ⟨#[]⟩, .string ⟨#[]⟩, .slice none 0 0, .slice none 0 0] 26)))
                    have za := (World.grownBy.frozen_far hg1 ⟨ab, ao + 3, none⟩ (by show ab < _; simp; omega) (fun e => HNe.out ab e.symm rfl)).trans ((World.frozen?_of_block (w := w6) (((ext_drewN (w6.alloc (.cells #[.string ⟨#[]⟩, .string ⟨#[]⟩, .slice none 0 0, .slice none 0 0] 26)) 1).block ab (by simp; omega)).trans ((ext_alloc w6 (.cells #[.string ⟨#[]⟩, .string ⟨#[]⟩, .slice none 0 0, .slice none 0 0] 26)).block ab hab6))).trans HFz.out)
                    have hk1 : (kds.length : Int) < ((kds.length + 1 : Nat) : Int) := by omega
                    have HLeaf := Lib.hid (HR6.out.kid dp hdn nm tx HKm.out g5 c5 (w2 := (((w7.setCell ⟨g5, kds.length * 4, none⟩ (.string ⟨nm.toArray⟩)).setCell ⟨g5, kds.length * 4 + 1, none⟩ (.string ⟨tx.toArray⟩)).setCell ⟨g5, kds.length * 4 + 2, none⟩ (.slice none 0 0)).setCell ⟨g5, kds.length * 4 + 3, none⟩ (.slice none 0 0)) ?_ ?_ ?_ ?_)
                    rotate_left
                    · rw [← HKd.out.2]
                      exact (row_head4 (B := B) (col := fun _ => 0) (c := 0) (X := (rowsO lv n dp).flatten) ⟨HO7.out, fun _ _ => rfl⟩ HL4.out).1
                    · exact ⟨HG7.out.os, HG7.out.tape, HG7.out.output, by have := HG7.out.size; simp at this ⊢; omega⟩
                    · intro b hb hn
                      rw [← HKd.out.2] at hn
                      have hbg : b ≠ g5 := fun e => by
                        rcases HFr.out with h | h
                        · exact hn (by rw [e, h])
                        · omega
                      rw [set_far (a := ⟨g5, kds.length * 4 + 3, none⟩) hbg, set_far (a := ⟨g5, kds.length * 4 + 2, none⟩) hbg, set_far (a := ⟨g5, kds.length * 4 + 1, none⟩) hbg, set_far (a := ⟨g5, kds.length * 4, none⟩) hbg, HG7.out.block b (by simp; omega) hn]
                      exact (ext_drewN _ 1).block b (by simp; omega) |>.trans ((ext_alloc w6 _).block b hb)
                    · rw [← HKd.out.2]; exact HFr.out
                    rw [← HAd.out.1, ← HAd.out.2, ← HKd.out.2] at HLeaf
                    clear hown1 hg1 hfr
                    refine hK.out _ _ trivial (fun hHeld => ?_)
                    clear hK K
                    (try dsimp only [Act.put, List.setIfInBounds_toArray, List.set_cons_zero, List.set_cons_succ])
                    refine wpAnyH_take (i := 10) (v := ?_) rfl (by kernel_rfl) (by kernel_rfl) (by kernel_rfl) (fun _ _ _ h => h) (Or.inl ⟨by rfl, ?_⟩) (by assumption) ?_
                    rotate_left
                    · intro w hSw; (try dsimp only at hSw); go_simp; try with_reducible rfl
                    (try dsimp only [Act.put, List.setIfInBounds_toArray, List.set_cons_zero, List.set_cons_succ])
                    refine wpAnyH_take (i := 12) (v := ?_) rfl (by kernel_rfl) (by kernel_rfl) (by kernel_rfl) (fun _ _ _ h => h) (Or.inl ⟨by rfl, ?_⟩) (by assumption) ?_
                    rotate_left
                    · intro w hSw; (try dsimp only at hSw); go_simp; try with_reducible rfl
                    (try dsimp only [Act.put, List.setIfInBounds_toArray, List.set_cons_zero, List.set_cons_succ])
                    refine wpAnyH_take (i := 13) (v := ?_) rfl (by kernel_rfl) (by kernel_rfl) (by kernel_rfl) (fun _ _ _ h => h) (Or.inl ⟨by rfl, ?_⟩) (by assumption) ?_
                    rotate_left
                    · intro w hSw; (try dsimp only at hSw); go_simp; try with_reducible rfl
                    (try dsimp only [Act.put, List.setIfInBounds_toArray, List.set_cons_zero, List.set_cons_succ])
                    refine wpAnyH_ready (rs := [11, 14]) (by kernel_rfl) (by simp) ?_
                    refine AllReadyH.cons rfl (fun K hK => ?_) ?_
                    · go_simp
                      refine hK.out _ _ trivial (fun hHeld => ?_)
                      clear hK K
                      (try dsimp only [Act.put, List.setIfInBounds_toArray, List.set_cons_zero, List.set_cons_succ])
                      refine wpAnyH_ready (rs := [14]) (by kernel_rfl) (by simp) ?_
                      refine AllReadyH.cons rfl (fun K hK => ?_) ?_
                      · go_simp
                        refine hK.out _ _ trivial (fun hHeld => ?_)
                        clear hK K
                        (try dsimp only [Act.put, List.setIfInBounds_toArray, List.set_cons_zero, List.set_cons_succ])
                        refine wpAnyH_done (by kernel_rfl) ?_ _
                        go_wp2_with fail
                        go_meet
                        obtain ⟨col', PA, pc, ps, q1, q2⟩ := HLeaf.out
                        exact ⟨col', g5, c5, PA, pc, ps, q1, q2⟩
                      exact AllReadyH.nil
                    refine AllReadyH.cons rfl (fun K hK => ?_) ?_
                    · go_simp
                      refine hK.out _ _ trivial (fun hHeld => ?_)
                      clear hK K
                      (try dsimp only [Act.put, List.setIfInBounds_toArray, List.set_cons_zero, List.set_cons_succ])
                      refine wpAnyH_ready (rs := [11]) (by kernel_rfl) (by simp) ?_
                      refine AllReadyH.cons rfl (fun K hK => ?_) ?_
                      · go_simp
                        refine hK.out _ _ trivial (fun hHeld => ?_)
                        clear hK K
                        (try dsimp only [Act.put, List.setIfInBounds_toArray, List.set_cons_zero, List.set_cons_succ])
                        refine wpAnyH_done (by kernel_rfl) ?_ _
                        go_wp2_with fail
                        go_meet
                        obtain ⟨col', PA, pc, ps, q1, q2⟩ := HLeaf.out
                        refine ⟨col', g5, c5, PA, pc, ps, ?_, ?_⟩
                        · rw [set_comm4 (by exact hne5.symm) (by exact hne5.symm) (by exact hne5.symm) (by exact hne5.symm)]; exact q1
                        · rw [set_comm4 (by exact hne5.symm) (by exact hne5.symm) (by exact hne5.symm) (by exact hne5.symm)]; exact q2
                      exact AllReadyH.nil
                    exact AllReadyH.nil
                  exact AllReadyH.nil
              case rest =>
                obtain ⟨col1, g5, c5, PA, pc, ps, HM, HKp⟩ := hcut
                obtain ⟨w8, rfl⟩ : ∃ w8, w8 = wc := ⟨_, rfl⟩
                have hown := HM.out.own
                obtain ⟨pg3, _, hv, _, _⟩ := World.ownsRow.form hown.1 (by omega)
                simp only [Value.slice.injEq] at hv
                obtain ⟨rfl, hv2⟩ := hv
                clear hv2
                have hcap := own_cap hown.1
                have r0 := HM.out.blk.cell 0 rfl
                have f0 := HM.out.blk.free 0
                have hrb := HM.out.blk.lt
                have hadr : adr L0 (lvK lv n dp nm tx g5 c5) dp = adr L0 lv dp := adr_congr fun i hi => lvK_lt lv n nm tx g5 c5 hi
                have k3 := HM.out.sp.cells HM.out.l0 dp (by omega) 3 _ rfl
                have hne := HM.out.sp.adrc HM.out.cl HM.out.l0.lt HM.out.hB dp (by omega)
                rw [hadr, lvK_at, decide_eq_true (by omega : dp < dp + 1), ← HAd.out.1, ← HAd.out.2] at k3
                rw [hadr, ← HAd.out.1] at hne
                have k3 : w8.cell? ⟨ab, ao + 3, none⟩ = some (.slice (some ⟨g5, 0, none⟩) (kds.length + 1) c5) := by rw [k3, HKd.out.1]; rfl
                have HPt := Lib.hid (show adr L0 (lvK lv n dp nm tx g5 c5) (dp + 1) = ⟨g5, kds.length * 4, none⟩ from by
                  show (⟨((lvK lv n dp nm tx g5 c5 dp).KA.map (·.block)).getD 0, (lvK lv n dp nm tx g5 c5 dp).ks.length * 4, none⟩ : Addr) = _
                  rw [lvK_at, HKd.out.1]
                  rfl)
                have hpa : pg3 ≠ ab := fun e => by
                  have h1 := hown.2 pg3 rfl
                  obtain ⟨_, _, h3⟩ := hne
                  rw [← e, h1] at h3
                  unfold cK at h3
                  rcases h3 with h3 | ⟨i, hi, h3⟩ <;> omega
                have hra : rb ≠ ab := fun e => by
                  have h1 := HM.out.cr
                  obtain ⟨_, _, h3⟩ := hne
                  rw [← e, h1] at h3
                  unfold cK at h3
                  rcases h3 with h3 | ⟨i, hi, h3⟩ <;> omega
                have hrp : rb ≠ pg3 := fun e => by
                  have h1 := hown.2 pg3 rfl
                  rw [← e, HM.out.cr] at h1
                  cases h1
                have hab8 : ab < w8.heap.size := hne.1
                have HS8 := Lib.hid (show B ≤ w8.heap.size from by have := HM.out.hR; omega)
                have HCt := Lib.hid (show w8.ownsRow B 58 1 (.slice (some ⟨pg3, 0, none⟩) (dp + 1) pc) (dp + 1) (ps.take (dp + 1)) from own_cutp hown.1 (by omega))
                have HPB := Lib.hid (show pg3 < w8.heap.size from (hown.1.lt pg3 rfl).2)
                have h1p : (0 : Int) ≤ (dp : Int) + 1 := by omega
                have h2p : (dp : Int) + 1 ≤ (pc : Int) := by omega
                have h3p : (pc : Int) ≤ 9223372036854775807 := by have := hcap.2; simp only [maxLen] at this; omega
                have h4p : (dp : Int) ≤ 6 := by omega
                have hkI : (kds.length : Int) < (kds.length : Int) + 1 := by omega
                have hkI2 : (0 : Int) ≤ (kds.length : Int) := by omega
                have hkI3 : (kds.length : Int) ≤ 1001 := by omega
                have hkI4 : (kds.length : Int) + 1 - 1 = (kds.length : Int) := by omega
                obtain ⟨q0, hq0, hz0, hz1, hz2⟩ := info_parts ptr_infoR
                have HQ := Lib.hid hq0
                have HQ0 := Lib.hid hz0
                have HQ1 := Lib.hid hz1
                have HQ2 := Lib.hid hz2
                have HD1 := Lib.hid (own_ext (World.ownsRow.alloc HCt.out (.cells #[.pointer (some ⟨g5, kds.length * 4, none⟩)] 58)) (ext_drewN _ 1))
                have hd : Below w8.heap.size w8 w8.drew := ext_drewN w8 1
                have d0 := cell_ext hd r0
                have yr := fun ob => cell_ext (ext_alloc w8 ob) r0
                have HK3 := Lib.hid k3
                have HF0 := Lib.hid f0
                clear hd hq0 hz0 hz1 hz2 hown hne hadr hcap f0 r0
                go_upto_region 34 with fail
                refine wp_region_held_drew (S := fun w' => w'.cell? ⟨ab, ao + 3, none⟩ = some (.slice (some ⟨g5, 0, none⟩) (kds.length + 1) c5)) (by kernel_rfl) ?_ (fun hHeld => ?_)
                · exact cell_ext (ext_drewN w8 1) HK3.out
                refine wpAnyH_take (i := 0) (v := ?_) rfl (by kernel_rfl) (by kernel_rfl) (by kernel_rfl) (fun _ _ _ h => h) (Or.inl ⟨by rfl, ?_⟩) (by assumption) ?_
                rotate_left
                · intro w hSw; (try dsimp only at hSw); go_simp; try with_reducible rfl
                (try dsimp only [Act.put, List.setIfInBounds_toArray, List.set_cons_zero, List.set_cons_succ])
                refine wpAnyH_take (i := 1) (v := ?_) rfl (by kernel_rfl) (by kernel_rfl) (by kernel_rfl) (fun _ _ _ h => h) (Or.inl ⟨by rfl, ?_⟩) (by assumption) ?_
                rotate_left
                · intro w hSw; (try dsimp only at hSw); go_simp; try with_reducible rfl
                (try dsimp only [Act.put, List.setIfInBounds_toArray, List.set_cons_zero, List.set_cons_succ])
                refine wpAnyH_take (i := 2) (v := ?_) rfl (by kernel_rfl) (by kernel_rfl) (by kernel_rfl) (fun _ _ _ h => h) (Or.inl ⟨by rfl, ?_⟩) (by assumption) ?_
                rotate_left
                · intro w hSw; (try dsimp only at hSw); go_simp; try with_reducible rfl
                (try dsimp only [Act.put, List.setIfInBounds_toArray, List.set_cons_zero, List.set_cons_succ])
                refine wpAnyH_take (i := 3) (v := ?_) rfl (by kernel_rfl) (by kernel_rfl) (by kernel_rfl) (fun _ _ _ h => h) (Or.inl ⟨by rfl, ?_⟩) (by assumption) ?_
                rotate_left
                · intro w hSw; (try dsimp only at hSw); go_simp; try with_reducible rfl
                (try dsimp only [Act.put, List.setIfInBounds_toArray, List.set_cons_zero, List.set_cons_succ])
                refine wpAnyH_take (i := 5) (v := ?_) rfl (by kernel_rfl) (by kernel_rfl) (by kernel_rfl) (fun _ _ _ h => h) (Or.inl ⟨by rfl, ?_⟩) (by assumption) ?_
                rotate_left
                · intro w hSw; (try dsimp only at hSw); go_simp; try with_reducible rfl
                (try dsimp only [Act.put, List.setIfInBounds_toArray, List.set_cons_zero, List.set_cons_succ])
                refine wpAnyH_take (i := 6) (v := .int .i64 ((dp : Int) + 1)) rfl (by kernel_rfl) (by kernel_rfl) (by kernel_rfl) (fun _ _ _ h => h) (Or.inl ⟨by rfl, ?_⟩) (by assumption) ?_
                · intro w hSw; (try dsimp only at hSw); go_simp; (try rw [IntWalk.i64_in ((dp : Int) + 1) (by omega)])
                (try dsimp only [Act.put, List.setIfInBounds_toArray, List.set_cons_zero, List.set_cons_succ])
                refine wpAnyH_take (i := 8) (v := ?_) rfl (by kernel_rfl) (by kernel_rfl) (by kernel_rfl) (fun _ _ _ h => h) (Or.inl ⟨by rfl, ?_⟩) (by assumption) ?_
                rotate_left
                · intro w hSw; (try dsimp only at hSw); go_simp; try with_reducible rfl
                (try dsimp only [Act.put, List.setIfInBounds_toArray, List.set_cons_zero, List.set_cons_succ])
                refine wpAnyH_take (i := 9) (v := ?_) rfl (by kernel_rfl) (by kernel_rfl) (by kernel_rfl) (fun _ _ _ h => h) (Or.inl ⟨by rfl, ?_⟩) (by assumption) ?_
                rotate_left
                · intro w hSw; (try dsimp only at hSw); go_simp; try with_reducible rfl
                (try dsimp only [Act.put, List.setIfInBounds_toArray, List.set_cons_zero, List.set_cons_succ])
                refine wpAnyH_take (i := 10) (v := ?_) rfl (by kernel_rfl) (by kernel_rfl) (by kernel_rfl) (fun _ _ _ h => h) (Or.inl ⟨by rfl, ?_⟩) (by assumption) ?_
                rotate_left
                · intro w hSw; (try dsimp only at hSw); go_simp; try with_reducible rfl
                (try dsimp only [Act.put, List.setIfInBounds_toArray, List.set_cons_zero, List.set_cons_succ])
                refine wpAnyH_take (i := 11) (v := ?_) rfl (by kernel_rfl) (by kernel_rfl) (by kernel_rfl) (fun _ _ _ h => h) (Or.inl ⟨by rfl, ?_⟩) (by assumption) ?_
                rotate_left
                · intro w hSw; (try dsimp only at hSw); go_simp; try with_reducible rfl
                (try dsimp only [Act.put, List.setIfInBounds_toArray, List.set_cons_zero, List.set_cons_succ])
                refine wpAnyH_take (i := 12) (v := ?_) rfl (by kernel_rfl) (by kernel_rfl) (by kernel_rfl) (fun _ _ _ h => h) (Or.inl ⟨by rfl, ?_⟩) (by assumption) ?_
                rotate_left
                · intro w hSw; (try dsimp only at hSw); go_simp; try with_reducible rfl
                (try dsimp only [Act.put, List.setIfInBounds_toArray, List.set_cons_zero, List.set_cons_succ])
                refine wpAnyH_take (i := 13) (v := ?_) rfl (by kernel_rfl) (by kernel_rfl) (by kernel_rfl) (fun _ _ _ h => h) (Or.inl ⟨by rfl, ?_⟩) (by assumption) ?_
                rotate_left
                · intro w hSw; (try dsimp only at hSw); go_simp; try with_reducible rfl
                (try dsimp only [Act.put, List.setIfInBounds_toArray, List.set_cons_zero, List.set_cons_succ])
                refine wpAnyH_take (i := 14) (v := ?_) rfl (by kernel_rfl) (by kernel_rfl) (by kernel_rfl) (fun _ _ _ h => h) (Or.inl ⟨by rfl, ?_⟩) (by assumption) ?_
                rotate_left
                · intro w hSw; (try dsimp only at hSw); go_simp; try with_reducible rfl
                (try dsimp only [Act.put, List.setIfInBounds_toArray, List.set_cons_zero, List.set_cons_succ])
                refine wpAnyH_take (i := 15) (v := ?_) rfl (by kernel_rfl) (by kernel_rfl) (by kernel_rfl) (fun _ _ _ h => h) (Or.inl ⟨by rfl, ?_⟩) (by assumption) ?_
                rotate_left
                · intro w hSw; (try dsimp only at hSw); go_simp; try with_reducible rfl
                (try dsimp only [Act.put, List.setIfInBounds_toArray, List.set_cons_zero, List.set_cons_succ])
                refine wpAnyH_take (i := 16) (v := ?_) rfl (by kernel_rfl) (by kernel_rfl) (by kernel_rfl) (fun _ _ _ h => h) (Or.inl ⟨by rfl, ?_⟩) (by assumption) ?_
                rotate_left
                · intro w hSw; (try dsimp only at hSw); go_simp; try with_reducible rfl
                (try dsimp only [Act.put, List.setIfInBounds_toArray, List.set_cons_zero, List.set_cons_succ])
                refine wpAnyH_take (i := 17) (v := .int .i64 (kds.length : Int)) rfl (by kernel_rfl) (by kernel_rfl) (by kernel_rfl) (fun _ _ _ h => h) (Or.inl ⟨by rfl, ?_⟩) (by assumption) ?_
                · intro w hSw; (try dsimp only at hSw); go_simp; (try rw [IntWalk.i64_in ((kds.length : Int)) (by omega)])
                (try dsimp only [Act.put, List.setIfInBounds_toArray, List.set_cons_zero, List.set_cons_succ])
                refine wpAnyH_take (i := 18) (v := ?_) rfl (by kernel_rfl) (by kernel_rfl) (by kernel_rfl) (fun _ _ _ h => h) (Or.inl ⟨by rfl, ?_⟩) (by assumption) ?_
                rotate_left
                · intro w hSw; (try dsimp only at hSw); go_simp; try with_reducible rfl
                (try dsimp only [Act.put, List.setIfInBounds_toArray, List.set_cons_zero, List.set_cons_succ])
                apply cut_key
                · intro key
                  refine wpAnyH_ready (rs := [4, 19]) (by kernel_rfl) (by simp) ?_
                  refine AllReadyH.cons rfl (fun K hK => ?_) ?_
                  · go_simp
                    refine hK.out _ _ ?_ (fun hHeld => ?_)
                    · exact cell_ext (ext_drewN w8 1) HK3.out
                    clear hK K
                    (try dsimp only [Act.put, List.setIfInBounds_toArray, List.set_cons_zero, List.set_cons_succ])
                    refine wpAnyH_take (i := 7) (v := ?_) rfl (by kernel_rfl) (by kernel_rfl) (by kernel_rfl) (fun _ _ _ h => h) (Or.inl ⟨by rfl, ?_⟩) (by assumption) ?_
                    rotate_left
                    · intro w hSw; (try dsimp only at hSw); go_simp; try with_reducible rfl
                    (try dsimp only [Act.put, List.setIfInBounds_toArray, List.set_cons_zero, List.set_cons_succ])
                    refine wpAnyH_ready (rs := [19]) (by kernel_rfl) (by simp) ?_
                    refine AllReadyH.cons rfl (fun K hK => ?_) ?_
                    · go_simp
                      refine hK.out _ _ ?_ (fun hHeld => ?_)
                      · exact cell_ext (ext_drewN _ 1) (cell_ext (ext_alloc w8 _) HK3.out)
                      clear hK K
                      (try dsimp only [Act.put, List.setIfInBounds_toArray, List.set_cons_zero, List.set_cons_succ])
                      exact key
                    exact AllReadyH.nil
                  refine AllReadyH.cons rfl (fun K hK => ?_) ?_
                  · go_simp
                    refine hK.out _ _ ?_ (fun hHeld => ?_)
                    · exact cell_ext (ext_drewN _ 1) (cell_ext (ext_alloc w8 _) HK3.out)
                    clear hK K
                    (try dsimp only [Act.put, List.setIfInBounds_toArray, List.set_cons_zero, List.set_cons_succ])
                    refine wpAnyH_ready (rs := [4]) (by kernel_rfl) (by simp) ?_
                    refine AllReadyH.cons rfl (fun K hK => ?_) ?_
                    · go_simp
                      refine hK.out _ _ ?_ (fun hHeld => ?_)
                      · exact cell_ext (ext_drewN _ 1) (cell_ext (ext_alloc w8 _) HK3.out)
                      clear hK K
                      (try dsimp only [Act.put, List.setIfInBounds_toArray, List.set_cons_zero, List.set_cons_succ])
                      refine wpAnyH_take (i := 7) (v := ?_) rfl (by kernel_rfl) (by kernel_rfl) (by kernel_rfl) (fun _ _ _ h => h) (Or.inl ⟨by rfl, ?_⟩) (by assumption) ?_
                      rotate_left
                      · intro w hSw; (try dsimp only at hSw); go_simp; try with_reducible rfl
                      (try dsimp only [Act.put, List.setIfInBounds_toArray, List.set_cons_zero, List.set_cons_succ])
                      exact cast (by kernel_rfl) key
                    exact AllReadyH.nil
                  exact AllReadyH.nil
                · skip
                  refine wpAnyH_ready (rs := [20]) (by kernel_rfl) (by simp) ?_
                  refine AllReadyH.cons rfl (fun K hK => ?_) ?_
                  · refine step_append_lies _ (by rfl) (.tmp 189) (.tmp 201) 101 (by rfl) B 58 q0 _ 1 8 Tryz.underlying101 HQ.out HQ0.out HQ1.out HQ2.out rfl (by omega) (.slice (some ⟨pg3, 0, none⟩) (dp + 1) pc) (dp + 1) (ps.take (dp + 1)) (by rfl) HD1.out ⟨w8.heap.size, 0, none⟩ 1 1 [.pointer (some ⟨g5, kds.length * 4, none⟩)] (by rfl) rfl (fun j v hj => cell_ext (ext_drewN _ 1) (new_cells w8 [.pointer (some ⟨g5, kds.length * 4, none⟩)] _ _ rfl j v hj)) (by intro v hv; simp only [List.mem_singleton] at hv; subst hv; rfl) (by omega) (by simp only [maxLen]; omega) (by omega) (by have := HS8.out; simp; omega) (w8.heap.size + 1) (by simp) ?_
                    intro g6 c6 w9 hown1 hg1 hfr hlt
                    have HO9 := Lib.hid hown1
                    have HG9 := Lib.hid hg1
                    have HFr := Lib.hid (show (Value.slice (some ⟨pg3, 0, none⟩) (n + 1) pc).ownBlock = some g6 ∨ w8.heap.size ≤ g6 from by
                      rcases hfr with e | e
                      · exact .inl e
                      · right; omega)
                    have HK9 := Lib.hid ((World.grownBy.cell_far hg1 ⟨ab, ao + 3, none⟩ (by show ab < _; simp; omega) (fun e => hpa (Option.some.inj e).symm)).trans (cell_ext (ext_drewN _ 1) (cell_ext (ext_alloc w8 (.cells #[.pointer (some ⟨g5, kds.length * 4, none⟩)] 58)) HK3.out)))
                    have yb := (World.grownBy.cell_far hg1 ⟨rb, 0, none⟩ (by show rb < _; simp; omega) (fun e => hrp (Option.some.inj e))).trans (cell_ext (ext_drewN _ 1) (yr (.cells #[.pointer (some ⟨g5, kds.length * 4, none⟩)] 58)))
                    have zb := (World.grownBy.frozen_far hg1 ⟨rb, 0, none⟩ (by show rb < _; simp; omega) (fun e => hrp (Option.some.inj e))).trans ((World.frozen?_of_block (w := w8) (((ext_drewN (w8.alloc (.cells #[.pointer (some ⟨g5, kds.length * 4, none⟩)] 58)) 1).block rb (by simp; omega)).trans ((ext_alloc w8 (.cells #[.pointer (some ⟨g5, kds.length * 4, none⟩)] 58)).block rb hrb))).trans HF0.out)
                    clear hown1 hg1 hfr
                    refine hK.out _ _ ?_ (fun hHeld => ?_)
                    · exact HK9.out
                    clear hK K
                    (try dsimp only [Act.put, List.setIfInBounds_toArray, List.set_cons_zero, List.set_cons_succ])
                    refine wpAnyH_take (i := 21) (v := ?_) rfl (by kernel_rfl) (by kernel_rfl) (by kernel_rfl) (fun _ _ _ h => h) (Or.inl ⟨by rfl, ?_⟩) (by assumption) ?_
                    rotate_left
                    · intro w hSw; (try dsimp only at hSw); go_simp; try with_reducible rfl
                    (try dsimp only [Act.put, List.setIfInBounds_toArray, List.set_cons_zero, List.set_cons_succ])
                    refine wpAnyH_take (i := 22) (v := ?_) rfl (by kernel_rfl) (by kernel_rfl) (by kernel_rfl) (fun _ _ _ h => h) (Or.inl ⟨by rfl, ?_⟩) (by assumption) ?_
                    rotate_left
                    · intro w hSw; (try dsimp only at hSw); go_simp; try with_reducible rfl
                    (try dsimp only [Act.put, List.setIfInBounds_toArray, List.set_cons_zero, List.set_cons_succ])
                    refine wpAnyH_ready (rs := [23]) (by kernel_rfl) (by simp) ?_
                    refine AllReadyH.cons rfl (fun K hK => ?_) ?_
                    · go_simp
                      refine hK.out _ _ ?_ (fun hHeld => ?_)
                      · exact (World.cell?_setCell_far _ _ _ _ (by exact hra)).trans HK9.out
                      clear hK K
                      (try dsimp only [Act.put, List.setIfInBounds_toArray, List.set_cons_zero, List.set_cons_succ])
                      refine wpAnyH_done (by kernel_rfl) ?_ _
                      go_wp2_with fail
                      go_ret
                      obtain ⟨col2, q1, q2⟩ := HM.out.push hd6 g6 c6 (by rw [HPt.out]; exact HO9.out) ⟨HG9.out.os, HG9.out.tape, HG9.out.output, by have := HG9.out.size; simp at this ⊢; omega⟩ (fun b hb hn => (HG9.out.block b (by simp; omega) hn).trans (((ext_drewN _ 1).block b (by simp; omega)).trans ((ext_alloc w8 _).block b hb))) HFr.out
                      exact ⟨0, _, HF.out, rfl, .inr ⟨rfl, col2, _, q1, tree_kid lv n dp hdn nm tx g5 c5, (HKw.out.trans HKp.out).trans q2⟩⟩
                    exact AllReadyH.nil
                  exact AllReadyH.nil
            · have hev : ∃ a, ev = .iface 195 (.pointer (some a)) := by
                rw [HTx.out.2.2]
                unfold errI
                rw [if_neg g7]
                exact ⟨_, rfl⟩
              obtain ⟨a, ha⟩ := hev
              have HF := Lib.hid (show rowF ⟨treeL lv n 0, n, m⟩ s = (cb, ⟨treeL lv n 0, n, m⟩) from by
                rw [HRw.out]
                unfold itemRow
                rw [if_neg HNk.out, if_neg HNb.out, ← HBd.out, ← HNm.out.2, ← HTx.out.2.1, if_pos g7])
              have HG7 := Lib.hid g7
              clear g7
              subst ha
              go_wp2_with fail
              go_ret
              exact rowp_bad cb _ HTx.out.2.2 HF.out HG7.out HX5.out
end Go.Proofs.YtflklbhgjfonbaaGreatDoor.Sc

/- Laws as texts: the document's builder: a row. -/
import Derived.Test.YtflklbhgjfonbaaGreatDoorScG
import Derived.Test.YtflklbhgjfonbaaGreatDoorScW
import Derived.Test.YtflklbhgjfonbaaGreatDoorLabR
import Derived.Test.YtflklbhgjfonbaaGreatDoorApp
import Derived.Deep.DeepCutAuto
import Derived.Deep.CutBlock
import Derived.Deep.RegionHeld3
namespace Go.Proofs.YtflklbhgjfonbaaGreatDoor.Sc
open Go.RowKit Mem Nest Fk Err Lk Gp

theorem tw_len {p : UInt8 → Bool} : ∀ (s : Tx) (i : Nat), i ≤ s.length → (∀ j (h : j < s.length), j < i → p s[j] = true) → (∀ (h : i < s.length), p s[i] = false) → (s.takeWhile p).length = i
  | [], i, hi, _, _ => by simp only [List.length_nil] at hi; simp; omega
  | a :: s, 0, _, _, h2 => by
    have h := h2 (by simp)
    simp only [List.getElem_cons_zero] at h
    rw [List.takeWhile_cons_of_neg (by rw [h]; decide)]
    rfl
  | a :: s, i + 1, hi, h1, h2 => by
    have h := h1 0 (by simp) (by omega)
    simp only [List.getElem_cons_zero] at h
    rw [List.takeWhile_cons_of_pos h, List.length_cons, tw_len s i (by simpa using hi) (fun j hj hji => by have := h1 (j + 1) (by simp; omega) (by omega); simpa using this) (fun hj => by have := h2 (by simp; omega); simpa using this)]
theorem tw_drop (p : UInt8 → Bool) : ∀ s : Tx, s.drop (s.takeWhile p).length = s.dropWhile p
  | [] => rfl
  | a :: s => by
    by_cases h : p a = true
    · rw [List.takeWhile_cons_of_pos h, List.dropWhile_cons_of_pos h, List.length_cons, List.drop_succ_cons, tw_drop p s]
    · rw [List.takeWhile_cons_of_neg h, List.dropWhile_cons_of_neg h]
      rfl
theorem tw_take (p : UInt8 → Bool) : ∀ s : Tx, s.take (s.takeWhile p).length = s.takeWhile p
  | [] => rfl
  | a :: s => by
    by_cases h : p a = true
    · rw [List.takeWhile_cons_of_pos h, List.length_cons, List.take_succ_cons, tw_take p s]
    · rw [List.takeWhile_cons_of_neg h]
      rfl
theorem int_infoR : (Tryz.prog.info? 3).map (fun i => (i.zero, i.size, i.bytes)) = some (some (.int .i64 0), 1, 8) := by kernel_rfl
def BRowP (B : Nat) (col : Nat → Nat) (bb n m : Nat) (lv : Nat → Lv) (s : Tx) (w : World) (e : Ending) (w' : World) : Prop :=
  ∃ (c : Int) (st : St), rowF ⟨treeL lv n 0, n, m⟩ s = (c, st) ∧ e = .returned (.int .i64 c) ∧ ((c ≠ 0 ∧ Below w.heap.size w w') ∨ (c = 0 ∧ ∃ (col' : Nat → Nat) (lv' : Nat → Lv) (WA' : Option Addr) (wc' : Nat), Bdr B col' w' bb st.n st.m lv' WA' wc' ∧ st.t = treeL lv' st.n 0 ∧ Kept B col col' w w'))
theorem browp_bad {B : Nat} {col : Nat → Nat} {bb n m : Nat} {lv : Nat → Lv} {s : Tx} {w w' : World} (c : Int) (h : rowF ⟨treeL lv n 0, n, m⟩ s = (c, ⟨treeL lv n 0, n, m⟩)) (hc : c ≠ 0) (hb : Below w.heap.size w w') : BRowP B col bb n m lv s w (.returned (.int .i64 c)) w' :=
  ⟨c, _, h, rfl, .inl ⟨hc, hb⟩⟩
theorem Bdr.ext {B : Nat} {col : Nat → Nat} {w w' : World} {bb n m : Nat} {lv : Nat → Lv} {WA : Option Addr} {wc : Nat} (h : Bdr B col w bb n m lv WA wc) (hb : Below w.heap.size w w') : Bdr B col w' bb n m lv WA wc :=
  ⟨h.sp.ext hb, blk_ext2 h.blk hb, h.way.mono fun b hc hl => ⟨hb.block b hl, hc⟩, h.cap, h.nil, h.cl, h.hB, h.n6, h.m3, h.km, h.l40⟩
set_option maxRecDepth 100000 in
set_option maxHeartbeats 4000000 in
theorem brow (B : Nat) (col : Nat → Nat) (bb n m : Nat) (lv : Nat → Lv) (WA : Option Addr) (cq : Nat) (s : Tx) (hs : s.length ≤ 100000) (w : World) (hB : B ≤ w.heap.size) (h : Bdr B col w bb n m lv WA cq) :
    Calls Tryz.prog 26 #[.pointer (some ⟨bb, 0, none⟩), .string ⟨s.toArray⟩] w (BRowP B col bb n m lv s w) := by
  have H := Lib.hid h
  have hn6 := h.n6
  have b4 := h.blk.cell 4 rfl
  have b5 := h.blk.cell 5 rfl
  have HCap := Lib.hid h.cap
  clear h
  obtain ⟨pr, hpr⟩ : ∃ pr, pr = prnB s := ⟨_, rfl⟩
  have HPr := Lib.hid (show Calls Tryz.prog 27 #[.string ⟨s.toArray⟩] w (RetB pr w) from by rw [hpr]; exact rprinted_any s (by omega) w)
  have HPe := Lib.hid hpr
  clear hpr
  go_enter Tryz.func26, Tryz.ntmps26
  go_wp2_with fail
  refine HPr.out.mono ?_
  rintro e w' ⟨rfl, rfl⟩
  cases pr with
  | false =>
    have HF := Lib.hid (show rowF ⟨treeL lv n 0, n, m⟩ s = (1, ⟨treeL lv n 0, n, m⟩) from by unfold rowF; rw [if_pos HPe.out.symm])
    go_wp2_with fail
    go_ret
    exact browp_bad 1 HF.out (by omega) (Below.refl _ _)
  | true =>
    go_upto_block 0 with fail
    go_cut [6] (fun t6 wc => t6 = .int .i64 ((leadF s : Nat) : Int) ∧ wc = w)
    case first =>
      go_wp2_with fail
      go_loopw [6] (fun t6 wr => ∃ i : Nat, t6 = .int .i64 i ∧ i ≤ s.length ∧ Hid (∀ j (h : j < s.length), j < i → (s[j] == 32) = true) ∧ wr = w) (fun t6 _ => s.length - (intOf t6).toNat)
      case atStart => exact ⟨0, rfl, Nat.zero_le _, (fun j h hj => absurd hj (Nat.not_lt_zero _)), rfl⟩
      case round =>
        obtain ⟨i, rfl, hi, HA, rfl⟩ := hrel
        by_cases hlt : i < s.length
        · have hltc : (i : Int) < (s.length : Int) := by omega
          have hsz : i < (ByteArray.mk s.toArray).size := hlt
          obtain ⟨c, hc⟩ : ∃ c : Int, (((ByteArray.mk s.toArray)[i]'hsz).toNat : Int) = c := ⟨_, rfl⟩
          have HC := Lib.hid (show (s[i].toNat : Int) = c from hc)
          by_cases h10 : c = 32
          · have hq : (c == 32) = true := by simp [h10]
            have HV := Lib.hid (show s[i] = 32 from UInt8.toNat.inj (by have := HC.out; simp; omega))
            clear h10
            go_wp2_with fail
            go_roundw
            case rel =>
              refine ⟨i + 1, by go_num, by omega, fun j h hj => ?_, by trivial⟩
              by_cases e : j = i
              · subst e; rw [HV.out]; rfl
              · exact HA.out j h (by omega)
            case measure => simp [intOf]; omega
          · have hq : (c == 32) = false := by simp [h10]
            have HV := Lib.hid (show leadF s = i from tw_len s i hi HA.out fun h => by
              rw [beq_eq_false_iff_ne]
              intro e
              have := HC.out
              rw [e] at this
              exact h10 (by rw [← this]; rfl))
            clear h10
            go_wp2_with fail
            go_meet
            exact ⟨by rw [HV.out], rfl⟩
        · obtain rfl : s.length = i := by omega
          have hltc : ¬ (s.length : Int) < (s.length : Int) := by omega
          have HV := Lib.hid (show leadF s = s.length from tw_len s _ hi HA.out fun h => by omega)
          go_wp2_with fail
          go_meet
          exact ⟨by rw [HV.out], rfl⟩
    case rest =>
      obtain ⟨e6, ew⟩ := hcut
      subst e6
      have ew2 : w = wc := ew.symm
      clear ew
      subst ew2
      have hlb := lead_body s
      obtain ⟨bd, hbd⟩ : ∃ bd, bd = bodyF s := ⟨_, rfl⟩
      obtain ⟨ld, hld⟩ : ∃ ld, ld = leadF s := ⟨_, rfl⟩
      rw [← hbd, ← hld] at hlb
      rw [← hld]
      have hx1 : (ByteArray.mk s.toArray).extract ld s.length = ⟨bd.toArray⟩ := by
        rw [drop_ba, hld, hbd]
        unfold leadF bodyF
        rw [tw_drop]
      have HBd := Lib.hid hbd
      have HLd := Lib.hid hld
      clear hbd hld
      have hl1 : (ld : Int) ≤ 100000 := by omega
      have hl0 : (0 : Int) ≤ (bd.length : Int) := by omega
      have hl2 : (bd.length : Int) ≤ 100000 := by omega
      have hl3 : (ld : Int) ≤ (s.length : Int) := by omega
      have hl4 : (s.length : Int) ≤ 100000 := by omega
      obtain ⟨dp, hdp⟩ : ∃ dp, dp = ld / 2 := ⟨_, rfl⟩
      have hq1 : Int.tdiv (ld : Int) 2 = (dp : Int) := by rw [hdp]; rfl
      obtain ⟨md, hmd⟩ : ∃ md, md = ld % 2 := ⟨_, rfl⟩
      have hq2 : Int.tmod (ld : Int) 2 = (md : Int) := by rw [hmd]; rfl
      have HDp := Lib.hid hdp
      have HMd := Lib.hid hmd
      have hdb : (dp : Int) ≤ 100000 := by omega
      have hdb0 : (0 : Int) ≤ (dp : Int) := by omega
      clear hdp hmd
      by_cases g1 : md = 1
      · have g1' : ((md : Int) == 1) = true := by rw [g1]; rfl
        have HF := Lib.hid (show rowF ⟨treeL lv n 0, n, m⟩ s = (1, ⟨treeL lv n 0, n, m⟩) from row_deep HPe.out.symm (.inl (by rw [← HLd.out, ← HMd.out]; exact g1)))
        clear g1
        go_wp2_with fail
        go_ret
        exact browp_bad 1 HF.out (by omega) (Below.refl _ _)
      have g1' : ((md : Int) == 1) = false := by rw [beq_eq_false_iff_ne]; omega
      by_cases g2 : n < dp
      · have g2' : (n : Int) < (dp : Int) := by omega
        have HF := Lib.hid (show rowF ⟨treeL lv n 0, n, m⟩ s = (1, ⟨treeL lv n 0, n, m⟩) from row_deep HPe.out.symm (.inr (by rw [← HLd.out, ← HDp.out]; exact g2)))
        clear g1 g2
        go_wp2_with fail
        go_ret
        exact browp_bad 1 HF.out (by omega) (Below.refl _ _)
      have g2' : ¬ (n : Int) < (dp : Int) := by omega
      have hdn : dp ≤ n := by omega
      have HOk := Lib.hid (show ¬ (leadF s % 2 = 1 ∨ n < leadF s / 2) from by rw [← HLd.out, ← HMd.out, ← HDp.out]; omega)
      clear g1 g2
      have HAt := Lib.hid ((at_any B col w bb n m lv WA cq H.out dp hdn).mono fun e w' h => (show e = .returned (itV (lv dp) (decide (dp < n))) ∧ Below w.heap.size w w' from h))
      have hkl := kids_len lv hdn
      have hkr := H.out.sp.krows hdn
      have hbdd := (H.out.sp.bd dp hdn).2
      have hbdl := (H.out.sp.bd dp hdn).1
      obtain ⟨kds, hkds⟩ : ∃ l, l = (treeL lv (n - dp) dp).kids := ⟨_, rfl⟩
      rw [← hkds] at hkl hkr
      have hkb : kds.length ≤ 1001 := by
        rw [hkl]
        cases decide (dp < n) <;> simp <;> omega
      have HSn := Lib.hid (show spn dp (treeL lv n 0) = treeL lv (n - dp) dp from by rw [spn_tree lv dp n 0 hdn, Nat.zero_add])
      have HKd := Lib.hid (And.intro hkds hkl)
      have HKr := Lib.hid hkr
      unfold itV at HAt
      rw [← hkl] at HAt
      clear hkds hkl hkr
      go_wp2_with fail
      refine HAt.out.mono ?_
      rintro e w2 ⟨rfl, hb2⟩
      go_upto_region 12 with fail
      obtain ⟨w3, hw3⟩ : ∃ w3, w3 = w2.alloc (.cells #[.string ⟨(lv dp).label.toArray⟩, .string ⟨(lv dp).head.toArray⟩, .slice (lv dp).LA (lv dp).lines.length (lv dp).lc, .slice (lv dp).KA kds.length (lv dp).kc] 26) := ⟨_, rfl⟩
      have x3 : Below w2.heap.size w2 w3 := by rw [hw3]; exact ext_alloc w2 _
      have c3 : Blk w3 w2.heap.size 26 [.string ⟨(lv dp).label.toArray⟩, .string ⟨(lv dp).head.toArray⟩, .slice (lv dp).LA (lv dp).lines.length (lv dp).lc, .slice (lv dp).KA kds.length (lv dp).kc] := by rw [hw3]; exact Blk.new w2 _ _
      obtain ⟨N0, hN0⟩ : ∃ N0, N0 = w2.heap.size := ⟨_, rfl⟩
      rw [← hw3, ← hN0]
      rw [← hN0] at c3
      have HX3 := Lib.hid (ext_trans hb2 x3)
      have HN0 := Lib.hid (show w.heap.size ≤ N0 from by have := hb2.size; omega)
      have HC3 := Lib.hid c3
      have b4 := cell_ext HX3.out b4
      have b5 := cell_ext HX3.out b5
      have i0 := c3.cell 0 rfl
      have i1 := c3.cell 1 rfl
      have i2 := c3.cell 2 rfl
      have i3 := c3.cell 3 rfl
      clear hw3 hN0 x3 c3 hb2 HAt
      by_cases hpx : Lib.hasPrefix bd [124] = true
      · obtain ⟨b, hb⟩ : ∃ b, bd = 124 :: b := by
          cases hc : bd with
          | nil => rw [hc] at hpx; simp [Lib.hasPrefix] at hpx
          | cons c t =>
            rw [hc] at hpx
            have h3 : ((124 : UInt8) == c) = true := by simpa [Lib.hasPrefix, List.isPrefixOf] using hpx
            exact ⟨t, by rw [(by simpa using h3 : (124 : UInt8) = c)]⟩
        have HRw := Lib.hid (row_line (st := ⟨treeL lv n 0, n, m⟩) HPe.out.symm HOk.out (b := b) (by rw [← HBd.out, hb]))
        have hbl : b.length + 1 = bd.length := by rw [hb]; rfl
        have hpos : (0 : Int) < (bd.length : Int) := by omega
        have hsz : 0 < (ByteArray.mk bd.toArray).size := by show 0 < bd.length; omega
        obtain ⟨c, hc⟩ : ∃ c : Int, (((ByteArray.mk bd.toArray)[0]'hsz).toNat : Int) = c := ⟨_, rfl⟩
        have hq : (c == 124) = true := by
          have h1 : ((bd[0]'(by omega)).toNat : Int) = c := hc
          have h2 : bd[0]'(by omega) = 124 := by simp [hb]
          rw [h2] at h1
          rw [← h1]
          rfl
        have hx2 : (ByteArray.mk bd.toArray).extract 1 bd.length = ⟨b.toArray⟩ := by rw [drop_ba, hb]; rfl
        have hp1 : (1 : Int) ≤ (bd.length : Int) := by omega
        clear hb hpx
        by_cases g3 : dp = n
        · have g3' : ((dp : Int) != (n : Int)) = false := by simp [g3]
          have HG3 := Lib.hid (show ¬ leadF s / 2 ≠ n from by rw [← HLd.out, ← HDp.out]; exact fun h => h g3)
          have hkn : (spn n (treeL lv n 0)).kids.length = kds.length := by rw [show spn n (treeL lv n 0) = spn dp (treeL lv n 0) from by rw [g3], HSn.out, ← HKd.out.1]
          have hln : (spn n (treeL lv n 0)).lines.length = (lv dp).lines.length := by rw [spn_in, g3]
          have HKn := Lib.hid hkn
          have HLn := Lib.hid hln
          have HG := Lib.hid g3
          have h40 : (lv dp).lines.length ≤ 40 := by rw [g3]; exact H.out.l40
          clear g3 hkn hln
          by_cases g4 : kds.length = 0
          · have g4' : ¬ (0 : Int) < (kds.length : Int) := by omega
            have HG4 := Lib.hid (show ¬ (spn n (treeL lv n 0)).kids ≠ [] from fun h => h (List.eq_nil_of_length_eq_zero (by rw [HKn.out]; exact g4)))
            have HK0 := Lib.hid g4
            clear g4
            have HBh := Lib.hid (rbehind b (by omega) w3)
            obtain ⟨tx, htx⟩ : ∃ tx, tx = bhT b := ⟨_, rfl⟩
            obtain ⟨cb, hcb⟩ : ∃ cb, cb = bhC b := ⟨_, rfl⟩
            rw [← htx, ← hcb] at HBh
            have HTx := Lib.hid (And.intro htx hcb)
            clear htx hcb
            go_wp2_with fail
            refine HBh.out.mono ?_
            rintro e w4 ⟨rfl, hb4⟩
            have HX4 := Lib.hid (ext_trans HX3.out hb4)
            have b4 := cell_ext hb4 b4
            have i2 := cell_ext hb4 i2
            clear hb4 HBh
            by_cases g5 : (lv dp).lines.length = 40
            · have g5' : (((lv dp).lines.length : Int) == 40) = true := by rw [g5]; rfl
              have HF := Lib.hid (show rowF ⟨treeL lv n 0, n, m⟩ s = (2, ⟨treeL lv n 0, n, m⟩) from by
                rw [HRw.out, if_neg HG3.out]
                unfold lineRow
                rw [if_neg HG4.out, if_pos (.inl (by rw [HLn.out, g5]; omega))])
              clear g5
              go_wp2_with fail
              go_ret
              exact browp_bad 2 HF.out (by omega) HX4.out
            have g5' : (((lv dp).lines.length : Int) == 40) = false := by rw [beq_eq_false_iff_ne]; omega
            by_cases g6 : 300 < tx.length
            · have g6' : (300 : Int) < (tx.length : Int) := by omega
              have HF := Lib.hid (show rowF ⟨treeL lv n 0, n, m⟩ s = (2, ⟨treeL lv n 0, n, m⟩) from by
                rw [HRw.out, if_neg HG3.out]
                unfold lineRow
                rw [if_neg HG4.out, if_pos (.inr (by rw [← HTx.out.1]; exact g6))])
              clear g5 g6
              go_wp2_with fail
              go_ret
              exact browp_bad 2 HF.out (by omega) HX4.out
            have g6' : ¬ (300 : Int) < (tx.length : Int) := by omega
            have hl39 : (lv dp).lines.length < 40 := by omega
            have HG5 := Lib.hid (show ¬ (40 ≤ (spn n (treeL lv n 0)).lines.length ∨ 300 < (bhT b).length) from by
              rw [HLn.out, ← HTx.out.1]
              omega)
            clear g5 g6
            by_cases g7 : cb = 0
            · have HF := Lib.hid (show rowF ⟨treeL lv n 0, n, m⟩ s = (0, ⟨upd (addLine tx) n (treeL lv n 0), n, m⟩) from by
                rw [HRw.out, if_neg HG3.out]
                unfold lineRow
                rw [if_neg HG4.out, if_neg HG5.out, if_neg (by rw [← HTx.out.2]; exact fun h => h g7), HTx.out.1])
              have HL39 := Lib.hid (show (lv n).lines.length < 40 from by rw [← HG.out]; exact hl39)
              subst g7
              have H4 := Lib.hid (H.out.ext HX4.out)
              clear i0 i1 i3 hl39
              go_upto_region 19 with fail
              have hd4 : Below w4.heap.size w4 w4.drew := ext_drewN w4 1
              have b4d := cell_ext hd4 b4
              have H5 := Lib.hid (H4.out.ext hd4)
              have q0 := H5.out.blk.cell 0 rfl
              have q1 := H5.out.blk.cell 1 rfl
              have q2 := H5.out.blk.cell 2 rfl
              have q3 := H5.out.blk.cell 3 rfl
              have HBs := Lib.hid (show B ≤ w4.drew.heap.size from by have := hd4.size; have := HX4.out.size; omega)
              have HP := Lib.hid (put_any true tx [] [] (addLine tx) n n n (by omega) (by omega) (Nat.le_refl _) B lv (fun col w WA wc h hB => by
                have h2 := put_line tx [] [] n (by omega) B lv (by have := HL39.out; omega) col w WA wc h hB
                rw [decide_eq_false (Nat.lt_irrefl n)]
                exact h2) n 0 (by omega) col w4.drew WA cq (H5.out.sp.sub (Nat.zero_le _)) H5.out.way HBs.out H5.out.cap.1 H5.out.cap.2)
              refine wp_region_held_drew (S := fun w' => w'.cell? ⟨bb, 4, none⟩ = some (.slice WA n cq)) (by kernel_rfl) ?_ (fun hHeld => ?_)
              · exact b4d
              refine wpAnyH_take (i := 0) (v := ?_) rfl (by kernel_rfl) (by kernel_rfl) (by kernel_rfl) (fun _ _ _ h => h) (Or.inl ⟨by rfl, ?_⟩) (by assumption) ?_
              rotate_left
              · intro w hSw; (try dsimp only at hSw); go_simp; try with_reducible rfl
              (try dsimp only [Act.put, List.setIfInBounds_toArray, List.set_cons_zero, List.set_cons_succ])
              refine wpAnyH_take (i := 1) (v := ?_) rfl (by kernel_rfl) (by kernel_rfl) (by kernel_rfl) (fun _ _ _ h => h) (Or.inl ⟨by rfl, ?_⟩) (by assumption) ?_
              rotate_left
              · intro w hSw; (try dsimp only at hSw); go_simp; try with_reducible rfl
              (try dsimp only [Act.put, List.setIfInBounds_toArray, List.set_cons_zero, List.set_cons_succ])
              refine wpAnyH_take (i := 2) (v := ?_) rfl (by kernel_rfl) (by kernel_rfl) (by kernel_rfl) (fun _ _ _ h => h) (Or.inl ⟨by rfl, ?_⟩) (by assumption) ?_
              rotate_left
              · intro w hSw; (try dsimp only at hSw); go_simp; try with_reducible rfl
              (try dsimp only [Act.put, List.setIfInBounds_toArray, List.set_cons_zero, List.set_cons_succ])
              refine wpAnyH_take (i := 3) (v := ?_) rfl (by kernel_rfl) (by kernel_rfl) (by kernel_rfl) (fun _ _ _ h => h) (Or.inl ⟨by rfl, ?_⟩) (by assumption) ?_
              rotate_left
              · intro w hSw; (try dsimp only at hSw); go_simp; try with_reducible rfl
              (try dsimp only [Act.put, List.setIfInBounds_toArray, List.set_cons_zero, List.set_cons_succ])
              refine wpAnyH_take (i := 5) (v := ?_) rfl (by kernel_rfl) (by kernel_rfl) (by kernel_rfl) (fun _ _ _ h => h) (Or.inl ⟨by rfl, ?_⟩) (by assumption) ?_
              rotate_left
              · intro w hSw; (try dsimp only at hSw); go_simp; try with_reducible rfl
              (try dsimp only [Act.put, List.setIfInBounds_toArray, List.set_cons_zero, List.set_cons_succ])
              refine wpAnyH_take (i := 6) (v := ?_) rfl (by kernel_rfl) (by kernel_rfl) (by kernel_rfl) (fun _ _ _ h => h) (Or.inl ⟨by rfl, ?_⟩) (by assumption) ?_
              rotate_left
              · intro w hSw; (try dsimp only at hSw); go_simp; try with_reducible rfl
              (try dsimp only [Act.put, List.setIfInBounds_toArray, List.set_cons_zero, List.set_cons_succ])
              refine wpAnyH_take (i := 7) (v := ?_) rfl (by kernel_rfl) (by kernel_rfl) (by kernel_rfl) (fun _ _ _ h => h) (Or.inl ⟨by rfl, ?_⟩) (by assumption) ?_
              rotate_left
              · intro w hSw; (try dsimp only at hSw); go_simp; try with_reducible rfl
              (try dsimp only [Act.put, List.setIfInBounds_toArray, List.set_cons_zero, List.set_cons_succ])
              refine wpAnyH_take (i := 8) (v := ?_) rfl (by kernel_rfl) (by kernel_rfl) (by kernel_rfl) (fun _ _ _ h => h) (Or.inl ⟨by rfl, ?_⟩) (by assumption) ?_
              rotate_left
              · intro w hSw; (try dsimp only at hSw); go_simp; try with_reducible rfl
              (try dsimp only [Act.put, List.setIfInBounds_toArray, List.set_cons_zero, List.set_cons_succ])
              refine wpAnyH_take (i := 9) (v := ?_) rfl (by kernel_rfl) (by kernel_rfl) (by kernel_rfl) (fun _ _ _ h => h) (Or.inl ⟨by rfl, ?_⟩) (by assumption) ?_
              rotate_left
              · intro w hSw; (try dsimp only at hSw); go_simp; try with_reducible rfl
              (try dsimp only [Act.put, List.setIfInBounds_toArray, List.set_cons_zero, List.set_cons_succ])
              refine wpAnyH_take (i := 10) (v := ?_) rfl (by kernel_rfl) (by kernel_rfl) (by kernel_rfl) (fun _ _ _ h => h) (Or.inl ⟨by rfl, ?_⟩) (by assumption) ?_
              rotate_left
              · intro w hSw; (try dsimp only at hSw); go_simp; try with_reducible rfl
              (try dsimp only [Act.put, List.setIfInBounds_toArray, List.set_cons_zero, List.set_cons_succ])
              refine wpAnyH_ready (rs := [4]) (by kernel_rfl) (by simp) ?_
              refine AllReadyH.cons rfl (fun K hK => ?_) ?_
              · go_simp
                refine hK.out _ _ ?_ (fun hHeld => ?_)
                · exact b4d
                clear hK K
                (try dsimp only [Act.put, List.setIfInBounds_toArray, List.set_cons_zero, List.set_cons_succ])
                refine wpAnyH_ready (rs := [11]) (by kernel_rfl) (by simp) ?_
                refine AllReadyH.cons rfl (fun K hK => ?_) ?_
                · go_simp
                  refine HP.out.mono ?_
                  rintro e w9 ⟨l, o, rfl, hp⟩
                  have HPr := Lib.hid hp
                  have h9 : w9.heap[bb]? = w4.drew.heap[bb]? := hp.far bb H5.out.blk.lt (by rw [H5.out.cl]; unfold cK; omega)
                  have hb9 := blk_same H5.out.blk h9
                  have k0 := hb9.cell 0 rfl
                  have k1 := hb9.cell 1 rfl
                  have k2 := hb9.cell 2 rfl
                  have k3 := hb9.cell 3 rfl
                  have k4 := hb9.cell 4 rfl
                  have f0 := hb9.free 0
                  have f1 := hb9.free 1
                  have f2 := hb9.free 2
                  have f3 := hb9.free 3
                  clear hp h9 hb9
                  unfold itV
                  go_wp2_with fail
                  refine hK.out _ _ ?_ (fun hHeld => ?_)
                  · exact k4
                  clear hK K
                  (try dsimp only [Act.put, List.setIfInBounds_toArray, List.set_cons_zero, List.set_cons_succ])
                  refine wpAnyH_take (i := 12) (v := ?_) rfl (by kernel_rfl) (by kernel_rfl) (by kernel_rfl) (fun _ _ _ h => h) (Or.inl ⟨by rfl, ?_⟩) (by assumption) ?_
                  rotate_left
                  · intro w hSw; (try dsimp only at hSw); go_simp; try with_reducible rfl
                  (try dsimp only [Act.put, List.setIfInBounds_toArray, List.set_cons_zero, List.set_cons_succ])
                  refine wpAnyH_take (i := 13) (v := ?_) rfl (by kernel_rfl) (by kernel_rfl) (by kernel_rfl) (fun _ _ _ h => h) (Or.inl ⟨by rfl, ?_⟩) (by assumption) ?_
                  rotate_left
                  · intro w hSw; (try dsimp only at hSw); go_simp; try with_reducible rfl
                  (try dsimp only [Act.put, List.setIfInBounds_toArray, List.set_cons_zero, List.set_cons_succ])
                  refine wpAnyH_ready (rs := [14]) (by kernel_rfl) (by simp) ?_
                  refine AllReadyH.cons rfl (fun K hK => ?_) ?_
                  · go_simp
                    refine hK.out _ _ ?_ (fun hHeld => ?_)
                    · exact ((World.cell?_setCell_other _ _ _ _ (by simp)).trans ((World.cell?_setCell_other _ _ _ _ (by simp)).trans ((World.cell?_setCell_other _ _ _ _ (by simp)).trans ((World.cell?_setCell_other _ _ _ _ (by simp)).trans k4))))
                    clear hK K
                    (try dsimp only [Act.put, List.setIfInBounds_toArray, List.set_cons_zero, List.set_cons_succ])
                    refine wpAnyH_done (by kernel_rfl) ?_ _
                    go_wp2_with fail
                    go_ret
                    obtain ⟨col', lv', hP0⟩ := H5.out.put (by omega) l o HPr.out
                    exact ⟨0, _, HF.out, rfl, .inr ⟨rfl, col', lv', WA, cq, hP0.line H5.out HL39.out, hP0.tree, (Kept.of (ext_trans HX4.out (ext_drewN w4 1))).trans hP0.kept⟩⟩
                  exact AllReadyH.nil
                exact AllReadyH.nil
              exact AllReadyH.nil
            · have g7' : ((cb : Int) == 0) = false := by rw [beq_eq_false_iff_ne]; exact g7
              have HF := Lib.hid (show rowF ⟨treeL lv n 0, n, m⟩ s = (cb, ⟨treeL lv n 0, n, m⟩) from by
                rw [HRw.out, if_neg HG3.out]
                unfold lineRow
                rw [if_neg HG4.out, if_neg HG5.out, if_pos (by rw [← HTx.out.2]; exact g7), ← HTx.out.2])
              have HG7 := Lib.hid g7
              clear g7
              go_wp2_with fail
              go_ret
              exact browp_bad cb HF.out HG7.out HX4.out
          · have g4' : (0 : Int) < (kds.length : Int) := by omega
            have HF := Lib.hid (show rowF ⟨treeL lv n 0, n, m⟩ s = (1, ⟨treeL lv n 0, n, m⟩) from by
              rw [HRw.out, if_neg HG3.out]
              unfold lineRow
              rw [if_pos (fun h => by have h2 := HKn.out; rw [h] at h2; exact g4 h2.symm)])
            clear g4
            go_wp2_with fail
            go_ret
            exact browp_bad 1 HF.out (by omega) HX3.out
        · have g3' : ((dp : Int) != (n : Int)) = true := by rw [bne_iff_ne]; omega
          have HF := Lib.hid (show rowF ⟨treeL lv n 0, n, m⟩ s = (1, ⟨treeL lv n 0, n, m⟩) from by
            rw [HRw.out, if_pos (by rw [← HLd.out, ← HDp.out]; exact g3)])
          clear g3
          go_wp2_with fail
          go_ret
          exact browp_bad 1 HF.out (by omega) HX3.out
      · have HPx := Lib.hid (show Lib.hasPrefix bd [124] = false from by simpa using hpx)
        have HRw := Lib.hid (row_item (st := ⟨treeL lv n 0, n, m⟩) HPe.out.symm HOk.out (by rw [← HBd.out]; exact HPx.out))
        clear hpx
        go_cut [59] (fun t59 wx => t59 = .bool false ∧ wx = w3)
        case first =>
          by_cases hz : bd.length = 0
          · have hz' : ¬ (0 : Int) < (bd.length : Int) := by omega
            go_wp2_with fail
            go_meet
            exact ⟨rfl, rfl⟩
          · have hz' : (0 : Int) < (bd.length : Int) := by omega
            have hsz : 0 < (ByteArray.mk bd.toArray).size := by show 0 < bd.length; omega
            obtain ⟨c, hc⟩ : ∃ c : Int, (((ByteArray.mk bd.toArray)[0]'hsz).toNat : Int) = c := ⟨_, rfl⟩
            have hq : (c == 124) = false := by
              rw [beq_eq_false_iff_ne]
              intro e
              have h1 : ((bd[0]'(by omega)).toNat : Int) = c := hc
              rw [e] at h1
              have h2 : bd[0]'(by omega) = 124 := UInt8.toNat.inj (by simp; omega)
              have h3 := HPx.out
              cases hb : bd with
              | nil => rw [hb] at hz; exact hz rfl
              | cons a t =>
                simp only [hb, List.getElem_cons_zero] at h2
                rw [hb, h2] at h3
                simp [Lib.hasPrefix, List.isPrefixOf] at h3
            go_wp2_with fail
            go_meet
            exact ⟨rfl, rfl⟩
        case rest =>
          obtain ⟨e59, ew⟩ := hcut
          subst e59
          have ew2 : w3 = wc := ew.symm
          clear ew
          subst ew2
          go_upto_block 2 with fail
          go_cut [12] (fun t12 wx => t12 = .int .i64 (((nameF bd).length : Nat) : Int) ∧ wx = w3)
          case first =>
            go_wp2_with fail
            go_loopw [12] (fun t12 wr => ∃ i : Nat, t12 = .int .i64 i ∧ i ≤ bd.length ∧ Hid (∀ j (h : j < bd.length), j < i → (bd[j] != 32) = true) ∧ wr = w3) (fun t12 _ => bd.length - (intOf t12).toNat)
            case atStart => exact ⟨0, rfl, Nat.zero_le _, (fun j h hj => absurd hj (Nat.not_lt_zero _)), rfl⟩
            case round =>
              obtain ⟨i, rfl, hi, HA, rfl⟩ := hrel
              by_cases hlt : i < bd.length
              · have hltc : (i : Int) < (bd.length : Int) := by omega
                have hsz : i < (ByteArray.mk bd.toArray).size := hlt
                obtain ⟨c, hc⟩ : ∃ c : Int, (((ByteArray.mk bd.toArray)[i]'hsz).toNat : Int) = c := ⟨_, rfl⟩
                have HC := Lib.hid (show (bd[i].toNat : Int) = c from hc)
                by_cases h10 : c = 32
                · have hq : (c != 32) = false := by simp [h10]
                  have HV := Lib.hid (show (nameF bd).length = i from tw_len bd i hi HA.out fun h => by
                    have h1 : bd[i] = 32 := UInt8.toNat.inj (by have := HC.out; simp; omega)
                    rw [h1]
                    rfl)
                  clear h10
                  go_wp2_with fail
                  go_meet
                  exact ⟨by rw [HV.out], rfl⟩
                · have hq : (c != 32) = true := by simp [h10]
                  have HV := Lib.hid (show (bd[i] != 32) = true from by
                    rw [bne_iff_ne]
                    intro e
                    have := HC.out
                    rw [e] at this
                    exact h10 (by rw [← this]; rfl))
                  clear h10
                  go_wp2_with fail
                  go_roundw
                  case rel =>
                    refine ⟨i + 1, by go_num, by omega, fun j h hj => ?_, by trivial⟩
                    by_cases e : j = i
                    · subst e; exact HV.out
                    · exact HA.out j h (by omega)
                  case measure => simp [intOf]; omega
              · obtain rfl : bd.length = i := by omega
                have hltc : ¬ (bd.length : Int) < (bd.length : Int) := by omega
                have HV := Lib.hid (show (nameF bd).length = bd.length from tw_len bd _ hi HA.out fun h => by omega)
                go_wp2_with fail
                go_meet
                exact ⟨by rw [HV.out], rfl⟩
          case rest =>
            obtain ⟨e12, ew⟩ := hcut
            subst e12
            have ew2 : w3 = wc := ew.symm
            clear ew
            subst ew2
            obtain ⟨nm, hnm⟩ : ∃ nm, nm = nameF bd := ⟨_, rfl⟩
            obtain ⟨rt, hrt⟩ : ∃ rt, rt = restF bd := ⟨_, rfl⟩
            rw [← hnm]
            have hlr : nm.length + rt.length = bd.length := by
              rw [hnm, hrt]
              unfold nameF restF
              rw [← List.length_append, List.takeWhile_append_dropWhile]
            have hx3 : (ByteArray.mk bd.toArray).extract 0 nm.length = ⟨nm.toArray⟩ := by
              apply ByteArray.ext
              simp only [ByteArray.data_extract, List.extract_toArray, List.extract_eq_take_drop, List.drop_zero, Nat.sub_zero]
              rw [hnm]
              unfold nameF
              rw [tw_take]
            have hx4 : (ByteArray.mk bd.toArray).extract nm.length bd.length = ⟨rt.toArray⟩ := by
              rw [drop_ba, hnm, hrt]
              unfold nameF restF
              rw [tw_drop]
            have HNm := Lib.hid (And.intro hnm hrt)
            clear hnm hrt
            have hn1 : (0 : Int) ≤ (nm.length : Int) := by omega
            have hn2 : (nm.length : Int) ≤ (bd.length : Int) := by omega
            obtain ⟨lbl, hlbl⟩ : ∃ b, b = (Lab.lab nm).isSome := ⟨_, rfl⟩
            have HLb := Lib.hid ((Lab.labelof_any nm (by omega) w3).mono fun e w' h => (show ∃ (q : Int) (lo hi : List UInt8), e = .returned (.tuple #[.agg #[.int .i64 q, .string ⟨lo.toArray⟩, .string ⟨hi.toArray⟩], .bool lbl]) ∧ Below w3.heap.size w3 w' from by
              obtain ⟨ok, q, lo, hi, h1, h2, h3⟩ := h
              refine ⟨q, lo, hi, ?_, h2⟩
              have : ok = lbl := by
                rw [hlbl]
                rcases h3 with ⟨rfl, h⟩ | ⟨rfl, h⟩ <;> rw [h] <;> rfl
              rw [h1, this]))
            have HLe := Lib.hid hlbl
            clear hlbl
            go_wp2_with fail
            refine HLb.out.mono ?_
            rintro e w4 ⟨q, lo, hi, rfl, hb4⟩
            have HX4 := Lib.hid (ext_trans HX3.out hb4)
            have HC4 := Lib.hid (blk_ext2 HC3.out hb4)
            have b4 := cell_ext hb4 b4
            have b5 := cell_ext hb4 b5
            have i0 := HC4.out.cell 0 rfl
            have i1 := HC4.out.cell 1 rfl
            have i2 := HC4.out.cell 2 rfl
            have i3 := HC4.out.cell 3 rfl
            clear hb4 HLb
            cases lbl with
            | false =>
              have HF := Lib.hid (show rowF ⟨treeL lv n 0, n, m⟩ s = (7, ⟨treeL lv n 0, n, m⟩) from by
                rw [HRw.out]
                unfold itemRow
                rw [if_pos (.inl (by rw [← HBd.out, ← HNm.out.1]; have := HLe.out; cases h : Lab.lab nm with | none => rfl | some k => rw [h] at this; cases this))])
              go_wp2_with fail
              go_quiet (fail)
              go_wp2_with fail
              go_ret
              exact browp_bad 7 HF.out (by omega) (ext_trans HX4.out (ext_drewN w4 nq))
            | true =>
              obtain ⟨ki, hki⟩ : ∃ ki, ki = kidI (lbB nm) kds := ⟨_, rfl⟩
              have hdr : Below w4.heap.size w4 w4.drew := ext_drewN w4 1
              have HKi := Lib.hid ((rkid (lv dp).label (lv dp).head (.slice (lv dp).LA (lv dp).lines.length (lv dp).lc) kds (rowsO lv n dp) (by omega) (lv dp).KA (lv dp).kc nm w4.drew (HKr.out.ext (ext_trans HX4.out hdr))).mono fun e w' h => (show e = .returned (.int .i64 ki) ∧ Below w4.drew.heap.size w4.drew w' from by rw [hki]; exact h))
              have HKp := Lib.hid (show 0 ≤ ki ↔ kidB (spn dp (treeL lv n 0)) nm = true from by
                rw [hki, HSn.out, kidI_pos, HKd.out.1]
                rfl)
              clear hki
              have j0 := cell_ext hdr i0
              have j1 := cell_ext hdr i1
              have j2 := cell_ext hdr i2
              have j3 := cell_ext hdr i3
              have HDr := Lib.hid hdr
              go_wp2_with fail
              go_region_held3 (fun w' => w'.cell? ⟨N0, 0, none⟩ = some (.string ⟨(lv dp).label.toArray⟩) ∧ w'.cell? ⟨N0, 1, none⟩ = some (.string ⟨(lv dp).head.toArray⟩) ∧ w'.cell? ⟨N0, 2, none⟩ = some (.slice (lv dp).LA (lv dp).lines.length (lv dp).lc) ∧ w'.cell? ⟨N0, 3, none⟩ = some (.slice (lv dp).KA kds.length (lv dp).kc)) ((first | exact ⟨j0, j1, j2, j3⟩ | exact ⟨cell_ext hbk j0, cell_ext hbk j1, cell_ext hbk j2, cell_ext hbk j3⟩)) ((go_at_call 58; refine HKi.out.mono ?_; rintro e w5 ⟨rfl, hbk⟩))
              have HX5 := Lib.hid (ext_trans HX4.out (ext_trans HDr.out hbk))
              have b4 := cell_ext (ext_trans HDr.out hbk) b4
              have b5 := cell_ext (ext_trans HDr.out hbk) b5
              have i3 := cell_ext hbk j3
              clear hbk j0 j1 j2 j3 i0 i1 i2
              by_cases g1 : 0 ≤ ki
              · have HF := Lib.hid (show rowF ⟨treeL lv n 0, n, m⟩ s = (7, ⟨treeL lv n 0, n, m⟩) from by
                  rw [HRw.out]
                  unfold itemRow
                  rw [if_pos (.inr (by rw [← HBd.out, ← HNm.out.1, ← HLd.out, ← HDp.out]; exact HKp.out.1 g1))])
                go_wp2_with fail
                go_ret
                exact browp_bad 7 HF.out (by omega) HX5.out
              · have HNk := Lib.hid (show ¬ ((Lab.lab (nameF (bodyF s))).isNone ∨ kidB (spn (leadF s / 2) (treeL lv n 0)) (nameF (bodyF s)) = true) from by
                  rw [← HBd.out, ← HNm.out.1, ← HLd.out, ← HDp.out]
                  rintro (h | h)
                  · have := HLe.out
                    cases h2 : Lab.lab nm with
                    | none => rw [h2] at this; cases this
                    | some k => rw [h2] at h; cases h
                  · exact g1 (HKp.out.2 h))
                have HBh := Lib.hid (rbehind rt (by omega) w5)
                obtain ⟨tx, htx⟩ : ∃ tx, tx = bhT rt := ⟨_, rfl⟩
                obtain ⟨cb, hcb⟩ : ∃ cb, cb = bhC rt := ⟨_, rfl⟩
                rw [← htx, ← hcb] at HBh
                have hc3 := bhC_in rt
                rw [← hcb] at hc3
                have HTx := Lib.hid (And.intro htx hcb)
                clear htx hcb
                go_wp2_with fail
                refine HBh.out.mono ?_
                rintro e w6 ⟨rfl, hb6⟩
                have HX6 := Lib.hid (ext_trans HX5.out hb6)
                have b4 := cell_ext hb6 b4
                have b5 := cell_ext hb6 b5
                have i3 := cell_ext hb6 i3
                clear hb6 HBh
                have HF2 := Lib.hid (show (300 ≤ m ∨ 6 ≤ dp ∨ 300 < tx.length) → rowF ⟨treeL lv n 0, n, m⟩ s = (2, ⟨treeL lv n 0, n, m⟩) from fun h => by
                  rw [HRw.out]
                  unfold itemRow
                  rw [if_neg HNk.out, if_pos]
                  rw [← HBd.out, ← HNm.out.2, ← HLd.out, ← HDp.out, ← HTx.out.1]
                  exact h)
                have hm300 := H.out.m3
                by_cases g2 : m = 300
                · have g2' : ((m : Int) == 300) = true := by rw [g2]; rfl
                  have HF := Lib.hid (HF2.out (.inl (by omega)))
                  clear g2
                  go_wp2_with fail
                  go_ret
                  exact browp_bad 2 HF.out (by omega) HX6.out
                have g2' : ((m : Int) == 300) = false := by rw [beq_eq_false_iff_ne]; omega
                by_cases g3 : dp = 6
                · have g3' : ((dp : Int) == 6) = true := by rw [g3]; rfl
                  have HF := Lib.hid (HF2.out (.inr (.inl (by omega))))
                  clear g2 g3
                  go_wp2_with fail
                  go_ret
                  exact browp_bad 2 HF.out (by omega) HX6.out
                have g3' : ((dp : Int) == 6) = false := by rw [beq_eq_false_iff_ne]; omega
                by_cases g4 : 300 < tx.length
                · have g4' : (300 : Int) < (tx.length : Int) := by omega
                  have HF := Lib.hid (HF2.out (.inr (.inr g4)))
                  clear g2 g3 g4
                  go_wp2_with fail
                  go_ret
                  exact browp_bad 2 HF.out (by omega) HX6.out
                have g4' : ¬ (300 : Int) < (tx.length : Int) := by omega
                have HNb := Lib.hid (show ¬ (300 ≤ m ∨ 6 ≤ leadF s / 2 ∨ 300 < (bhT (restF (bodyF s))).length) from by
                  rw [← HBd.out, ← HNm.out.2, ← HLd.out, ← HDp.out, ← HTx.out.1]
                  omega)
                have hm3 : m < 300 := by omega
                have hd6 : dp < 6 := by omega
                clear g2 g3 g4
                by_cases g7 : cb = 0
                · have HF := Lib.hid (show rowF ⟨treeL lv n 0, n, m⟩ s = (0, ⟨upd (addKid ⟨nm, tx, [], []⟩) dp (treeL lv n 0), dp + 1, m + 1⟩) from by
                    rw [HRw.out]
                    unfold itemRow
                    rw [if_neg HNk.out, if_neg HNb.out, ← HBd.out, ← HNm.out.1, ← HNm.out.2, ← HTx.out.2, if_neg (fun h => h g7), HTx.out.1, ← HLd.out, ← HDp.out])
                  subst g7
                  have H6 := Lib.hid (H.out.ext HX6.out)
                  clear hc3
                  go_upto_region 32 with fail
                  have hd7 : Below w6.heap.size w6 w6.drew := ext_drewN w6 1
                  have b4d := cell_ext hd7 b4
                  have i3d := cell_ext hd7 i3
                  have HX7 := Lib.hid (ext_trans HX6.out hd7)
                  have H7 := Lib.hid (H.out.five HX7.out)
                  have q0 := H7.out.blk.cell 0 rfl
                  have q1 := H7.out.blk.cell 1 rfl
                  have q2 := H7.out.blk.cell 2 rfl
                  have q3 := H7.out.blk.cell 3 rfl
                  have HBs := Lib.hid (show B ≤ w6.drew.heap.size from by have := HX7.out.size; omega)
                  have HNz := Lib.hid (show N0 < w6.drew.heap.size from Mem.cell_lt i3d)
                  have hcap1 : dp ≤ cq := by have := H7.out.cap.1; omega
                  have hcap2 : (dp : Int) ≤ (cq : Int) := by omega
                  have hcap3 : (cq : Int) ≤ 9223372036854775807 := by have := H7.out.cap.2; omega
                  have HWd := Lib.hid (show RdR w6.drew (fun b => col5 w col b = 2) WA (waysF lv 0 dp) from fun j u hj => H7.out.way j u (by
                    have hjd : j < dp := by have := (List.getElem?_eq_some_iff.1 hj).1; simpa [waysF] using this
                    rw [ways_at hjd] at hj
                    rw [ways_at (by omega)]
                    exact hj))
                  have hKm : (lv dp).ks.length + (decide (dp < n)).toNat < 1000 := by have := H7.out.km dp hdn; omega
                  have HP := Lib.hid (put_any false [] nm tx (addKid ⟨nm, tx, [], []⟩) dp n (dp + 1) (by omega) (by omega) hdn B lv (fun col w WA wc h hB => put_kid [] nm tx dp n hn6 hdn B lv hKm col w WA wc h hB) dp 0 (by omega) (col5 w col) w6.drew WA cq (H7.out.sp.sub (Nat.zero_le _)) HWd.out HBs.out hcap1 H7.out.cap.2)
                  have hn0w : w.heap.size ≤ N0 := HN0.out
                  clear hKm hd7 i3 b4
                  go_cut [] (fun wx => ∃ (col' : Nat → Nat) (lv' : Nat → Lv), Hid (Put0 B (col5 w col) (addKid ⟨nm, tx, [], []⟩) w6.drew bb dp n (dp + 1) m lv WA cq wx col' lv') ∧ wx.cell? ⟨N0, 3, none⟩ = some (.slice (lv dp).KA kds.length (lv dp).kc))
                  case first =>
                    refine wp_region_held_drew (S := fun w' => w'.cell? ⟨bb, 4, none⟩ = some (.slice WA n cq)) (by kernel_rfl) ?_ (fun hHeld => ?_)
                    · exact b4d
                    refine wpAnyH_take (i := 0) (v := ?_) rfl (by kernel_rfl) (by kernel_rfl) (by kernel_rfl) (fun _ _ _ h => h) (Or.inl ⟨by rfl, ?_⟩) (by assumption) ?_
                    rotate_left
                    · intro w hSw; (try dsimp only at hSw); go_simp; try with_reducible rfl
                    (try dsimp only [Act.put, List.setIfInBounds_toArray, List.set_cons_zero, List.set_cons_succ])
                    refine wpAnyH_take (i := 1) (v := ?_) rfl (by kernel_rfl) (by kernel_rfl) (by kernel_rfl) (fun _ _ _ h => h) (Or.inl ⟨by rfl, ?_⟩) (by assumption) ?_
                    rotate_left
                    · intro w hSw; (try dsimp only at hSw); go_simp; try with_reducible rfl
                    (try dsimp only [Act.put, List.setIfInBounds_toArray, List.set_cons_zero, List.set_cons_succ])
                    refine wpAnyH_take (i := 2) (v := ?_) rfl (by kernel_rfl) (by kernel_rfl) (by kernel_rfl) (fun _ _ _ h => h) (Or.inl ⟨by rfl, ?_⟩) (by assumption) ?_
                    rotate_left
                    · intro w hSw; (try dsimp only at hSw); go_simp; try with_reducible rfl
                    (try dsimp only [Act.put, List.setIfInBounds_toArray, List.set_cons_zero, List.set_cons_succ])
                    refine wpAnyH_take (i := 3) (v := ?_) rfl (by kernel_rfl) (by kernel_rfl) (by kernel_rfl) (fun _ _ _ h => h) (Or.inl ⟨by rfl, ?_⟩) (by assumption) ?_
                    rotate_left
                    · intro w hSw; (try dsimp only at hSw); go_simp; try with_reducible rfl
                    (try dsimp only [Act.put, List.setIfInBounds_toArray, List.set_cons_zero, List.set_cons_succ])
                    refine wpAnyH_take (i := 5) (v := ?_) rfl (by kernel_rfl) (by kernel_rfl) (by kernel_rfl) (fun _ _ _ h => h) (Or.inl ⟨by rfl, ?_⟩) (by assumption) ?_
                    rotate_left
                    · intro w hSw; (try dsimp only at hSw); go_simp; try with_reducible rfl
                    (try dsimp only [Act.put, List.setIfInBounds_toArray, List.set_cons_zero, List.set_cons_succ])
                    refine wpAnyH_take (i := 6) (v := ?_) rfl (by kernel_rfl) (by kernel_rfl) (by kernel_rfl) (fun _ _ _ h => h) (Or.inl ⟨by rfl, ?_⟩) (by assumption) ?_
                    rotate_left
                    · intro w hSw; (try dsimp only at hSw); go_simp; try with_reducible rfl
                    (try dsimp only [Act.put, List.setIfInBounds_toArray, List.set_cons_zero, List.set_cons_succ])
                    refine wpAnyH_take (i := 7) (v := ?_) rfl (by kernel_rfl) (by kernel_rfl) (by kernel_rfl) (fun _ _ _ h => h) (Or.inl ⟨by rfl, ?_⟩) (by assumption) ?_
                    rotate_left
                    · intro w hSw; (try dsimp only at hSw); go_simp; try with_reducible rfl
                    (try dsimp only [Act.put, List.setIfInBounds_toArray, List.set_cons_zero, List.set_cons_succ])
                    refine wpAnyH_take (i := 8) (v := ?_) rfl (by kernel_rfl) (by kernel_rfl) (by kernel_rfl) (fun _ _ _ h => h) (Or.inl ⟨by rfl, ?_⟩) (by assumption) ?_
                    rotate_left
                    · intro w hSw; (try dsimp only at hSw); go_simp; try with_reducible rfl
                    (try dsimp only [Act.put, List.setIfInBounds_toArray, List.set_cons_zero, List.set_cons_succ])
                    refine wpAnyH_take (i := 9) (v := ?_) rfl (by kernel_rfl) (by kernel_rfl) (by kernel_rfl) (fun _ _ _ h => h) (Or.inl ⟨by rfl, ?_⟩) (by assumption) ?_
                    rotate_left
                    · intro w hSw; (try dsimp only at hSw); go_simp; try with_reducible rfl
                    (try dsimp only [Act.put, List.setIfInBounds_toArray, List.set_cons_zero, List.set_cons_succ])
                    refine wpAnyH_take (i := 10) (v := ?_) rfl (by kernel_rfl) (by kernel_rfl) (by kernel_rfl) (fun _ _ _ h => h) (Or.inl ⟨by rfl, ?_⟩) (by assumption) ?_
                    rotate_left
                    · intro w hSw; (try dsimp only at hSw); go_simp; try with_reducible rfl
                    (try dsimp only [Act.put, List.setIfInBounds_toArray, List.set_cons_zero, List.set_cons_succ])
                    refine wpAnyH_take (i := 11) (v := ?_) rfl (by kernel_rfl) (by kernel_rfl) (by kernel_rfl) (fun _ _ _ h => h) (Or.inl ⟨by rfl, ?_⟩) (by assumption) ?_
                    rotate_left
                    · intro w hSw; (try dsimp only at hSw); go_simp; try with_reducible rfl
                    (try dsimp only [Act.put, List.setIfInBounds_toArray, List.set_cons_zero, List.set_cons_succ])
                    refine wpAnyH_take (i := 12) (v := ?_) rfl (by kernel_rfl) (by kernel_rfl) (by kernel_rfl) (fun _ _ _ h => h) (Or.inl ⟨by rfl, ?_⟩) (by assumption) ?_
                    rotate_left
                    · intro w hSw; (try dsimp only at hSw); go_simp; try with_reducible rfl
                    (try dsimp only [Act.put, List.setIfInBounds_toArray, List.set_cons_zero, List.set_cons_succ])
                    refine wpAnyH_take (i := 13) (v := ?_) rfl (by kernel_rfl) (by kernel_rfl) (by kernel_rfl) (fun _ _ _ h => h) (Or.inl ⟨by rfl, ?_⟩) (by assumption) ?_
                    rotate_left
                    · intro w hSw; (try dsimp only at hSw); go_simp; try with_reducible rfl
                    (try dsimp only [Act.put, List.setIfInBounds_toArray, List.set_cons_zero, List.set_cons_succ])
                    refine wpAnyH_take (i := 14) (v := ?_) rfl (by kernel_rfl) (by kernel_rfl) (by kernel_rfl) (fun _ _ _ h => h) (Or.inl ⟨by rfl, ?_⟩) (by assumption) ?_
                    rotate_left
                    · intro w hSw; (try dsimp only at hSw); go_simp; try with_reducible rfl
                    (try dsimp only [Act.put, List.setIfInBounds_toArray, List.set_cons_zero, List.set_cons_succ])
                    refine wpAnyH_take (i := 15) (v := ?_) rfl (by kernel_rfl) (by kernel_rfl) (by kernel_rfl) (fun _ _ _ h => h) (Or.inl ⟨by rfl, ?_⟩) (by assumption) ?_
                    rotate_left
                    · intro w hSw; (try dsimp only at hSw); go_simp; try with_reducible rfl
                    (try dsimp only [Act.put, List.setIfInBounds_toArray, List.set_cons_zero, List.set_cons_succ])
                    refine wpAnyH_ready (rs := [4]) (by kernel_rfl) (by simp) ?_
                    refine AllReadyH.cons rfl (fun K hK => ?_) ?_
                    · go_simp
                      refine hK.out _ _ ?_ (fun hHeld => ?_)
                      · exact b4d
                      clear hK K
                      (try dsimp only [Act.put, List.setIfInBounds_toArray, List.set_cons_zero, List.set_cons_succ])
                      refine wpAnyH_ready (rs := [16]) (by kernel_rfl) (by simp) ?_
                      refine AllReadyH.cons rfl (fun K hK => ?_) ?_
                      · go_simp
                        refine HP.out.mono ?_
                        rintro e w9 ⟨l, o, rfl, hp⟩
                        have HPr := Lib.hid hp
                        have h9 : w9.heap[bb]? = w6.drew.heap[bb]? := hp.far bb H7.out.blk.lt (by rw [H7.out.cl]; unfold cK; omega)
                        have hb9 := blk_same H7.out.blk h9
                        have k0 := hb9.cell 0 rfl
                        have k1 := hb9.cell 1 rfl
                        have k2 := hb9.cell 2 rfl
                        have k3 := hb9.cell 3 rfl
                        have k4 := hb9.cell 4 rfl
                        have f0 := hb9.free 0
                        have f1 := hb9.free 1
                        have f2 := hb9.free 2
                        have f3 := hb9.free 3
                        have hne : N0 ≠ bb := fun e => by have := H.out.blk.lt; omega
                        have in9 := (World.cell?_of_block (a := ⟨N0, 3, none⟩) (hp.far N0 HNz.out (by rw [col5, if_neg (by omega)]; unfold cK; omega))).trans i3d
                        clear hp h9 hb9
                        unfold itV
                        go_wp2_with fail
                        refine hK.out _ _ ?_ (fun hHeld => ?_)
                        · exact k4
                        clear hK K
                        (try dsimp only [Act.put, List.setIfInBounds_toArray, List.set_cons_zero, List.set_cons_succ])
                        refine wpAnyH_take (i := 17) (v := ?_) rfl (by kernel_rfl) (by kernel_rfl) (by kernel_rfl) (fun _ _ _ h => h) (Or.inl ⟨by rfl, ?_⟩) (by assumption) ?_
                        rotate_left
                        · intro w hSw; (try dsimp only at hSw); go_simp; try with_reducible rfl
                        (try dsimp only [Act.put, List.setIfInBounds_toArray, List.set_cons_zero, List.set_cons_succ])
                        refine wpAnyH_take (i := 18) (v := ?_) rfl (by kernel_rfl) (by kernel_rfl) (by kernel_rfl) (fun _ _ _ h => h) (Or.inl ⟨by rfl, ?_⟩) (by assumption) ?_
                        rotate_left
                        · intro w hSw; (try dsimp only at hSw); go_simp; try with_reducible rfl
                        (try dsimp only [Act.put, List.setIfInBounds_toArray, List.set_cons_zero, List.set_cons_succ])
                        refine wpAnyH_ready (rs := [19]) (by kernel_rfl) (by simp) ?_
                        refine AllReadyH.cons rfl (fun K hK => ?_) ?_
                        · go_simp
                          refine hK.out _ _ ?_ (fun hHeld => ?_)
                          · exact ((World.cell?_setCell_other _ _ _ _ (by simp)).trans ((World.cell?_setCell_other _ _ _ _ (by simp)).trans ((World.cell?_setCell_other _ _ _ _ (by simp)).trans ((World.cell?_setCell_other _ _ _ _ (by simp)).trans k4))))
                          clear hK K
                          (try dsimp only [Act.put, List.setIfInBounds_toArray, List.set_cons_zero, List.set_cons_succ])
                          refine wpAnyH_done (by kernel_rfl) ?_ _
                          go_wp2_with fail
                          go_meet
                          obtain ⟨col', lv', hP0⟩ := H7.out.put (by omega) l o HPr.out
                          exact ⟨col', lv', hP0, (World.cell?_setCell_far _ _ _ _ (by exact hne.symm)).trans ((World.cell?_setCell_far _ _ _ _ (by exact hne.symm)).trans ((World.cell?_setCell_far _ _ _ _ (by exact hne.symm)).trans ((World.cell?_setCell_far _ _ _ _ (by exact hne.symm)).trans in9)))⟩
                        exact AllReadyH.nil
                      exact AllReadyH.nil
                    exact AllReadyH.nil
                  case rest =>
                    obtain ⟨col', lv', HP0, k3⟩ := hcut
                    obtain ⟨w8, rfl⟩ : ∃ w8, w8 = wc := ⟨_, rfl⟩
                    have r4 := HP0.out.blk.cell 4 rfl
                    have r5 := HP0.out.blk.cell 5 rfl
                    have hbb := HP0.out.blk.lt
                    have HB8 := Lib.hid (show Blk w8 bb 62 _ from HP0.out.blk)
                    have HRw8 := Lib.hid (show Rd w8 WA (waysF lv 0 dp) from RdR.rd (R := fun _ => True) (fun j u hj => by
                      have hjd : j < dp := by have := (List.getElem?_eq_some_iff.1 hj).1; simpa [waysF] using this
                      obtain ⟨b, o, e, _, hc⟩ := HP0.out.way j u (by
                        rw [ways_at hjd] at hj
                        rw [ways_at (by omega)]
                        exact hj)
                      exact ⟨b, o, e, trivial, hc⟩))
                    obtain ⟨z0, hz0, hz1, hz2, hz3⟩ := info_parts int_infoR
                    have HZ0 := Lib.hid hz0
                    have HZ1 := Lib.hid hz1
                    have HZ2 := Lib.hid hz2
                    have HZ3 := Lib.hid hz3
                    have HWl := Lib.hid (show (waysF lv 0 dp).length = dp * 1 from by simp [waysF])
                    have HWo := Lib.hid (show ∀ u ∈ waysF lv 0 dp, u.oneCell' = true from fun u hu => by
                      unfold waysF at hu
                      obtain ⟨i, _, rfl⟩ := List.mem_map.1 hu
                      rfl)
                    have HNil := Lib.hid H.out.nil
                    have hN8 : N0 < w8.heap.size := Mem.cell_lt k3
                    have hkb2 : (kds.length : Int) ≤ 1001 := by omega
                    have hmI : (m : Int) ≤ 300 := by omega
                    clear hz0 hz1 hz2 hz3 b4d i3d q0 q1 q2 q3 b5
                    go_upto_region 35 with (at_builtin; refine App.wpList_append_rd _ rfl _ _ 60 rfl w8.heap.size 3 z0 _ 1 8 Tryz.underlying60 HZ0.out HZ1.out HZ2.out HZ3.out rfl (by omega) (.slice none 0 0) 0 [] rfl (World.ownsRow_nil _ _ _ _) WA dp cq (waysF lv 0 dp) rfl HNil.out HWl.out HRw8.out HWo.out (by simp only [maxLen]; omega) (by omega) (Nat.le_refl _) ?_; intro v1 w9 hown1 hg1; obtain ⟨A1, c1, hv1, _⟩ := own_slice hown1; subst hv1; have HO1 := Lib.hid hown1; have HB9 := Lib.hid (grown_none hg1); have t3 := cell_ext (grown_none hg1) k3; have t4 := cell_ext (grown_none hg1) r4; have t5 := cell_ext (grown_none hg1) r5; clear hown1 hg1 k3 r4 r5)
                    have hs9 : w8.heap.size ≤ w9.heap.size := HB9.out.size
                    have HO1' := Lib.hid (show w9.ownsRow w8.heap.size 3 1 (.slice A1 dp c1) dp (waysF lv 0 dp) from by have h := HO1.out; rw [Nat.zero_add] at h; exact h)
                    have HO1a := Lib.hid (World.ownsRow.alloc HO1'.out (.cells #[.int .i64 (kds.length : Int)] 3))
                    have HOb := Lib.hid (show ∀ q, (Value.slice A1 dp c1).ownBlock = some q → w8.heap.size ≤ q from fun q e => (HO1'.out.lt q e).1)
                    have HNw := Lib.hid (show ∀ j v, [Value.int .i64 (kds.length : Int)][j]? = some v → (w9.alloc (.cells #[.int .i64 (kds.length : Int)] 3)).cell? ((⟨w9.heap.size, 0, none⟩ : Addr).add j) = some v from new_cells w9 [.int .i64 (kds.length : Int)] _ _ rfl)
                    have HOn := Lib.hid (show ∀ v ∈ [Value.int .i64 (kds.length : Int)], v.oneCell' = true from by intro v hv; simp only [List.mem_singleton] at hv; subst hv; rfl)
                    have HM1 := Lib.hid (show dp + 1 ≤ maxLen from by simp only [maxLen]; omega)
                    have HM2 := Lib.hid (show (dp + 1) * 8 ≤ 140737488355328 from by omega)
                    have HM3 := Lib.hid (show w8.heap.size ≤ (w9.alloc (.cells #[.int .i64 (kds.length : Int)] 3)).heap.size from by simp; omega)
                    have HM4 := Lib.hid (show (w9.alloc (.cells #[.int .i64 (kds.length : Int)] 3)).heap.size = w9.heap.size + 1 from by simp)
                    go_wp2_with (at_builtin; refine wpList_append_lies _ rfl _ _ 60 rfl w8.heap.size 3 z0 _ 1 8 Tryz.underlying60 HZ0.out HZ1.out HZ2.out HZ3.out rfl (by omega) (.slice A1 dp c1) dp (waysF lv 0 dp) rfl HO1a.out ⟨w9.heap.size, 0, none⟩ 1 1 [.int .i64 (kds.length : Int)] rfl rfl HNw.out HOn.out Nat.one_pos HM1.out HM2.out HM3.out (w9.heap.size + 1) HM4.out ?_; intro g c2 wa hown2 hg2 hfr hlt; have HO2 := Lib.hid hown2; have HGg := Lib.hid (show w8.heap.size ≤ g from by rcases hfr with e | e; exact HOb.out g e; omega); have HBa := Lib.hid (show ∀ b, b < w8.heap.size → wa.heap[b]? = w8.heap[b]? from fun b hb => ((hg2.block b (by simp; omega) (fun e => by have := HOb.out b e.symm; omega)).trans ((ext_alloc w9 _).block b (by omega))).trans (HB9.out.block b hb)); have HGo := Lib.hid (show wa.os = w8.os ∧ wa.tape = w8.tape ∧ wa.output = w8.output ∧ w8.heap.size ≤ wa.heap.size from ⟨hg2.os.trans HB9.out.os, hg2.tape.trans HB9.out.tape, hg2.output.trans HB9.out.output, by have := hg2.size; simp at this; omega⟩); have ba : Blk wa bb 62 _ := blk_same HB8.out (HBa.out bb hbb); have HBk := Lib.hid ba; have u4 := ba.cell 4 rfl; have u5 := ba.cell 5 rfl; have v4 := ba.free 4; have v5 := ba.free 5; clear hown2 hg2 hfr hlt ba t3 t4 t5)
                    go_ret
                    have hgb : g ≠ bb := by have := HGg.out; omega
                    have ho2 : wa.ownsRow w8.heap.size 3 1 (.slice (some ⟨g, 0, none⟩) (dp + 1) c2) (dp + 1) (waysF lv 0 dp ++ [.int .i64 ((treeL lv (n - dp) dp).kids.length : Int)]) := by have h := HO2.out; rw [HKd.out.1] at h; exact h
                    have hcp := own_cap2 ho2
                    obtain ⟨col2, e1, e2⟩ := Put0.kid (wG := (wa.setCell ⟨bb, 4, none⟩ (.slice (some ⟨g, 0, none⟩) (dp + 1) c2)).setCell ⟨bb, 5, none⟩ (.int .i64 ((m : Int) + 1))) (WB := some ⟨g, 0, none⟩) (cr := c2) H7.out HP0.out hdn hd6 hm3 g (fun b hb hn => by rw [set_far (by exact hn), set_far (by exact hn)]; exact HBa.out b hb) ⟨by simp only [set_os]; exact HGo.out.1, by simp only [set_tape]; exact HGo.out.2.1, by simp only [set_out]; exact HGo.out.2.2.1, by simp only [World.size_setCell]; exact HGo.out.2.2.2⟩ HGg.out (by have h := (HBk.out.set 4 (.slice (some ⟨g, 0, none⟩) (dp + 1) c2)).set 5 (.int .i64 ((m : Int) + 1)); rw [show ((m + 1 : Nat) : Int) = (m : Int) + 1 from by omega]; exact h) ((RdR.of_own (R := fun b => b = g) ho2 (fun q e => (Option.some.inj e).symm)).mono fun b hb _ => ⟨by rw [set_far (by rw [hb]; exact hgb), set_far (by rw [hb]; exact hgb)], hb⟩) ⟨hcp.1, by have := hcp.2; simp only [maxLen] at this; omega⟩ (fun h => by cases h)
                    exact ⟨0, _, HF.out, rfl, .inr ⟨rfl, col2, lv', some ⟨g, 0, none⟩, c2, e1, HP0.out.tree, e2.five HX7.out⟩⟩
                · have g7' : (0 : Int) < cb := by omega
                  have HF := Lib.hid (show rowF ⟨treeL lv n 0, n, m⟩ s = (cb, ⟨treeL lv n 0, n, m⟩) from by
                    rw [HRw.out]
                    unfold itemRow
                    rw [if_neg HNk.out, if_neg HNb.out, ← HBd.out, ← HNm.out.2, ← HTx.out.2, if_pos g7])
                  have HG7 := Lib.hid g7
                  clear g7 hc3
                  go_wp2_with fail
                  go_ret
                  exact browp_bad cb HF.out HG7.out HX6.out
end Go.Proofs.YtflklbhgjfonbaaGreatDoor.Sc

/- Laws as texts: the program's Read. -/
import Derived.Test.YtflklbhgjfonbaaGreatDoorScR
import Derived.Test.YtflklbhgjfonbaaGreatDoorScT
import Derived.Test.YtflklbhgjfonbaaGreatDoorScV
namespace Go.Proofs.YtflklbhgjfonbaaGreatDoor.Sc
open Go.RowKit Mem Nest Fk Err Lk Gp

/-- an error's way out: the result's cells, the fault's -/
structure ExitP (w W : World) (R0 pb : Nat) (a b : Value) : Prop where
  blk : Blk W R0 26 zeroI
  bel : Below w.heap.size w W
  c0 : W.cell? ⟨pb, 0, none⟩ = some a
  c1 : W.cell? ⟨pb, 1, none⟩ = some b
theorem exitA {w W : World} {R0 : Nat} (hb : Below w.heap.size w W) (hR : w.heap.size ≤ R0) (ba : Blk W R0 26 zeroI) (a b : Value) :
    ExitP w (((((W.alloc (.cells #[a, b] 49)).setCell ⟨R0, 0, none⟩ (.string ⟨#[]⟩)).setCell ⟨R0, 1, none⟩ (.string ⟨#[]⟩)).setCell ⟨R0, 2, none⟩ (.slice none 0 0)).setCell ⟨R0, 3, none⟩ (.slice none 0 0)) R0 W.heap.size a b := by
  have hl := ba.lt
  have b1 := ((((blk_ext2 ba (ext_alloc W (.cells #[a, b] 49))).set 0 (.string ⟨#[]⟩)).set 1 (.string ⟨#[]⟩)).set 2 (.slice none 0 0)).set 3 (.slice none 0 0)
  have hn : W.heap.size ≠ R0 := by omega
  have b2 := blk_far (a := ⟨R0, 3, none⟩) (blk_far (a := ⟨R0, 2, none⟩) (blk_far (a := ⟨R0, 1, none⟩) (blk_far (a := ⟨R0, 0, none⟩) (Blk.new W 49 [a, b]) hn (.string ⟨#[]⟩)) hn (.string ⟨#[]⟩)) hn (.slice none 0 0)) hn (.slice none 0 0)
  exact ⟨b1, (((((hb.trans ((ext_alloc W _).mono hb.size)).setCell hR _).setCell hR _).setCell hR _).setCell hR _), b2.cell 0 rfl, b2.cell 1 rfl⟩
theorem exitB {w W : World} {R0 : Nat} (hb : Below w.heap.size w W) (hR : w.heap.size ≤ R0) (ba : Blk W R0 26 zeroI) (a b : Value) :
    ExitP w (((((W.setCell ⟨R0, 0, none⟩ (.string ⟨#[]⟩)).setCell ⟨R0, 1, none⟩ (.string ⟨#[]⟩)).setCell ⟨R0, 2, none⟩ (.slice none 0 0)).setCell ⟨R0, 3, none⟩ (.slice none 0 0)).alloc (.cells #[a, b] 49)) R0 W.heap.size a b := by
  obtain ⟨V, hV⟩ : ∃ V, V = ((((W.setCell ⟨R0, 0, none⟩ (.string ⟨#[]⟩)).setCell ⟨R0, 1, none⟩ (.string ⟨#[]⟩)).setCell ⟨R0, 2, none⟩ (.slice none 0 0)).setCell ⟨R0, 3, none⟩ (.slice none 0 0)) := ⟨_, rfl⟩
  have b1 : Blk V R0 26 zeroI := by
    rw [hV]
    exact (((ba.set 0 (.string ⟨#[]⟩)).set 1 (.string ⟨#[]⟩)).set 2 (.slice none 0 0)).set 3 (.slice none 0 0)
  have hz : V.heap.size = W.heap.size := by rw [hV]; simp
  have hv : Below w.heap.size w V := by rw [hV]; exact ((((hb.setCell hR _).setCell hR _).setCell hR _).setCell hR _)
  have b2 := Blk.new V 49 [a, b]
  rw [hz] at b2
  rw [← hV]
  exact ⟨blk_ext2 b1 (ext_alloc V _), hv.trans ((ext_alloc V _).mono hv.size), b2.cell 0 rfl, b2.cell 1 rfl⟩
theorem ExitP.drew {w W : World} {R0 pb : Nat} {a b : Value} (h : ExitP w W R0 pb a b) : ExitP w W.drew R0 pb a b :=
  have hd : Below W.heap.size W W.drew := ext_drewN W 1
  ⟨blk_ext2 h.blk hd, h.bel.drew, cell_ext hd h.c0, cell_ext hd h.c1⟩
theorem ExitP.read {E : Nat → Addr} {s : Tx} {w W : World} {R0 pb : Nat} {c : Int} {k : Nat} {v : Value} (h : ExitP w W R0 pb (.int .i64 (k : Int)) v) (hv : v = errI E c) (hF : readF s = .inl (c, k)) : ReadP E s w (.returned (.tuple #[.agg #[.string ⟨#[]⟩, .string ⟨#[]⟩, .slice none 0 0, .slice none 0 0], .iface 47 (.pointer (some ⟨pb, 0, none⟩))])) W :=
  readp_bad hF pb h.bel h.c0 (by rw [h.c1, hv])
set_option maxRecDepth 100000 in
set_option maxHeartbeats 4000000 in
theorem pread (E : Nat → Addr) (s : Tx) (hs : s.length ≤ 9223372036854775807) (mx : Int) (w : World) (hE : Errs w E) (hm : w.cell? ⟨14, 0, none⟩ = some (.int .i64 mx)) :
    Calls Tryz.prog 7 #[.string ⟨s.toArray⟩] w (ReadP E s w) := by
  have HE := Lib.hid hE
  have HM := Lib.hid hm
  clear hE hm
  obtain ⟨w1, hw1⟩ : ∃ w1, w1 = w.alloc (.cells #[.string ⟨#[]⟩, .string ⟨#[]⟩, .slice none 0 0, .slice none 0 0] 26) := ⟨_, rfl⟩
  have xa : Below w.heap.size w w1 := by rw [hw1]; exact ext_alloc w _
  have ba : Blk w1 w.heap.size 26 zeroI := by rw [hw1]; exact Blk.new w _ zeroI
  have hz1 : w1.heap.size = w.heap.size + 1 := by rw [hw1]; simp
  obtain ⟨R0, hR0⟩ : ∃ R0, R0 = w.heap.size := ⟨_, rfl⟩
  rw [← hR0] at ba
  by_cases hl : 30000 < s.length
  · have hlc : (30000 : Int) < (s.length : Int) := by omega
    have v1 := (HE.out.below xa).v1
    unfold sentV at v1
    have HF := Lib.hid (show readF s = .inl (2, 0) from by unfold readF; rw [if_pos hl])
    have hgR : R0 ≠ 0 := by have := lt_of_cell HE.out.v1; simp only at this; omega
    have HXa := Lib.hid xa
    have HBa := Lib.hid ba
    have HR := Lib.hid (And.intro hR0 hz1)
    have HRR := Lib.hid (show w.heap.size ≤ R0 from by omega)
    clear hl xa ba hz1
    go_enter Tryz.func7, Tryz.ntmps7
    go_upto_region 1 with fail
    rw [← hw1, ← hR0]
    clear hw1 hR0
    have HVe := Lib.hid (show Value.iface 195 (.pointer (some (E 1))) = errI E 2 from rfl)
    have HXA := Lib.hid (exitA HXa.out HRR.out HBa.out (.int .i64 0) (.iface 195 (.pointer (some (E 1))))).drew
    have HXB := Lib.hid (exitB HXa.out HRR.out HBa.out (.int .i64 0) (.iface 195 (.pointer (some (E 1))))).drew
    have m0 := HBa.out.cell 0 rfl
    have m1 := HBa.out.cell 1 rfl
    have m2 := HBa.out.cell 2 rfl
    have m3 := HBa.out.cell 3 rfl
    have f0 := HBa.out.free 0
    have f1 := HBa.out.free 1
    have f2 := HBa.out.free 2
    have f3 := HBa.out.free 3
    have y0 := fun ob => (blk_ext2 HBa.out (ext_alloc w1 ob)).cell 0 rfl
    have y1 := fun ob => (blk_ext2 HBa.out (ext_alloc w1 ob)).cell 1 rfl
    have y2 := fun ob => (blk_ext2 HBa.out (ext_alloc w1 ob)).cell 2 rfl
    have y3 := fun ob => (blk_ext2 HBa.out (ext_alloc w1 ob)).cell 3 rfl
    have g0 := fun ob => (blk_ext2 HBa.out (ext_alloc w1 ob)).free 0
    have g1 := fun ob => (blk_ext2 HBa.out (ext_alloc w1 ob)).free 1
    have g2 := fun ob => (blk_ext2 HBa.out (ext_alloc w1 ob)).free 2
    have g3 := fun ob => (blk_ext2 HBa.out (ext_alloc w1 ob)).free 3
    go_wp2_with fail
    go_region
    all_goals go_wp2_with fail
    · have HX := HXA
      have s0 := HX.out.blk.cell 0 rfl
      have s1 := HX.out.blk.cell 1 rfl
      have s2 := HX.out.blk.cell 2 rfl
      have s3 := HX.out.blk.cell 3 rfl
      refine bodyPost_ret (v := .tuple #[.agg #[.string ⟨#[]⟩, .string ⟨#[]⟩, .slice none 0 0, .slice none 0 0], .iface 47 (.pointer (some ⟨w1.heap.size, 0, none⟩))]) (by simp [results, Tryz.results7, go_sem, s0, s1, s2, s3]) rfl (HX.out.read HVe.out HF.out)
    · have HX := HXB
      have s0 := HX.out.blk.cell 0 rfl
      have s1 := HX.out.blk.cell 1 rfl
      have s2 := HX.out.blk.cell 2 rfl
      have s3 := HX.out.blk.cell 3 rfl
      refine bodyPost_ret (v := .tuple #[.agg #[.string ⟨#[]⟩, .string ⟨#[]⟩, .slice none 0 0, .slice none 0 0], .iface 47 (.pointer (some ⟨w1.heap.size, 0, none⟩))]) (by simp [results, Tryz.results7, go_sem, s0, s1, s2, s3]) rfl (HX.out.read HVe.out HF.out)
  · have hlc : ¬ (30000 : Int) < (s.length : Int) := by omega
    have hln : s.length ≤ 30000 := by omega
    have HLn := Lib.hid hl
    obtain ⟨w2, hw2⟩ : ∃ w2, w2 = w1.alloc (.cells #[.string ⟨#[]⟩, .string ⟨#[]⟩, .slice none 0 0, .slice none 0 0] 26) := ⟨_, rfl⟩
    have xb : Below w1.heap.size w1 w2 := by rw [hw2]; exact ext_alloc w1 _
    have bb : Blk w2 (w.heap.size + 1) 26 zeroI := by rw [hw2, ← hz1]; exact Blk.new w1 _ zeroI
    have hz2 : w2.heap.size = w.heap.size + 1 + 1 := by rw [hw2]; simp [hz1]
    obtain ⟨L0, hL0⟩ : ∃ L0, L0 = w.heap.size + 1 := ⟨_, rfl⟩
    rw [← hL0] at bb
    have HX2 := Lib.hid (ext_trans xa xb)
    have HBa := Lib.hid (blk_ext2 ba xb)
    have HBb := Lib.hid bb
    have HL0 := Lib.hid (And.intro hL0 hR0)
    have HZ2 := Lib.hid hz2
    have HRow := Lib.hid (prows2 s hln mx w2 (cell_ext HX2.out HM.out))
    have hrl := Wt.rows_len s
    have HRl := Lib.hid (Wt.rows_row_len s)
    have HBad := Lib.hid (fun (c : Int) (k : Nat) => read_bad (s := s) HLn.out (c := c) (k := k))
    have HNone := Lib.hid (read_none (s := s) HLn.out)
    have HDone := Lib.hid (fun (st : St) => read_done (s := s) HLn.out (st := st))
    unfold Rows2 at HRow
    obtain ⟨rws, hrws⟩ : ∃ r, r = Wt.rowsF s := ⟨_, rfl⟩
    rw [← hrws] at HRow hrl HRl HBad HNone HDone
    clear hrws xa ba xb bb hl hz1 hz2
    go_enter Tryz.func7, Tryz.ntmps7
    go_upto_region 4 with fail
    rw [← hw1, ← hw2, ← hL0, ← hR0]
    clear hw1 hw2 hL0 hR0
    go_wp2_with fail
    refine HRow.out.mono ?_
    rintro e ws ⟨A, cA, rfl, hrd, hfresh, hbs⟩
    have HRd := Lib.hid hrd
    have HXs := Lib.hid (ext_trans HX2.out hbs)
    have HBa2 := Lib.hid (blk_ext2 HBa.out hbs)
    have HBb2 := Lib.hid (blk_ext2 HBb.out hbs)
    have HFr := Lib.hid (show ∀ b o, A = some ⟨b, o, none⟩ → b ≠ L0 from fun b o e => by have := hfresh b o e; have := HZ2.out; have := HL0.out; omega)
    clear hrd hfresh hbs HRow HBa HBb
    go_wp2_with fail
    go_loopw [5, 25] (fun t5 t25 wr => ∃ k : Nat, t25 = .int .i64 k ∧ k ≤ rws.length ∧ Hid (Fr L0 ws wr) ∧ ((t5 = .pointer none ∧ Hid (Sc.At rws k none) ∧ Hid (Blk wr L0 26 zeroI)) ∨ (∃ (rb n m : Nat) (lv : Nat → Lv) (col : Nat → Nat), t5 = .pointer (some ⟨rb, 0, none⟩) ∧ Hid (Sc.At rws k (some ⟨treeL lv n 0, n, m⟩)) ∧ Hid (Rdr w.heap.size col wr rb L0 n m lv) ∧ Hid (∀ b, b < ws.heap.size → b ≠ L0 → col b = 4)))) (fun _ t25 _ => rws.length - (intOf t25).toNat)
    case atStart => exact ⟨0, rfl, Nat.zero_le _, Fr.refl _ _, .inl ⟨rfl, rfl, HBb2.out⟩⟩
    case round =>
      obtain ⟨k, rfl, hk, HF, hst⟩ := hrel
      have HBr := Lib.hid (HF.out.at_blk HBa2.out (by have := HL0.out; omega))
      have HBw := Lib.hid (HF.out.below HXs.out (by have := HL0.out; omega))
      have HRR := Lib.hid (show w.heap.size ≤ R0 from by have := HL0.out; omega)
      have hgR0 : R0 ≠ 1 := by have h : (1 : Nat) < w.heap.size := lt_of_cell HE.out.v0; have := HL0.out; omega
      by_cases hlt : k < rws.length
      · have hltc : (k : Int) < (rws.length : Int) := by omega
        obtain ⟨x, hx⟩ : ∃ x, x = rws[k] := ⟨_, rfl⟩
        have hxl : x.length ≤ 30000 := by rw [hx]; exact Nat.le_trans (HRl.out _ (List.getElem_mem hlt)) hln
        have HX := Lib.hid hx.symm
        obtain ⟨b, o, hA, hc⟩ := (HF.out.rd HRd.out HFr.out) k (.string ⟨x.toArray⟩) (by rw [hx]; simp [List.getElem?_map, List.getElem?_eq_getElem hlt, Wt.strV])
        subst hA
        have HT := Lib.hid ((Tryz.strings_Trim_one ⟨x.toArray⟩ 32 (by decide) wr (by show x.length ≤ _; omega)).mono fun e w' h => (show e = .returned (.string ⟨(Lib.trimB x 32).toArray⟩) ∧ (w' = wr ∨ w' = wr.drew) from h))
        have htb := trim_blank x
        obtain ⟨tr, htr⟩ : ∃ tr, tr = Lib.trimB x 32 := ⟨_, rfl⟩
        rw [← htr] at HT htb
        have HTb := Lib.hid htb
        have hrl2 : (rws.length : Int) ≤ 30000 := by omega
        clear hx htr htb
        rcases hst with ⟨rfl, HAt, HBl⟩ | ⟨rb, n, m, lv, col, rfl, HAt, HRr, HCo⟩
        · go_wp2_with fail
          refine HT.out.mono ?_
          rintro e w3 ⟨rfl, hw3⟩
          have HB3 := Lib.hid (show Below wr.heap.size wr w3 from by
            rcases hw3 with rfl | rfl
            · exact Below.refl _ _
            · exact ext_drewN _ 1)
          clear hw3 HT
          by_cases hbk : tr = []
          · have he : tr.isEmpty = true := by rw [hbk]; rfl
            have HBk := Lib.hid (HTb.out.1 hbk)
            clear hbk
            go_wp2_with fail
            go_roundw
            case rel => exact ⟨k + 1, by go_num, by omega, HF.out.ext HB3.out, .inl ⟨rfl, HAt.out.blank hlt (by rw [HX.out]; exact HBk.out), blk_ext2 HBl.out HB3.out⟩⟩
            case measure => simp [intOf]; omega
          · have he : tr.isEmpty = false := by cases tr with
              | nil => exact absurd rfl hbk
              | cons _ _ => rfl
            have HBk := Lib.hid (show blankB rws[k] = false from by rw [HX.out]; cases h : blankB x with
              | false => rfl
              | true => exact absurd (HTb.out.2 h) hbk)
            have HB4 := Lib.hid (HBw.out.trans (HB3.out.mono HBw.out.size))
            have HBr3 := Lib.hid (blk_ext2 HBr.out HB3.out)
            have v0 := (HE.out.below HB4.out).v0
            unfold sentV at v0
            have HBl3 := Lib.hid (blk_ext2 HBl.out HB3.out)
            have HCp := Lib.hid ((Tryz.strings_CutPrefix ⟨x.toArray⟩ ⟨#[108, 97, 119]⟩ w3).mono fun e w' h => (show e = .returned (.tuple #[.string ⟨(Lib.trimPrefix x lawT).toArray⟩, .bool (Lib.hasPrefix x lawT)]) ∧ w3 = w' from ⟨h.1, h.2.symm⟩))
            obtain ⟨ti, hti⟩ : ∃ b, b = Lib.trimPrefix x lawT := ⟨_, rfl⟩
            obtain ⟨hp, hhp⟩ : ∃ hx, hx = Lib.hasPrefix x lawT := ⟨_, rfl⟩
            rw [← hti, ← hhp] at HCp
            have HPf := Lib.hid (And.intro hti hhp)
            clear hti hhp hbk hc
            go_wp2_with fail
            refine HCp.out.mono ?_
            rintro e w' ⟨rfl, rfl⟩
            cases hp with
            | false =>
              have HF := Lib.hid (show readF s = .inl (1, k) from HBad.out 1 k (HAt.out.worse hlt HBk.out (c := 1) (by unfold titleC; rw [HX.out, if_pos (.inr HPf.out.2.symm)]) (by decide)))
              go_wp2_with fail
              have HVe := Lib.hid (show Value.iface 195 (.pointer (some (E 0))) = errI E 1 from rfl)
              have HXA := Lib.hid (exitA HB4.out HRR.out HBr3.out (.int .i64 (k : Int)) (.iface 195 (.pointer (some (E 0))))).drew
              have HXB := Lib.hid (exitB HB4.out HRR.out HBr3.out (.int .i64 (k : Int)) (.iface 195 (.pointer (some (E 0))))).drew
              have m0 := HBr3.out.cell 0 rfl
              have m1 := HBr3.out.cell 1 rfl
              have m2 := HBr3.out.cell 2 rfl
              have m3 := HBr3.out.cell 3 rfl
              have f0 := HBr3.out.free 0
              have f1 := HBr3.out.free 1
              have f2 := HBr3.out.free 2
              have f3 := HBr3.out.free 3
              have y0 := fun ob => (blk_ext2 HBr3.out (ext_alloc w3 ob)).cell 0 rfl
              have y1 := fun ob => (blk_ext2 HBr3.out (ext_alloc w3 ob)).cell 1 rfl
              have y2 := fun ob => (blk_ext2 HBr3.out (ext_alloc w3 ob)).cell 2 rfl
              have y3 := fun ob => (blk_ext2 HBr3.out (ext_alloc w3 ob)).cell 3 rfl
              have g0 := fun ob => (blk_ext2 HBr3.out (ext_alloc w3 ob)).free 0
              have g1 := fun ob => (blk_ext2 HBr3.out (ext_alloc w3 ob)).free 1
              have g2 := fun ob => (blk_ext2 HBr3.out (ext_alloc w3 ob)).free 2
              have g3 := fun ob => (blk_ext2 HBr3.out (ext_alloc w3 ob)).free 3
              go_region
              all_goals go_wp2_with fail
              · have HX := HXA
                have s0 := HX.out.blk.cell 0 rfl
                have s1 := HX.out.blk.cell 1 rfl
                have s2 := HX.out.blk.cell 2 rfl
                have s3 := HX.out.blk.cell 3 rfl
                refine bodyPost_ret (v := .tuple #[.agg #[.string ⟨#[]⟩, .string ⟨#[]⟩, .slice none 0 0, .slice none 0 0], .iface 47 (.pointer (some ⟨w3.heap.size, 0, none⟩))]) (by simp [results, Tryz.results7, go_sem, s0, s1, s2, s3]) rfl (HX.out.read HVe.out HF.out)
              · have HX := HXB
                have s0 := HX.out.blk.cell 0 rfl
                have s1 := HX.out.blk.cell 1 rfl
                have s2 := HX.out.blk.cell 2 rfl
                have s3 := HX.out.blk.cell 3 rfl
                refine bodyPost_ret (v := .tuple #[.agg #[.string ⟨#[]⟩, .string ⟨#[]⟩, .slice none 0 0, .slice none 0 0], .iface 47 (.pointer (some ⟨w3.heap.size, 0, none⟩))]) (by simp [results, Tryz.results7, go_sem, s0, s1, s2, s3]) rfl (HX.out.read HVe.out HF.out)
            | true =>
              have HPn := Lib.hid (pprinted_any x (by omega) w3)
              obtain ⟨pr, hpr⟩ : ∃ pr, pr = prnB x := ⟨_, rfl⟩
              rw [← hpr] at HPn
              have HPe := Lib.hid hpr
              clear hpr
              go_wp2_with fail
              refine HPn.out.mono ?_
              rintro e w' ⟨rfl, rfl⟩
              cases pr with
              | false =>
                have HF := Lib.hid (show readF s = .inl (1, k) from HBad.out 1 k (HAt.out.worse hlt HBk.out (c := 1) (by unfold titleC; rw [HX.out, if_pos (.inl HPe.out.symm)]) (by decide)))
                go_wp2_with fail
                have HVe := Lib.hid (show Value.iface 195 (.pointer (some (E 0))) = errI E 1 from rfl)
                have HXA := Lib.hid (exitA HB4.out HRR.out HBr3.out (.int .i64 (k : Int)) (.iface 195 (.pointer (some (E 0))))).drew
                have HXB := Lib.hid (exitB HB4.out HRR.out HBr3.out (.int .i64 (k : Int)) (.iface 195 (.pointer (some (E 0))))).drew
                have m0 := HBr3.out.cell 0 rfl
                have m1 := HBr3.out.cell 1 rfl
                have m2 := HBr3.out.cell 2 rfl
                have m3 := HBr3.out.cell 3 rfl
                have f0 := HBr3.out.free 0
                have f1 := HBr3.out.free 1
                have f2 := HBr3.out.free 2
                have f3 := HBr3.out.free 3
                have y0 := fun ob => (blk_ext2 HBr3.out (ext_alloc w3 ob)).cell 0 rfl
                have y1 := fun ob => (blk_ext2 HBr3.out (ext_alloc w3 ob)).cell 1 rfl
                have y2 := fun ob => (blk_ext2 HBr3.out (ext_alloc w3 ob)).cell 2 rfl
                have y3 := fun ob => (blk_ext2 HBr3.out (ext_alloc w3 ob)).cell 3 rfl
                have g0 := fun ob => (blk_ext2 HBr3.out (ext_alloc w3 ob)).free 0
                have g1 := fun ob => (blk_ext2 HBr3.out (ext_alloc w3 ob)).free 1
                have g2 := fun ob => (blk_ext2 HBr3.out (ext_alloc w3 ob)).free 2
                have g3 := fun ob => (blk_ext2 HBr3.out (ext_alloc w3 ob)).free 3
                go_region
                all_goals go_wp2_with fail
                · have HX := HXA
                  have s0 := HX.out.blk.cell 0 rfl
                  have s1 := HX.out.blk.cell 1 rfl
                  have s2 := HX.out.blk.cell 2 rfl
                  have s3 := HX.out.blk.cell 3 rfl
                  refine bodyPost_ret (v := .tuple #[.agg #[.string ⟨#[]⟩, .string ⟨#[]⟩, .slice none 0 0, .slice none 0 0], .iface 47 (.pointer (some ⟨w3.heap.size, 0, none⟩))]) (by simp [results, Tryz.results7, go_sem, s0, s1, s2, s3]) rfl (HX.out.read HVe.out HF.out)
                · have HX := HXB
                  have s0 := HX.out.blk.cell 0 rfl
                  have s1 := HX.out.blk.cell 1 rfl
                  have s2 := HX.out.blk.cell 2 rfl
                  have s3 := HX.out.blk.cell 3 rfl
                  refine bodyPost_ret (v := .tuple #[.agg #[.string ⟨#[]⟩, .string ⟨#[]⟩, .slice none 0 0, .slice none 0 0], .iface 47 (.pointer (some ⟨w3.heap.size, 0, none⟩))]) (by simp [results, Tryz.results7, go_sem, s0, s1, s2, s3]) rfl (HX.out.read HVe.out HF.out)
              | true =>
                have HTi := Lib.hid (show ti = x.drop 3 from by
                  obtain ⟨h1, h2⟩ := HPf.out
                  rw [h1]
                  unfold Lib.trimPrefix
                  rw [← h2]
                  rfl)
                have htl : ti.length ≤ 30000 := by rw [HTi.out, List.length_drop]; omega
                have HTc := Lib.hid (show titleC rws[k] = bhC ti from by
                  unfold titleC
                  rw [HX.out, if_neg (by
                    rintro (h | h)
                    · rw [← HPe.out] at h; cases h
                    · rw [← HPf.out.2] at h; cases h), HTi.out])
                have HBh := Lib.hid (pbehind ti (by omega) E w3 (HE.out.below HB4.out))
                obtain ⟨tx, htx⟩ : ∃ tx, tx = bhP ti := ⟨_, rfl⟩
                obtain ⟨cb, hcb⟩ : ∃ cb, cb = bhC ti := ⟨_, rfl⟩
                rw [← htx, ← hcb] at HBh
                obtain ⟨ev, hev⟩ : ∃ ev, ev = errI E cb := ⟨_, rfl⟩
                rw [← hev] at HBh
                have HTx := Lib.hid (And.intro htx (And.intro hcb hev))
                clear htx hcb hev
                go_wp2_with fail
                refine HBh.out.mono ?_
                rintro e w5 ⟨rfl, hb5⟩
                have HB5 := Lib.hid (HB4.out.trans (hb5.mono HB4.out.size))
                have HBr5 := Lib.hid (blk_ext2 HBr3.out hb5)
                have HBl5 := Lib.hid (blk_ext2 HBl3.out hb5)
                have HF5 := Lib.hid ((HF.out.ext HB3.out).ext hb5)
                clear hb5 v0
                by_cases g7 : cb = 0
                · have hev : ev = .nilIface := by rw [HTx.out.2.2, g7]; rfl
                  have hle : tx.length ≤ 300 := by rw [HTx.out.1]; exact bh_le (by rw [← HTx.out.2.1]; exact g7)
                  have hle2 : ¬ (300 : Int) < (tx.length : Int) := by omega
                  have HT0 := Lib.hid (show At rws (k + 1) (some ⟨⟨[], tx, [], []⟩, 0, 0⟩) from by
                    have h := HAt.out.title hlt HBk.out (by rw [HTc.out, ← HTx.out.2.1]; exact g7)
                    rw [HX.out, ← HTi.out, ← bh_same (by rw [← HTx.out.2.1]; exact g7), ← HTx.out.1] at h
                    exact h)
                  have l1 := HBl5.out.cell 1 rfl
                  have lf1 := HBl5.out.free 1
                  have HBl6 := Lib.hid (HBl5.out.set 1 (.string ⟨tx.toArray⟩))
                  have HF6 := Lib.hid (HF5.out.set 1 (.string ⟨tx.toArray⟩))
                  clear g7
                  subst hev
                  go_wp2_with fail
                  refine (pnew L0 _).mono ?_
                  rintro e w6 ⟨rfl, rfl⟩
                  go_wp2_with fail
                  go_roundw
                  case rel =>
                    have hst := Rdr.start (B := w.heap.size) (x := tx) (L0 := L0) (w := w5.setCell ⟨L0, 1, none⟩ (.string ⟨tx.toArray⟩)) (by have := HL0.out; omega) HBl6.out
                    rw [show (w5.setCell ⟨L0, 1, none⟩ (.string ⟨tx.toArray⟩)).heap.size = w5.heap.size from by simp] at hst
                    exact ⟨k + 1, by go_num, by omega, (HF6.out.ext (ext_alloc _ _)).ext (ext_alloc _ _), .inr ⟨_, 0, 0, lv0 tx, _, by simp, HT0.out, hst, fun b hb hn => by
                      have := HF6.out.size
                      have hz : w5.heap.size = (w5.setCell ⟨L0, 1, none⟩ (.string ⟨tx.toArray⟩)).heap.size := by simp
                      rw [← hz] at this
                      rw [if_neg hn, if_neg (by omega), if_neg (by omega)]⟩⟩
                  case measure => simp [intOf]; omega
                · have hev : ∃ a, ev = .iface 195 (.pointer (some a)) := by
                    rw [HTx.out.2.2]
                    unfold errI
                    rw [if_neg g7]
                    exact ⟨_, rfl⟩
                  obtain ⟨a, ha⟩ := hev
                  have HF := Lib.hid (show readF s = .inl (cb, k) from HBad.out cb k (HAt.out.worse hlt HBk.out (by rw [HTc.out, ← HTx.out.2.1]) g7))
                  have HEv := Lib.hid (show errI E cb = .iface 195 (.pointer (some a)) from by rw [← HTx.out.2.2, ha])
                  clear g7
                  subst ha
                  have HX := Lib.hid (exitA HB5.out HRR.out HBr5.out (.int .i64 (k : Int)) (.iface 195 (.pointer (some a))))
                  have HVe := Lib.hid HEv.out.symm
                  have m0 := HBr5.out.cell 0 rfl
                  have m1 := HBr5.out.cell 1 rfl
                  have m2 := HBr5.out.cell 2 rfl
                  have m3 := HBr5.out.cell 3 rfl
                  have f0 := HBr5.out.free 0
                  have f1 := HBr5.out.free 1
                  have f2 := HBr5.out.free 2
                  have f3 := HBr5.out.free 3
                  have y0 := fun ob => (blk_ext2 HBr5.out (ext_alloc w5 ob)).cell 0 rfl
                  have y1 := fun ob => (blk_ext2 HBr5.out (ext_alloc w5 ob)).cell 1 rfl
                  have y2 := fun ob => (blk_ext2 HBr5.out (ext_alloc w5 ob)).cell 2 rfl
                  have y3 := fun ob => (blk_ext2 HBr5.out (ext_alloc w5 ob)).cell 3 rfl
                  have g0 := fun ob => (blk_ext2 HBr5.out (ext_alloc w5 ob)).free 0
                  have g1 := fun ob => (blk_ext2 HBr5.out (ext_alloc w5 ob)).free 1
                  have g2 := fun ob => (blk_ext2 HBr5.out (ext_alloc w5 ob)).free 2
                  have g3 := fun ob => (blk_ext2 HBr5.out (ext_alloc w5 ob)).free 3
                  by_cases g6 : 300 < tx.length
                  · have g6' : (300 : Int) < (tx.length : Int) := by omega
                    go_wp2_with fail
                    have s0 := HX.out.blk.cell 0 rfl
                    have s1 := HX.out.blk.cell 1 rfl
                    have s2 := HX.out.blk.cell 2 rfl
                    have s3 := HX.out.blk.cell 3 rfl
                    refine bodyPost_ret (v := .tuple #[.agg #[.string ⟨#[]⟩, .string ⟨#[]⟩, .slice none 0 0, .slice none 0 0], .iface 47 (.pointer (some ⟨w5.heap.size, 0, none⟩))]) (by simp [results, Tryz.results7, go_sem, s0, s1, s2, s3]) rfl (HX.out.read HVe.out HF.out)
                  · have g6' : ¬ (300 : Int) < (tx.length : Int) := by omega
                    go_wp2_with fail
                    have s0 := HX.out.blk.cell 0 rfl
                    have s1 := HX.out.blk.cell 1 rfl
                    have s2 := HX.out.blk.cell 2 rfl
                    have s3 := HX.out.blk.cell 3 rfl
                    refine bodyPost_ret (v := .tuple #[.agg #[.string ⟨#[]⟩, .string ⟨#[]⟩, .slice none 0 0, .slice none 0 0], .iface 47 (.pointer (some ⟨w5.heap.size, 0, none⟩))]) (by simp [results, Tryz.results7, go_sem, s0, s1, s2, s3]) rfl (HX.out.read HVe.out HF.out)
        · go_wp2_with fail
          refine HT.out.mono ?_
          rintro e w3 ⟨rfl, hw3⟩
          have HB3 := Lib.hid (show Below wr.heap.size wr w3 from by
            rcases hw3 with rfl | rfl
            · exact Below.refl _ _
            · exact ext_drewN _ 1)
          clear hw3 HT
          by_cases hbk : tr = []
          · have he : tr.isEmpty = true := by rw [hbk]; rfl
            have HBk := Lib.hid (HTb.out.1 hbk)
            clear hbk
            go_wp2_with fail
            go_roundw
            case rel => exact ⟨k + 1, by go_num, by omega, HF.out.ext HB3.out, .inr ⟨rb, n, m, lv, col, rfl, HAt.out.blank hlt (by rw [HX.out]; exact HBk.out), HRr.out.ext HB3.out, HCo.out⟩⟩
            case measure => simp [intOf]; omega
          · have he : tr.isEmpty = false := by cases tr with
              | nil => exact absurd rfl hbk
              | cons _ _ => rfl
            have HBk := Lib.hid (show blankB rws[k] = false from by rw [HX.out]; cases h : blankB x with
              | false => rfl
              | true => exact absurd (HTb.out.2 h) hbk)
            have HB4 := Lib.hid (HBw.out.trans (HB3.out.mono HBw.out.size))
            have HBr3 := Lib.hid (blk_ext2 HBr.out HB3.out)
            have HRp := Lib.hid (prow E w.heap.size col rb L0 n m lv x (by omega) w3 (HE.out.below HB4.out) HB4.out.size (HRr.out.ext HB3.out))
            clear hbk hc
            go_wp2_with fail
            refine HRp.out.mono ?_
            rintro e w4 ⟨c, st, hrow, rfl, hcase⟩
            obtain ⟨ev, hev⟩ : ∃ ev, ev = errI E c := ⟨_, rfl⟩
            rw [← hev]
            have HRow := Lib.hid hrow
            clear hrow HRp
            by_cases g7 : c = 0
            · rcases hcase with ⟨h, _⟩ | ⟨_, col', lv', hR', ht, hk'⟩
              · exact absurd g7 h
              have hev2 : ev = .nilIface := by rw [hev, g7]; rfl
              have HR' := Lib.hid hR'
              have hfr := (HF.out.ext HB3.out).kept HCo.out hk'
              have HF4 := Lib.hid hfr.1
              have HC4 := Lib.hid hfr.2
              have HA4 := Lib.hid (show At rws (k + 1) (some ⟨treeL lv' st.n 0, st.n, st.m⟩) from by
                have h := HAt.out.row hlt HBk.out (st' := st) (by rw [HX.out, HRow.out, g7])
                rw [← ht]
                exact h)
              clear g7 hR' ht hk' hfr hev
              subst hev2
              go_wp2_with fail
              go_roundw
              case rel => exact ⟨k + 1, by go_num, by omega, HF4.out, .inr ⟨rb, st.n, st.m, lv', col', rfl, HA4.out, HR'.out, HC4.out⟩⟩
              case measure => simp [intOf]; omega
            · rcases hcase with ⟨_, hb4⟩ | ⟨h, _⟩
              rotate_left
              · exact absurd h g7
              have HEv := Lib.hid hev
              have hev2 : ∃ a, ev = .iface 195 (.pointer (some a)) := by
                rw [hev]
                unfold errI
                rw [if_neg g7]
                exact ⟨_, rfl⟩
              obtain ⟨a, ha⟩ := hev2
              have HB5 := Lib.hid (HB4.out.trans (hb4.mono HB4.out.size))
              have HBr5 := Lib.hid (blk_ext2 HBr3.out hb4)
              have HF := Lib.hid (show readF s = .inl (c, k) from HBad.out c k (HAt.out.bad hlt HBk.out (by rw [HX.out]; exact HRow.out) g7))
              clear g7 hb4 hev
              subst ha
              have HX := Lib.hid (exitA HB5.out HRR.out HBr5.out (.int .i64 (k : Int)) (.iface 195 (.pointer (some a))))
              have HVe := Lib.hid HEv.out
              have m0 := HBr5.out.cell 0 rfl
              have m1 := HBr5.out.cell 1 rfl
              have m2 := HBr5.out.cell 2 rfl
              have m3 := HBr5.out.cell 3 rfl
              have f0 := HBr5.out.free 0
              have f1 := HBr5.out.free 1
              have f2 := HBr5.out.free 2
              have f3 := HBr5.out.free 3
              have y0 := fun ob => (blk_ext2 HBr5.out (ext_alloc w4 ob)).cell 0 rfl
              have y1 := fun ob => (blk_ext2 HBr5.out (ext_alloc w4 ob)).cell 1 rfl
              have y2 := fun ob => (blk_ext2 HBr5.out (ext_alloc w4 ob)).cell 2 rfl
              have y3 := fun ob => (blk_ext2 HBr5.out (ext_alloc w4 ob)).cell 3 rfl
              have g0 := fun ob => (blk_ext2 HBr5.out (ext_alloc w4 ob)).free 0
              have g1 := fun ob => (blk_ext2 HBr5.out (ext_alloc w4 ob)).free 1
              have g2 := fun ob => (blk_ext2 HBr5.out (ext_alloc w4 ob)).free 2
              have g3 := fun ob => (blk_ext2 HBr5.out (ext_alloc w4 ob)).free 3
              go_wp2_with fail
              have s0 := HX.out.blk.cell 0 rfl
              have s1 := HX.out.blk.cell 1 rfl
              have s2 := HX.out.blk.cell 2 rfl
              have s3 := HX.out.blk.cell 3 rfl
              refine bodyPost_ret (v := .tuple #[.agg #[.string ⟨#[]⟩, .string ⟨#[]⟩, .slice none 0 0, .slice none 0 0], .iface 47 (.pointer (some ⟨w4.heap.size, 0, none⟩))]) (by simp [results, Tryz.results7, go_sem, s0, s1, s2, s3]) rfl (HX.out.read HVe.out HF.out)
      · obtain rfl : k = rws.length := by omega
        have hltc : ¬ (rws.length : Int) < (rws.length : Int) := by omega
        rcases hst with ⟨rfl, HAt, HBl⟩ | ⟨rb, n, m, lv, col, rfl, HAt, HRr, HCo⟩
        · have v0 := (HE.out.below HBw.out).v0
          unfold sentV at v0
          have HF := Lib.hid (show readF s = .inl (1, rws.length) from HNone.out HAt.out)
          go_wp2_with fail
          have HVe := Lib.hid (show Value.iface 195 (.pointer (some (E 0))) = errI E 1 from rfl)
          have HXA := Lib.hid (exitA HBw.out HRR.out HBr.out (.int .i64 (rws.length : Int)) (.iface 195 (.pointer (some (E 0))))).drew
          have HXB := Lib.hid (exitB HBw.out HRR.out HBr.out (.int .i64 (rws.length : Int)) (.iface 195 (.pointer (some (E 0))))).drew
          have m0 := HBr.out.cell 0 rfl
          have m1 := HBr.out.cell 1 rfl
          have m2 := HBr.out.cell 2 rfl
          have m3 := HBr.out.cell 3 rfl
          have f0 := HBr.out.free 0
          have f1 := HBr.out.free 1
          have f2 := HBr.out.free 2
          have f3 := HBr.out.free 3
          have y0 := fun ob => (blk_ext2 HBr.out (ext_alloc wr ob)).cell 0 rfl
          have y1 := fun ob => (blk_ext2 HBr.out (ext_alloc wr ob)).cell 1 rfl
          have y2 := fun ob => (blk_ext2 HBr.out (ext_alloc wr ob)).cell 2 rfl
          have y3 := fun ob => (blk_ext2 HBr.out (ext_alloc wr ob)).cell 3 rfl
          have g0 := fun ob => (blk_ext2 HBr.out (ext_alloc wr ob)).free 0
          have g1 := fun ob => (blk_ext2 HBr.out (ext_alloc wr ob)).free 1
          have g2 := fun ob => (blk_ext2 HBr.out (ext_alloc wr ob)).free 2
          have g3 := fun ob => (blk_ext2 HBr.out (ext_alloc wr ob)).free 3
          go_region
          all_goals go_wp2_with fail
          · have HX := HXA
            have s0 := HX.out.blk.cell 0 rfl
            have s1 := HX.out.blk.cell 1 rfl
            have s2 := HX.out.blk.cell 2 rfl
            have s3 := HX.out.blk.cell 3 rfl
            refine bodyPost_ret (v := .tuple #[.agg #[.string ⟨#[]⟩, .string ⟨#[]⟩, .slice none 0 0, .slice none 0 0], .iface 47 (.pointer (some ⟨wr.heap.size, 0, none⟩))]) (by simp [results, Tryz.results7, go_sem, s0, s1, s2, s3]) rfl (HX.out.read HVe.out HF.out)
          · have HX := HXB
            have s0 := HX.out.blk.cell 0 rfl
            have s1 := HX.out.blk.cell 1 rfl
            have s2 := HX.out.blk.cell 2 rfl
            have s3 := HX.out.blk.cell 3 rfl
            refine bodyPost_ret (v := .tuple #[.agg #[.string ⟨#[]⟩, .string ⟨#[]⟩, .slice none 0 0, .slice none 0 0], .iface 47 (.pointer (some ⟨wr.heap.size, 0, none⟩))]) (by simp [results, Tryz.results7, go_sem, s0, s1, s2, s3]) rfl (HX.out.read HVe.out HF.out)
        · have HD := Lib.hid (HDone.out _ HAt.out)
          have l0 := HRr.out.l0.cell 0 rfl
          have l1 := HRr.out.l0.cell 1 rfl
          have l2 := HRr.out.l0.cell 2 rfl
          have l3 := HRr.out.l0.cell 3 rfl
          have m0 := HBr.out.cell 0 rfl
          have m1 := HBr.out.cell 1 rfl
          have m2 := HBr.out.cell 2 rfl
          have m3 := HBr.out.cell 3 rfl
          have f0 := HBr.out.free 0
          have f1 := HBr.out.free 1
          have f2 := HBr.out.free 2
          have f3 := HBr.out.free 3
          have hRL : R0 ≠ L0 := by have := HL0.out; omega
          go_wp2_with fail
          have s := (((HBr.out.set 0 (.string ⟨(lv 0).label.toArray⟩)).set 1 (.string ⟨(lv 0).head.toArray⟩)).set 2 (.slice (lv 0).LA (lv 0).lines.length (lv 0).lc)).set 3 (.slice (lv 0).KA ((lv 0).ks.length + (decide (0 < n)).toNat) (lv 0).kc)
          have s0 := s.cell 0 rfl
          have s1 := s.cell 1 rfl
          have s2 := s.cell 2 rfl
          have s3 := s.cell 3 rfl
          have hc0 : col R0 = 4 := HCo.out R0 (by have h1 := HXs.out.size; have h2 := HBa2.out.lt; omega) hRL
          have hT := HRr.out.sp.close (by have := HRr.out.n6; omega) (fun b => b ≠ R0) (fun b hb e => by rw [e, hc0] at hb; cases hb) (fun b hb e => by rw [e, hc0] at hb; cases hb) n 0 (by omega) (fun b i _ _ hb e => by rw [e, hc0] at hb; unfold cK at hb; omega)
          refine bodyPost_ret (v := .tuple #[.agg #[.string ⟨(lv 0).label.toArray⟩, .string ⟨(lv 0).head.toArray⟩, .slice (lv 0).LA (lv 0).lines.length (lv 0).lc, .slice (lv 0).KA ((lv 0).ks.length + (decide (0 < n)).toNat) (lv 0).kc], .nilIface]) (by simp [results, Tryz.results7, go_sem, s0, s1, s2, s3]) rfl (readp_good HD.out ((lv 0).hdr (decide (0 < n))) ((((HBw.out.setCell HRR.out _).setCell HRR.out _).setCell HRR.out _).setCell HRR.out _) (hT.mono fun b hb _ => ⟨?_, trivial⟩))
          rw [set_far (by exact hb), set_far (by exact hb), set_far (by exact hb), set_far (by exact hb)]
end Go.Proofs.YtflklbhgjfonbaaGreatDoor.Sc

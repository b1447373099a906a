/- The explanation of a text: the program's walk. -/
import Derived.Test.YtpbmamcmmogidaaDoorWtK
namespace Go.Proofs.YtpbmamcmmogidaaDoor.Wt
open Go.RowKit Mem Nest Bld Err Flt

theorem ks_zero : ∀ (k : Nat) (x : St), ksL[k]? = some x → x.2.2 = 0
  | 0, x, h => by obtain rfl := Option.some.inj h; rfl
  | 1, x, h => by obtain rfl := Option.some.inj h; rfl
  | 2, x, h => by obtain rfl := Option.some.inj h; rfl
  | 3, x, h => by obtain rfl := Option.some.inj h; rfl
  | k + 4, x, h => by cases h
def kcells : List Value := [.bool true, .bool true, .int .i64 0, .bool true, .bool false, .int .i64 0, .bool false, .bool true, .int .i64 0, .bool false, .bool false, .int .i64 0]
theorem kcells_eq : kcells = ksL.flatMap spC := rfl
theorem k_at {w : World} {V : Nat} (h : Blk w V 26 kcells) {k : Nat} (hk : k < 4) : ∃ a b, ksL[k]? = some (a, b, 0) ∧ w.cell? ⟨V, k * 3, none⟩ = some (.bool a) ∧ w.cell? ⟨V, k * 3 + 1, none⟩ = some (.bool b) ∧ w.cell? ⟨V, k * 3 + 2, none⟩ = some (.int .i64 0) := by
  have hl : k < ksL.length := hk
  rw [kcells_eq] at h
  obtain ⟨b, o, e, h0, h1, h2⟩ := st_at (rd_blk h) hl
  cases e
  have hz := ks_zero k _ (List.getElem?_eq_getElem hl)
  rw [hz] at h2
  simp only [Nat.zero_add] at h0 h1 h2
  refine ⟨_, _, ?_, h0, h1, h2⟩
  rw [List.getElem?_eq_getElem hl]
  congr 1
  rw [← hz]
theorem blk_other {w : World} {V : Nat} {T : TypeId} {cs : List Value} (h : Blk w V T cs) {a : Addr} (hne : a.block ≠ V) (v : Value) : Blk (w.setCell a v) V T cs := by
  unfold Blk at h ⊢
  simp [World.setCell, Array.getElem?_modify, hne, h]
theorem read_step {N R : List (List UInt8)} {i : Nat} {acc : List St} (hlt : i < R.length) : readF N (R.drop i) i acc = (match rowF N R[i] with
    | .error e => (e, (i : Int), ([] : List St))
    | .ok x => readF N (R.drop (i + 1)) (i + 1) (acc ++ [x])) := by
  rw [List.drop_eq_getElem_cons hlt, readF]
  rfl
set_option maxRecDepth 20000 in
set_option maxHeartbeats 4000000 in
theorem pread_any (s : List UInt8) (hl : s.length ≤ 30000) (N : List (List UInt8)) (hN : Names N) (NA : Option Addr) (nc : Nat) (A : Nat → Addr) (m : Int) (w : World) (hE : Errs w A) (hm : w.cell? ⟨15, 0, none⟩ = some (.int .i64 m)) (hM : Rd w NA (N.map strV)) :
    Calls Tryd.prog 15 #[.string ⟨s.toArray⟩, .slice NA N.length nc] w (PReadPost N s A w) := by
  obtain ⟨i0, hi, hz0, hz1, hz2⟩ := info_parts step_info
  have HI := Lib.hid hi
  have HZ0 := Lib.hid hz0
  have HZ1 := Lib.hid hz1
  have HZ2 := Lib.hid hz2
  have HE := Lib.hid hE
  have HM := Lib.hid hm
  have HNM := Lib.hid hM
  have HN := Lib.hid hN
  have hlc : ¬ (30000 : Int) < (s.length : Int) := by omega
  clear hi hz0 hz1 hz2 hE hm hM hN
  go_enter Tryd.func15, Tryd.ntmps15
  go_wp2_with fail
  refine (prows_any s hl m _ HM.out).mono ?_
  have hRl := rows_len s
  have HRr := Lib.hid (rows_row_len s)
  have HST := Lib.hid (show stepsF N s = readF N (rowsF s) 0 [] by unfold stepsF; rw [if_neg (by omega)])
  unfold RowsPost
  obtain ⟨R, hR⟩ : ∃ R, R = rowsF s := ⟨_, rfl⟩
  rw [← hR] at hRl HRr HST ⊢
  clear hR
  rintro e w1 ⟨RA, rc, rfl, hr, hb1⟩
  have HR := Lib.hid hr
  have HB1 := Lib.hid hb1
  have HE1 := Lib.hid (HE.out.below hb1)
  have HNM1 := Lib.hid (HNM.out.ext hb1)
  clear hr hb1
  go_wp2_with fail
  go_loopw [6, 28] (fun t6 t28 wr => ∃ (i : Nat) (acc : List St), t28 = .int .i64 i ∧ i ≤ R.length ∧ acc.length ≤ i ∧ Hid (stepsF N s = readF N (R.drop i) i acc) ∧ Hid (Below w1.heap.size w1 wr) ∧ Hid (wr.ownsRow w1.heap.size 26 3 t6 acc.length (acc.flatMap spC))) (fun _ t28 _ => R.length - (intOf t28).toNat)
  case atStart => exact ⟨0, [], rfl, Nat.zero_le _, Nat.le_refl _, HST.out, Below.refl _ _, World.ownsRow_nil _ _ _ _⟩
  case round =>
    obtain ⟨i, acc, rfl, hi, hal, HS, HB, HO⟩ := hrel
    obtain ⟨wo, rfl⟩ : ∃ wo, wo = wr := ⟨_, rfl⟩
    by_cases hlt : i < R.length
    · have hltc : (i : Int) < (R.length : Int) := by omega
      obtain ⟨rb, ro, rfl, r0⟩ := row_at (HR.out.ext HB.out) hlt
      have hrl : R[i].length ≤ 30000 := Nat.le_trans (HRr.out _ (List.getElem_mem hlt)) hl
      have HS1 := Lib.hid (HS.out.trans (read_step hlt))
      obtain ⟨r, hr⟩ : ∃ r, r = R[i] := ⟨_, rfl⟩
      rw [← hr] at r0 hrl HS1
      clear hr HS
      have bx := Blk.new wo 26 [.bool false, .bool false, .int .i64 0]
      have hx1 := ext_alloc wo (.cells (List.toArray [.bool false, .bool false, .int .i64 0]) 26)
      obtain ⟨X, hX⟩ : ∃ X, X = wo.heap.size := ⟨_, rfl⟩
      obtain ⟨W1, hW1⟩ : ∃ W1, W1 = wo.alloc (.cells (List.toArray [.bool false, .bool false, .int .i64 0]) 26) := ⟨_, rfl⟩
      rw [← hW1] at bx hx1
      rw [← hX] at bx
      have hs1 : W1.heap.size = X + 1 := by rw [hW1, hX]; simp
      have bk := Blk.new W1 26 kcells
      have hx2 := ext_alloc W1 (.cells (List.toArray kcells) 26)
      obtain ⟨W2, hW2⟩ : ∃ W2, W2 = W1.alloc (.cells (List.toArray kcells) 26) := ⟨_, rfl⟩
      rw [← hW2] at bk hx2
      rw [hs1] at bk
      have HX2 := Lib.hid (bx.ext (hx2.mono (by rw [hs1]; exact Nat.le_refl _)))
      have HK2 := Lib.hid bk
      have HBW := Lib.hid (ext_trans hx1 hx2)
      have HX := Lib.hid hX
      clear bx hx1 bk hx2
      go_wp2_with fail
      rw [show wo.heap.size = X from hX.symm]
      rw [show wo.alloc (.cells #[.bool false, .bool false, .int .i64 0] 26) = W1 from hW1.symm]
      rw [show W1.alloc (.cells #[.bool true, .bool true, .int .i64 0, .bool true, .bool false, .int .i64 0, .bool false, .bool true, .int .i64 0, .bool false, .bool false, .int .i64 0] 26) = W2 from hW2.symm]
      clear hW1 hW2 hX hs1
      go_loopw [8, 10, 40] (fun t8 t10 t40 wi => ∃ k : Nat, t40 = .int .i64 k ∧ k ≤ 4 ∧ Hid (Below wo.heap.size wo wi) ∧ Hid (Blk wi (X + 1) 26 kcells) ∧ KSt X k r t8 t10 wi) (fun _ _ t40 _ => 4 - (intOf t40).toNat)
      case atStart => exact ⟨0, rfl, by omega, HBW.out, HK2.out, .inl ⟨rfl, rfl, rfl, HX2.out⟩⟩
      case round =>
        obtain ⟨k, rfl, hk, HBi, HKi, hst⟩ := hrel
        by_cases hk4 : k < 4
        · have hk4c : (k : Int) < 4 := by omega
          obtain ⟨ka, kb, hks, c0, c1, c2⟩ := k_at HKi.out hk4
          have HKS := Lib.hid hks
          have hkl := kw_len ka kb
          have HSD := Lib.hid (fun w => said_any ka kb 0 w)
          have HKP := Lib.hid (show kwp (ka, kb, (0 : Int)).1 (ka, kb, (0 : Int)).2.1 = kw ka kb ++ [32] from rfl)
          obtain ⟨kk, hkk⟩ : ∃ kk, kk = kw ka kb := ⟨_, rfl⟩
          rw [← hkk] at hkl HSD HKP
          have hkx : ¬ 9223372036854775807 < kk.length + 1 := by omega
          clear hkk hks
          have by_ := Blk.new wr 26 [.bool ka, .bool kb, .int .i64 0]
          have hx3 := ext_alloc wr (.cells (List.toArray [.bool ka, .bool kb, .int .i64 0]) 26)
          have hXl : X < wr.heap.size := by
            rcases hst with ⟨_, _, _, h⟩ | ⟨_, _, _, _, _, _, h⟩
            · exact h.lt
            · exact h.lt
          obtain ⟨Y, hY⟩ : ∃ Y, Y = wr.heap.size := ⟨_, rfl⟩
          obtain ⟨W3, hW3⟩ : ∃ W3, W3 = wr.alloc (.cells (List.toArray [.bool ka, .bool kb, .int .i64 0]) 26) := ⟨_, rfl⟩
          rw [← hW3] at by_ hx3
          rw [← hY] at by_
          have HB3 := Lib.hid (HBi.out.trans (hx3.mono HBi.out.size))
          have HK3 := Lib.hid (HKi.out.ext (hx3.mono (show X + 1 + 1 ≤ _ from HKi.out.lt)))
          have HY3 := Lib.hid by_
          have y0 := by_.cell 0 rfl
          have y1 := by_.cell 1 rfl
          have y2 := by_.cell 2 rfl
          have HX3 := Lib.hid (hx3.mono (show X + 1 ≤ _ from hXl))
          clear by_ hx3 hXl
          rcases hst with ⟨rfl, rfl, hfk, hX0⟩ | ⟨a, b, rest, rfl, rfl, hfk, hX0⟩
          · have HFK := Lib.hid hfk
            have HXb := Lib.hid (hX0.ext HX3.out)
            clear hfk hX0
            go_upto_region 12 with fail
            rw [show wr.alloc (.cells #[.bool ka, .bool kb, .int .i64 0] 26) = W3 from hW3.symm, ← hY]
            clear hW3 hY c0 c1 c2
            go_wp2_with fail
            refine (HSD.out _).mono ?_
            rintro e w4 ⟨rfl, hb4⟩
            have HB4 := Lib.hid (HB3.out.trans (hb4.mono HB3.out.size))
            have HK4 := Lib.hid (HK3.out.ext (hb4.mono (show X + 1 + 1 ≤ _ from HK3.out.lt)))
            have hX4 := HXb.out.ext (hb4.mono (show X + 1 ≤ _ from HXb.out.lt))
            have HX4 := Lib.hid hX4
            have z0 := cell_ext hb4 y0
            have z1 := cell_ext hb4 y1
            have z2 := cell_ext hb4 y2
            have x0 := hX4.cell 0 rfl
            have x1 := hX4.cell 1 rfl
            have x2 := hX4.cell 2 rfl
            have f0 := hX4.free 0
            have f1 := hX4.free 1
            have f2 := hX4.free 2
            clear hb4 hX4 HSD y0 y1 y2
            go_wp2_with fail
            refine (cutp_any r (kk ++ [32]) _ (ba_cat kk [32]) _).mono ?_
            have HTR := Lib.hid (fun h => trim_hit (r := r) (p := kk ++ [32]) h)
            obtain ⟨tp, htp⟩ : ∃ tp, tp = Lib.trimPrefix r (kk ++ [32]) := ⟨_, rfl⟩
            obtain ⟨bp, hbp⟩ : ∃ bp, bp = Lib.hasPrefix r (kk ++ [32]) := ⟨_, rfl⟩
            rw [← htp] at HTR ⊢
            rw [← hbp] at HTR ⊢
            have HBP := Lib.hid hbp
            clear htp hbp
            rintro e w5 ⟨rfl, rfl⟩
            cases bp with
            | true =>
              go_wp2_with fail
              go_roundw
              case rel =>
                have h1 := fk_hit HFK.out HKS.out (by rw [HKP.out]; exact HBP.out.symm)
                rw [HKP.out, ← HTR.out (by simp)] at h1
                have hx := HX.out
                refine ⟨k + 1, by go_num, by omega, ((HB4.out.setCell (by show _ ≤ X; omega) _).setCell (by show _ ≤ X; omega) _).setCell (by show _ ≤ X; omega) _, blk_other (blk_other (blk_other HK4.out (by show X ≠ _; omega) _) (by show X ≠ _; omega) _) (by show X ≠ _; omega) _, .inr ⟨ka, kb, tp, rfl, rfl, h1, ((HX4.out.set 0 _).set 1 _).set 2 _⟩⟩
              case measure => simp [intOf]; omega
            | false =>
              go_wp2_with fail
              go_roundw
              case rel => exact ⟨k + 1, by go_num, by omega, HB4.out, HK4.out, .inl ⟨rfl, rfl, fk_miss HFK.out HKS.out (by rw [HKP.out]; exact HBP.out.symm), HX4.out⟩⟩
              case measure => simp [intOf]; omega
          · have HFK := Lib.hid hfk
            have HXb := Lib.hid (hX0.ext HX3.out)
            clear hfk hX0
            go_upto_region 12 with fail
            rw [show wr.alloc (.cells #[.bool ka, .bool kb, .int .i64 0] 26) = W3 from hW3.symm, ← hY]
            clear hW3 hY c0 c1 c2
            go_wp2_with fail
            refine (HSD.out _).mono ?_
            rintro e w4 ⟨rfl, hb4⟩
            have HB4 := Lib.hid (HB3.out.trans (hb4.mono HB3.out.size))
            have HK4 := Lib.hid (HK3.out.ext (hb4.mono (show X + 1 + 1 ≤ _ from HK3.out.lt)))
            have hX4 := HXb.out.ext (hb4.mono (show X + 1 ≤ _ from HXb.out.lt))
            have HX4 := Lib.hid hX4
            have z0 := cell_ext hb4 y0
            have z1 := cell_ext hb4 y1
            have z2 := cell_ext hb4 y2
            have x0 := hX4.cell 0 rfl
            have x1 := hX4.cell 1 rfl
            have x2 := hX4.cell 2 rfl
            have f0 := hX4.free 0
            have f1 := hX4.free 1
            have f2 := hX4.free 2
            clear hb4 hX4 HSD y0 y1 y2
            go_wp2_with fail
            refine (cutp_any rest (kk ++ [32]) _ (ba_cat kk [32]) _).mono ?_
            obtain ⟨tp, htp⟩ : ∃ tp, tp = Lib.trimPrefix rest (kk ++ [32]) := ⟨_, rfl⟩
            obtain ⟨bp, hbp⟩ : ∃ bp, bp = Lib.hasPrefix rest (kk ++ [32]) := ⟨_, rfl⟩
            rw [← htp, ← hbp]
            clear htp hbp
            rintro e w5 ⟨rfl, rfl⟩
            cases bp with
            | true =>
              go_wp2_with fail
              go_roundw
              case rel => exact ⟨k + 1, by go_num, by omega, HB4.out, HK4.out, .inr ⟨a, b, rest, rfl, rfl, fk_had HFK.out, HX4.out⟩⟩
              case measure => simp [intOf]; omega
            | false =>
              go_wp2_with fail
              go_roundw
              case rel => exact ⟨k + 1, by go_num, by omega, HB4.out, HK4.out, .inr ⟨a, b, rest, rfl, rfl, fk_had HFK.out, HX4.out⟩⟩
              case measure => simp [intOf]; omega
        · obtain rfl : k = 4 := by omega
          have HBw := Lib.hid (ext_trans HB1.out (HB.out.trans (HBi.out.mono HB.out.size)))
          have HEi := Lib.hid (HE.out.below HBw.out)
          have HNi := Lib.hid (HNM.out.ext HBw.out)
          have HBv := Lib.hid (HB.out.trans (HBi.out.mono HB.out.size))
          have HOi := Lib.hid (own_ext HO.out HBi.out)
          clear hk hk4
          rcases hst with ⟨rfl, rfl, hfk, hX0⟩ | ⟨a, b, rest, rfl, rfl, hfk, hX0⟩
          · have HOUT := Lib.hid (show stepsF N s = (1, (i : Int), []) by
              have h := HS1.out
              rw [rowF, ← fk_all, hfk] at h
              exact h)
            have g0 := HEi.out.v0
            unfold sentV at g0
            clear hfk hX0
            go_wp2_with fail
            go_region
            go_wp2_with fail
            go_ret2
            have hN := Blk.new wr 151 [.int .i64 (i : Int), sentV (A 0)]
            exact pread_of (l := []) HOUT.out (.inr ⟨0, by omega, rfl, _, rfl, cell_ext (ext_drewN _ 1) (hN.cell 0 rfl), cell_ext (ext_drewN _ 1) (hN.cell 1 rfl)⟩) Rd.nil (ext_trans HBw.out (ext_trans (ext_alloc wr _) (ext_drewN _ 1)))
          · have HKD := Lib.hid (show kindF r = some (a, b, rest) by rw [← fk_all]; exact hfk)
            have HXi := Lib.hid hX0
            have x0 := hX0.cell 0 rfl
            have x1 := hX0.cell 1 rfl
            have x2 := hX0.cell 2 rfl
            have f2 := hX0.free 2
            have HRL := Lib.hid (fk_len hfk)
            clear hfk hX0
            go_wp2_with fail
            refine (cutp_any rest notW ⟨#[110, 111, 116, 32]⟩ rfl _).mono ?_
            have HRW := Lib.hid (show stepsF N s = (match (if idxF N (Lib.trimPrefix rest notW) < N.length then Except.ok (a, b, if Lib.hasPrefix rest notW then -((idxF N (Lib.trimPrefix rest notW) : Int) + 1) else (idxF N (Lib.trimPrefix rest notW) : Int) + 1) else Except.error 7 : Except Int St) with
                | .error e => (e, (i : Int), ([] : List St))
                | .ok x => readF N (R.drop (i + 1)) (i + 1) (acc ++ [x])) by
              have h := HS1.out
              rw [rowF, HKD.out] at h
              exact h)
            obtain ⟨tp, htp⟩ : ∃ tp, tp = Lib.trimPrefix rest notW := ⟨_, rfl⟩
            obtain ⟨bp, hbp⟩ : ∃ bp, bp = Lib.hasPrefix rest notW := ⟨_, rfl⟩
            rw [← htp, ← hbp] at HRW
            rw [← htp, ← hbp]
            clear htp hbp
            rintro e w5 ⟨rfl, rfl⟩
            go_wp2_with fail
            have hn40 := HN.out.len
            refine (index_any N hn40 NA nc tp _ HNi.out).mono ?_
            have HIV := Lib.hid (show idxV N tp = if idxF N tp < N.length then (idxF N tp : Int) else -1 from rfl)
            obtain ⟨z, hz⟩ : ∃ z, z = idxV N tp := ⟨_, rfl⟩
            rw [← hz] at HIV ⊢
            clear hz
            rintro e w5 ⟨rfl, rfl⟩
            by_cases hix : idxF N tp < N.length
            · obtain ⟨j, hj⟩ : ∃ j, j = idxF N tp := ⟨_, rfl⟩
              obtain rfl : z = (j : Int) := by
                have h := HIV.out
                rw [if_pos hix, ← hj] at h
                exact h
              have hjl : j < N.length := by omega
              obtain ⟨p, hp⟩ : ∃ p : Nat, (j : Int) + 1 = (p : Int) := ⟨j + 1, by omega⟩
              have hp41 : (p : Int) ≤ 41 := by omega
              have HRW1 : Hid (stepsF N s = readF N (R.drop (i + 1)) (i + 1) (acc ++ [(a, b, if bp then -(p : Int) else (p : Int))])) := Lib.hid (by
                have h := HRW.out
                rw [if_pos hix, ← hj, hp] at h
                exact h)
              have hx := HX.out
              have bz := HXi.out.set 2 (.int .i64 (p : Int))
              have HBz0 := Lib.hid (HBv.out.setCell (p := ⟨X, 2, none⟩) (by have := HB.out.size; show _ ≤ X; omega) (.int .i64 (p : Int)))
              have HBo0 := Lib.hid (HBi.out.setCell (p := ⟨X, 2, none⟩) (by show _ ≤ X; omega) (.int .i64 (p : Int)))
              have HOz0 := Lib.hid (own_ext HO.out HBo0.out)
              clear HRW HIV hj hix hx
              obtain ⟨WZ, hWZ⟩ : ∃ WZ, WZ = wr.setCell ⟨X, 2, none⟩ (.int .i64 (p : Int)) := ⟨_, rfl⟩
              rw [← hWZ] at bz HBz0 HOz0 HBo0
              have b0 := bz.cell 0 rfl
              have b1 := bz.cell 1 rfl
              have b2 := bz.cell 2 rfl
              have g2 := bz.free 2
              have HBZ := HBz0
              have HOZ := HOz0
              have HXZ := Lib.hid bz
              clear bz HBz0 HOz0
              cases bp with
              | false =>
                have HOUT : Hid (stepsF N s = readF N (R.drop (i + 1)) (i + 1) (acc ++ [(a, b, (p : Int))])) := HRW1
                go_upto_region 25 with fail
                rw [← hWZ]
                clear hWZ x0 x1 x2 f2
                go_wp2_with (at_builtin; refine wpList_append_own _ rfl _ _ _ rfl w1.heap.size 26 i0 _ 3 16 Tryd.underlying27 HI.out HZ0.out HZ1.out HZ2.out rfl (by omega) u6 acc.length _ rfl (World.ownsRow.alloc HOZ.out _) ⟨WZ.heap.size, 0, none⟩ 1 1 [.bool a, .bool b, .int .i64 (p : Int)] rfl rfl (new_cells WZ [.bool a, .bool b, .int .i64 (p : Int)] _ _ rfl) (by intro u hu; simp only [List.mem_cons, List.not_mem_nil, or_false] at hu; rcases hu with rfl | rfl | rfl <;> rfl) (by simp only [maxLen]; omega) (by omega) (Nat.le_trans HBZ.out.size (by simp)) ?_; intro v1 w6 hown1 hg1 _; have HO6 := Lib.hid hown1; have HB6 := Lib.hid (grown_ext (HBZ.out.trans ((ext_alloc WZ _).mono HBZ.out.size)) rfl (World.ownsRow.alloc HOZ.out _) hg1); clear hown1 hg1)
                go_roundw
                case rel =>
                  refine ⟨i + 1, acc ++ [(a, b, (p : Int))], by go_num, by omega, by simp; omega, HOUT.out, HB6.out, ?_⟩
                  have ho := HO6.out
                  show World.ownsRow _ _ _ _ _ _ _
                  simpa [spC] using ho
                case measure => simp [intOf]; omega
              | true =>
                have HOUT : Hid (stepsF N s = readF N (R.drop (i + 1)) (i + 1) (acc ++ [(a, b, -(p : Int))])) := HRW1
                go_upto_region 24 with fail
                rw [← hWZ]
                clear hWZ x0 x1 x2 f2
                have hx := HX.out
                have bz := HXZ.out.set 2 (.int .i64 (-(p : Int)))
                have HBz0 := Lib.hid (HBZ.out.setCell (p := ⟨X, 2, none⟩) (by have := HB.out.size; show _ ≤ X; omega) (.int .i64 (-(p : Int))))
                have HOz0 := Lib.hid (own_ext HO.out (HBo0.out.setCell (p := ⟨X, 2, none⟩) (by show _ ≤ X; omega) (.int .i64 (-(p : Int)))))
                clear hx HBZ HOZ HXZ HBo0
                obtain ⟨WY, hWY⟩ : ∃ WY, WY = WZ.setCell ⟨X, 2, none⟩ (.int .i64 (-(p : Int))) := ⟨_, rfl⟩
                rw [← hWY] at bz HBz0 HOz0
                have d0 := bz.cell 0 rfl
                have d1 := bz.cell 1 rfl
                have d2 := bz.cell 2 rfl
                have HBZ := HBz0
                have HOZ := HOz0
                clear bz HBz0 HOz0
                go_upto_region 25 with fail
                rw [← hWY]
                clear hWY b0 b1 b2 g2
                go_wp2_with (at_builtin; refine wpList_append_own _ rfl _ _ _ rfl w1.heap.size 26 i0 _ 3 16 Tryd.underlying27 HI.out HZ0.out HZ1.out HZ2.out rfl (by omega) u6 acc.length _ rfl (World.ownsRow.alloc HOZ.out _) ⟨WY.heap.size, 0, none⟩ 1 1 [.bool a, .bool b, .int .i64 (-(p : Int))] rfl rfl (new_cells WY [.bool a, .bool b, .int .i64 (-(p : Int))] _ _ rfl) (by intro u hu; simp only [List.mem_cons, List.not_mem_nil, or_false] at hu; rcases hu with rfl | rfl | rfl <;> rfl) (by simp only [maxLen]; omega) (by omega) (Nat.le_trans HBZ.out.size (by simp)) ?_; intro v1 w6 hown1 hg1 _; have HO6 := Lib.hid hown1; have HB6 := Lib.hid (grown_ext (HBZ.out.trans ((ext_alloc WY _).mono HBZ.out.size)) rfl (World.ownsRow.alloc HOZ.out _) hg1); clear hown1 hg1)
                go_roundw
                case rel =>
                  refine ⟨i + 1, acc ++ [(a, b, (-(p : Int)))], by go_num, by omega, by simp; omega, HOUT.out, HB6.out, ?_⟩
                  have ho := HO6.out
                  show World.ownsRow _ _ _ _ _ _ _
                  simpa [spC] using ho
                case measure => simp [intOf]; omega
            · obtain rfl : z = -1 := by
                have h := HIV.out
                rw [if_neg hix] at h
                exact h
              have HOUT := Lib.hid (show stepsF N s = (7, (i : Int), []) by
                have h := HRW.out
                rw [if_neg hix] at h
                exact h)
              have g0 := HEi.out.v6
              unfold sentV at g0
              clear HRW HIV hix x0 x1 x2 f2
              go_wp2_with fail
              go_region
              go_wp2_with fail
              go_ret2
              have hN := Blk.new wr 151 [.int .i64 (i : Int), sentV (A 6)]
              exact pread_of (l := []) HOUT.out (.inr ⟨6, by omega, rfl, _, rfl, cell_ext (ext_drewN _ 1) (hN.cell 0 rfl), cell_ext (ext_drewN _ 1) (hN.cell 1 rfl)⟩) Rd.nil (ext_trans HBw.out (ext_trans (ext_alloc wr _) (ext_drewN _ 1)))
    · obtain rfl : R.length = i := by omega
      have hlc2 : ¬ (R.length : Int) < (R.length : Int) := by omega
      obtain ⟨A1, c1, rfl, _⟩ := own_slice HO.out
      have HOUT := Lib.hid (show stepsF N s = (0, -1, acc) by
        have h := HS.out
        rw [List.drop_length] at h
        exact h)
      go_wp2_with fail
      go_ret2
      exact pread_of (l := acc) HOUT.out (.inl ⟨rfl, rfl⟩) (Rd.of_own HO.out) (ext_trans HB1.out HB.out)
end Go.Proofs.YtpbmamcmmogidaaDoor.Wt

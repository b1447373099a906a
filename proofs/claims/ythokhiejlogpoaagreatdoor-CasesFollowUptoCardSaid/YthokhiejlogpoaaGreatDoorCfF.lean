/- cases.Follow: the theory with a rule more for each ruling. -/
import Derived.Test.YthokhiejlogpoaaGreatDoorCfP
import Derived.Test.YthokhiejlogpoaaGreatDoorAgree
import Derived.Deep.DeepCutAuto
import Derived.Deep.AppendLies
import Derived.Deep.RegionHeld3
import Derived.Deep.RegionLaw
namespace Go.Proofs.YthokhiejlogpoaaGreatDoor.Cf
open Go.RowKit Mem Nest Thm LawT Val App Sol Solve Day Thy

theorem own_mono {w : World} {base base' : Nat} {e : TypeId} {size n : Nat} {v : Value} {xs : List Value} (h : w.ownsRow base e size v n xs) (hb : base' ≤ base) : w.ownsRow base' e size v n xs :=
  ⟨h.1, h.2.imp id fun ⟨g, cap, cur, hv, hg, hr⟩ => ⟨g, cap, cur, hv, Nat.le_trans hb hg, hr⟩⟩
theorem blk_grow {w w' : World} {K base n : Nat} {T e : TypeId} {cs ys : List Value} {size : Nat} {v : Value} {o : Obj} (h : Blk w K T cs) (ho : w.ownsRow base e size v n ys) (hT : T ≠ e) (hg : (w.alloc o).grownBy w' v.ownBlock) : Blk w' K T cs := by
  have h2 : Blk (w.alloc o) K T cs := Sol.blk_ext h (ext_alloc w o)
  have hne : some K ≠ v.ownBlock := fun hk => by
    obtain ⟨c, fz, h3⟩ := Lib.ownsRow_kind ho K hk.symm
    unfold Blk at h
    rw [h] at h3
    simp only [Option.some.injEq, Obj.cells.injEq] at h3
    exact hT h3.2.1
  unfold Blk at h2 ⊢
  rw [hg.block K (Array.getElem?_eq_some_iff.1 h2).1 hne]
  exact h2
theorem typ_prog : Typs 107 171 := ⟨by decide, by decide, by decide, by decide, by decide⟩
def zeroT : Value := .agg #[.int .i64 0, .slice none 0 0, .slice none 0 0]
/-- what Follow answers -/
def FolPost (N : Int) (rs : List Rw) (ov : List (Int × Int)) (ls : List Ru) (aB aK aN aO : Addr) (w : World) (e : Ending) (w' : World) : Prop :=
  Below w.heap.size w w' ∧ ∃ v1, VOut N rs ov (errV aB) (errV aK) (errV aN) (errV aO) v1 ∧
    ((∃ a, v1 = errV a ∧ e = .returned (.tuple #[zeroT, v1])) ∨
      (v1 = .nilIface ∧ ∃ (rs2 : List Rw) (v2 : Value), rs2.map Rw.rl = rs.map Rw.rl ++ newR ls ∧ VOut N rs2 (ov ++ adds (rs.map Rw.rl) ls ls) (errV aB) (errV aK) (errV aN) (errV aO) v2 ∧
        ((∃ a, v2 = errV a ∧ e = .returned (.tuple #[zeroT, v2])) ∨
          (v2 = .nilIface ∧ ∃ A2 c2 O2 oc2, e = .returned (.tuple #[.agg #[.int .i64 N, .slice A2 rs2.length c2, .slice O2 (ov ++ adds (rs.map Rw.rl) ls ls).length oc2], .nilIface]) ∧ Rws w' A2 rs2 ∧ Rd w' O2 ((ov ++ adds (rs.map Rw.rl) ls ls).flatMap prCells)))))
set_option maxRecDepth 100000 in
set_option maxHeartbeats 4000000 in
theorem follow_any (N : Int) (rs : List Rw) (RA : Option Addr) (rc : Nat) (ov : List (Int × Int)) (hov : ov.length ≤ 1048576) (OA : Option Addr) (oc : Nat) (ls : List Ru) (LA : Option Addr) (lc : Nat) (hl : ls.length ≤ 1000) (hlb : ∀ r ∈ ls, r.body.length ≤ 1048576) (aB aK aN aO : Addr) (w : World) (hR : Rws w RA rs) (hO : Rd w OA (ov.flatMap prCells)) (hL : Rus w LA ls) (hE : ErrR w (errV aB) (errV aK) (errV aN) (errV aO)) :
    Calls Tryz.prog 35 #[.agg #[.int .i64 N, .slice RA rs.length rc, .slice OA ov.length oc], .slice LA ls.length lc] w (FolPost N rs ov ls aB aK aN aO w) := by
  have HR := Lib.hid hR
  have HO := Lib.hid hO
  have HL := Lib.hid hL
  have HLB := Lib.hid hlb
  have HE := Lib.hid hE
  obtain ⟨i0, hi, hz0, hz1, hz2⟩ := info_parts rule_info
  have HI := Lib.hid hi
  have HI0 := Lib.hid hz0
  have HI1 := Lib.hid hz1
  have HI2 := Lib.hid hz2
  obtain ⟨j0, hi, hz0, hz1, hz2⟩ := info_parts pair_info
  have HJ := Lib.hid hi
  have HJ0 := Lib.hid hz0
  have HJ1 := Lib.hid hz1
  have HJ2 := Lib.hid hz2
  have x1 := ext_alloc w (.cells (thCells N rs RA rc ov OA oc).toArray 107)
  have x2 := ext_alloc (w.alloc (.cells (thCells N rs RA rc ov OA oc).toArray 107)) (.cells #[.int .i64 0, .slice none 0 0, .slice none 0 0] 107)
  have HX := Lib.hid (ext_trans x1 x2)
  have HT := Lib.hid (blk_ext (Blk.new w 107 (thCells N rs RA rc ov OA oc)) x2)
  have HK := Lib.hid (show Blk ((w.alloc (.cells (thCells N rs RA rc ov OA oc).toArray 107)).alloc (.cells #[.int .i64 0, .slice none 0 0, .slice none 0 0] 107)) (w.heap.size + 1) 107 [.int .i64 0, .slice none 0 0, .slice none 0 0] by simpa using Blk.new (w.alloc (.cells (thCells N rs RA rc ov OA oc).toArray 107)) 107 [.int .i64 0, .slice none 0 0, .slice none 0 0])
  have HV := Lib.hid (valid_any N rs RA rc ov (by omega) OA oc _ _ _ _ _ (hR.ext (ext_trans x1 x2)) (hO.ext (ext_trans x1 x2)) (hE.ext (ext_trans x1 x2)))
  clear hR hO hE hL hlb x1 x2 hi hz0 hz1 hz2
  go_enter Tryz.func35, Tryz.ntmps35
  go_wp2_with fail
  refine HV.out.mono ?_
  rintro e w1 ⟨ev, rfl, hv, hb⟩
  have HVO := Lib.hid hv
  have HB1 := Lib.hid (ext_trans HX.out hb)
  have HK1 := Lib.hid (blk_ext HK.out hb)
  have HT1 := Lib.hid (blk_ext HT.out hb)
  clear HK HT HX
  rcases vout_err hv with ⟨hn, a, rfl⟩ | ⟨hr, rfl⟩
  · have k0 := HK1.out.cell 0 rfl
    have k1 := HK1.out.cell 1 rfl
    have k2 := HK1.out.cell 2 rfl
    have f0 := HK1.out.free 0
    have f1 := HK1.out.free 1
    have f2 := HK1.out.free 2
    unfold errV
    clear hv hb hn
    go_wp2_with fail
    have s0 := (HK1.out.set 0 (.int .i64 0)).cell 0 rfl
    have s1 := ((HK1.out.set 0 (.int .i64 0)).set 1 (.slice none 0 0)).cell 1 rfl
    have s2 := (((HK1.out.set 0 (.int .i64 0)).set 1 (.slice none 0 0)).set 2 (.slice none 0 0)).cell 2 rfl
    refine bodyPost_ret (v := .tuple #[.agg #[.int .i64 0, .slice none 0 0, .slice none 0 0], .iface 269 (.pointer (some a))]) (by simp [results, Tryz.results35, go_sem, s0, s1, s2]) rfl ⟨?_, _, HVO.out, .inl ⟨a, rfl, rfl⟩⟩
    exact ((HB1.out.setCell (by simp) _).setCell (by simp) _).setCell (by simp) _
  · have HRt := Lib.hid hr
    obtain ⟨hrl, hol, -⟩ := rings_pre hr.b hr.n
    have HRs := Lib.hid (HR.out.ext HB1.out)
    have HOs := Lib.hid (HO.out.ext HB1.out)
    have k0 := HT1.out.cell 0 rfl
    have k1 := HT1.out.cell 1 rfl
    have k2 := HT1.out.cell 2 rfl
    clear hv hb hr HV HVO
    have hlt1 : w.heap.size < w1.heap.size := HT1.out.lt
    have hne1 : ¬ w1.heap.size = w.heap.size := by omega
    have hd1 : Below w1.heap.size w1 w1.drew := ext_drewN w1 1
    have hd2 : Below (w1.alloc (.cells #[.int .i64 0, .slice none 0 0, .slice none 0 0] 107)).heap.size (w1.alloc (.cells #[.int .i64 0, .slice none 0 0, .slice none 0 0] 107)) (w1.alloc (.cells #[.int .i64 0, .slice none 0 0, .slice none 0 0] 107)).drew := ext_drewN _ 1
    have ha1 := ext_trans (ext_alloc w1 (.cells #[.int .i64 0, .slice none 0 0, .slice none 0 0] 107)) hd2
    go_upto_region 5 with fail
    go_cut [8] (fun s8 wx => ∃ G AO cO, s8 = .pointer (some ⟨G, 0, none⟩) ∧ Hid (Fo False 107 171 w1 wx G N (.slice none 0 0) (.slice AO ov.length cO) [] ov))
    case first =>
      go_region_held3 (fun w' => w'.cell? ⟨w.heap.size, 0, none⟩ = some (.int .i64 N) ∧ w'.cell? ⟨w.heap.size, 2, none⟩ = some (.slice OA ov.length oc))
        ((first | exact ⟨k0, k2⟩ | exact ⟨cell_ext ha1 k0, cell_ext ha1 k2⟩ | exact ⟨cell_ext hb2 k0, cell_ext hb2 k2⟩ | exact ⟨cell_ext (ext_trans hb2 (ext_alloc _ _)) k0, cell_ext (ext_trans hb2 (ext_alloc _ _)) k2⟩ | exact ⟨cell_ext (RowKit.Below.setCell (RowKit.Below.setCell (RowKit.Below.setCell hb2 (Nat.le_refl _) _) (Nat.le_refl _) _) (Nat.le_refl _) _) k0, cell_ext (RowKit.Below.setCell (RowKit.Below.setCell (RowKit.Below.setCell hb2 (Nat.le_refl _) _) (Nat.le_refl _) _) (Nat.le_refl _) _) k2⟩))
        ((first
          | (go_at_call 85; refine (cloneP_any ov hov OA oc _ (HOs.out.ext hd1)).mono ?_; rintro e w2 ⟨⟨vO, rfl, hown⟩, hb2⟩; obtain ⟨AO, cO, rfl, hc1, hc2, hc3⟩ := own_sl hown; have HWN := Lib.hid hown; clear hown; have hb2 := ext_trans hd1 hb2)
          | (go_at_call 85; refine (cloneP_any ov hov OA oc _ (HOs.out.ext ha1)).mono ?_; rintro e w2 ⟨⟨vO, rfl, hown⟩, hb2⟩; obtain ⟨AO, cO, rfl, hc1, hc2, hc3⟩ := own_sl hown; have HWN := Lib.hid hown; clear hown; have HZ := Lib.hid (blk_ext (Blk.new w1 107 [.int .i64 0, .slice none 0 0, .slice none 0 0]) (ext_trans hd2 hb2)); have z0 := HZ.out.cell 0 rfl; have z1 := HZ.out.cell 1 rfl; have z2 := HZ.out.cell 2 rfl; have z3 := HZ.out.free 0; have z4 := HZ.out.free 1; have z5 := HZ.out.free 2; have hb2 := ext_trans ha1 hb2)))
      all_goals go_wp2_with fail
      all_goals go_meet
      · exact ⟨_, _, _, rfl, Fo.start typ_prog hb2 HWN.out⟩
      · have q := ((HZ.out.set 0 (.int .i64 N)).set 1 (.slice none 0 0)).set 2 (.slice AO ov.length cO)
        have q1 := own_set_other HWN.out (a := ⟨w1.heap.size, 0, none⟩) (own_kind_ne HWN.out HZ.out typ_prog.h2) (.int .i64 N)
        have q2 := own_set_other q1 (a := ⟨w1.heap.size, 1, none⟩) (own_kind_ne q1 (HZ.out.set 0 (.int .i64 N)) typ_prog.h2) (.slice none 0 0)
        have q3 := own_set_other q2 (a := ⟨w1.heap.size, 2, none⟩) (own_kind_ne q2 ((HZ.out.set 0 (.int .i64 N)).set 1 (.slice none 0 0)) typ_prog.h2) (.slice AO ov.length cO)
        have hbs := RowKit.Below.setCell (p := ⟨w1.heap.size, 2, none⟩) (RowKit.Below.setCell (p := ⟨w1.heap.size, 1, none⟩) (RowKit.Below.setCell (p := ⟨w1.heap.size, 0, none⟩) hb2 (Nat.le_refl _) (.int .i64 N)) (Nat.le_refl _) (.slice none 0 0)) (Nat.le_refl _) (.slice AO ov.length cO)
        exact ⟨_, _, _, rfl, ⟨typ_prog, hbs, hbs.size, q, Nat.le_refl _, World.ownsRow_nil _ _ _ _, own_mono q3 (Nat.le_trans (Nat.le_succ _) (show w1.heap.size + 1 ≤ _ from by simp)), fun r hr => by cases hr⟩⟩
    case rest =>
      obtain ⟨G, AO, cO, rfl, HF⟩ := hcut
      clear k0 k1 k2 hd1 hd2 ha1 hne1
      have HTc := Lib.hid (blk_ext HT1.out HF.out.below)
      have k0 := HTc.out.cell 0 rfl
      have k1 := HTc.out.cell 1 rfl
      have k2 := HTc.out.cell 2 rfl
      go_wp2_with fail
      go_loopw [36] (fun s36 wr => ∃ (j : Nat) (rs' : List Rw) (v : Value), s36 = .int .i64 j ∧ j ≤ rs.length ∧ Hid (Fo False 107 171 w1 wr G N v (.slice AO ov.length cO) rs' ov) ∧ Hid (rs'.map Rw.rl = (rs.take j).map Rw.rl)) (fun s36 _ => rs.length - (intOf s36).toNat)
      case atStart => exact ⟨0, [], _, rfl, Nat.zero_le _, HF.out, rfl⟩
      case round =>
        clear HTc k0 k1 k2 HF
        obtain ⟨j, rs', v, rfl, hj, HF, HM⟩ := hrel
        have HLn := Lib.hid (show rs'.length = j by
          have := congrArg List.length HM.out
          simpa [Nat.min_eq_left hj] using this)
        by_cases hlt : j < rs.length
        · obtain ⟨b', o', rfl, r0, r1, r2⟩ := (HRs.out.ext HF.out.below).row hlt
          obtain ⟨r, hr⟩ : ∃ r, r = rs[j] := ⟨_, rfl⟩
          rw [← hr] at r0 r1 r2
          have HBd := Lib.hid (hr ▸ (HRs.out.ext HF.out.below).bods _ (List.getElem_mem hlt))
          have HBl := Lib.hid (hr ▸ HRs.out.lens _ (List.getElem_mem hlt))
          have hbb : r.body.length ≤ 120 := by
            rw [hr]
            exact Classical.byContradiction fun h => HRt.out.b (.inr ⟨_, List.getElem_mem hlt, show 120 < _ from by omega⟩)
          have HRj := Lib.hid hr
          clear hr
          obtain ⟨rk, rh, rb, rA, rcc⟩ := r
          simp only at r0 r1 r2 hbb
          have b2 := Blk.new wr 171 [.int .i64 rk, .int .i64 rh, .slice rA rb.length rcc]
          have hx2 := ext_alloc wr (.cells #[.int .i64 rk, .int .i64 rh, .slice rA rb.length rcc] 171)
          obtain ⟨W2, hW2⟩ : ∃ W2, W2 = wr.alloc (.cells #[.int .i64 rk, .int .i64 rh, .slice rA rb.length rcc] 171) := ⟨_, rfl⟩
          obtain ⟨K, hK⟩ : ∃ K, K = wr.heap.size := ⟨_, rfl⟩
          have b2 : Blk W2 K 171 [.int .i64 rk, .int .i64 rh, .slice rA rb.length rcc] := by rw [hW2, hK]; exact b2
          rw [← hW2] at hx2
          go_upto_region 9 with fail
          rw [← hW2, ← hK]
          have hKs : wr.heap.size ≤ K := by omega
          clear hW2 hK r0 r1 r2
          have z2 := b2.cell 2 rfl
          go_wp2_with fail
          refine (cloneI_any rb (by omega) rA rcc _ (HBd.out.ext hx2)).mono ?_
          rintro e w3 ⟨⟨v3, rfl, hown⟩, hb3⟩
          obtain ⟨A3, c3, rfl, hc1, hc2, hc3⟩ := own_sl hown
          have b3 := blk_ext b2 hb3
          have f3 := b3.free 2
          have z3 := b3.cell 2 rfl
          have b4 := b3.set 2 (.slice A3 rb.length c3)
          have HK4 := Lib.hid (rdk_set (RdK.of_own hown) (a := ⟨K, 2, none⟩) (fun c fz => by
            unfold Blk at b3
            rw [b3]
            simp) (.slice A3 rb.length c3))
          have HB4 := Lib.hid (RowKit.Below.setCell (p := ⟨K, 2, none⟩) (ext_trans hx2 hb3) hKs (.slice A3 rb.length c3))
          have HF4 := Lib.hid (HF.out.ext HB4.out)
          have HC4 := Lib.hid (And.intro hc1 hc2)
          clear hown hb3 b2 z2 hx2 hc1 hc2 hc3 HBd
          go_upto_region 10 with fail
          obtain ⟨W4, hW4⟩ : ∃ W4, W4 = w3.setCell ⟨K, 2, none⟩ (.slice A3 rb.length c3) := ⟨_, rfl⟩
          rw [← hW4] at HK4 HB4 HF4 b4 ⊢
          have q0 := b4.cell 0 rfl
          have q1 := b4.cell 1 rfl
          have q2 := b4.cell 2 rfl
          have k1 := HF4.out.blk.cell 1 rfl
          have hs4 := HF4.out.bs
          clear b3 f3 z3 hW4 b4
          go_wp2_with (at_builtin; refine wpList_append_own _ rfl _ _ _ rfl w1.heap.size 171 i0 _ 3 40 Tryz.underlying105 HI.out HI0.out HI1.out HI2.out rfl (by omega) v rs'.length _ rfl (World.ownsRow.alloc HF4.out.own _) ⟨W4.heap.size, 0, none⟩ 1 1 [.int .i64 rk, .int .i64 rh, .slice A3 rb.length c3] rfl rfl (new_cells W4 [.int .i64 rk, .int .i64 rh, .slice A3 rb.length c3] _ _ rfl) (by intro u hu; simp only [List.mem_cons, List.not_mem_nil, or_false] at hu; rcases hu with rfl | rfl | rfl <;> rfl) (by have := HLn.out; simp only [maxLen]; omega) (by have := HLn.out; omega) (by simp; omega) ?_; intro v1 w5 hown1 hg1 _; obtain ⟨A5, c5, hv1, _⟩ := own_slice hown1; subst hv1; have HP := Lib.hid (HF4.out.putR (r := ⟨rk, rh, rb, A3, c3⟩) hg1 hown1 ⟨.inl HK4.out, HC4.out⟩); have z1 := HP.out.2.cell 1 rfl; have z2 := HP.out.2.free 1; clear hown1 hg1)
          go_roundw
          case rel =>
            refine ⟨j + 1, rs' ++ [⟨rk, rh, rb, A3, c3⟩], _, by go_num, by omega, Lib.hid HP.out.1, ?_⟩
            show List.map _ _ = _
            rw [List.map_append, HM.out, List.take_succ_eq_append_getElem hlt, List.map_append, ← HRj.out]
            rfl
          case measure => simp [intOf]; omega
        · obtain rfl : rs.length = j := by omega
          have HM0 := Lib.hid (show rs'.map Rw.rl = rs.map Rw.rl by
            have := HM.out
            rwa [List.take_length] at this)
          have HF0 := HF
          clear HM HLn HF
          go_wp2_with fail
          go_loopw [53] (fun s53 wx => ∃ (i : Nat) (rs2 : List Rw) (v vO : Value), s53 = .int .i64 i ∧ i ≤ ls.length ∧ Hid (Fo False 107 171 w1 wx G N v vO rs2 (ov ++ adds (rs.map Rw.rl) ls (ls.take i))) ∧ Hid (rs2.map Rw.rl = rs.map Rw.rl ++ newR (ls.take i))) (fun s53 _ => ls.length - (intOf s53).toNat)
          case atStart => exact ⟨0, rs', _, _, rfl, Nat.zero_le _, Lib.hid (by have := HF0.out; rwa [show ov ++ adds (rs.map Rw.rl) ls (ls.take 0) = ov from List.append_nil _]), Lib.hid (by have := HM0.out; rwa [show rs.map Rw.rl ++ newR (ls.take 0) = rs.map Rw.rl from List.append_nil _])⟩
          case round =>
            clear HF0 HM0 hj hlt
            obtain ⟨i, rs2, v, vO, rfl, hi2, HF, HM⟩ := hrel
            have HLn := Lib.hid (show rs2.length = rs.length + i by
              have := congrArg List.length HM.out
              simpa [newR, Nat.min_eq_left hi2] using this)
            by_cases hlt : i < ls.length
            · have hLx := (HL.out.ext HB1.out).ext HF.out.below
              obtain ⟨b', o', rfl, r0, r1, r2⟩ := ru_at hLx.rows hlt
              obtain ⟨x, hx⟩ : ∃ x, x = ls[i] := ⟨_, rfl⟩
              rw [← hx] at r0 r1 r2
              have HBd := Lib.hid (hx ▸ hLx.bods _ (List.getElem_mem hlt))
              have hbl := hx ▸ HLB.out _ (List.getElem_mem hlt)
              have HXi := Lib.hid hx
              clear hx hLx
              obtain ⟨xh, xb, xr, xA, xc⟩ := x
              simp only at r0 r1 r2 hbl
              have b2 := Blk.new wr 104 [.int .i64 xh, .slice xA xb.length xc, .int .i64 xr]
              have hx2 := ext_alloc wr (.cells #[.int .i64 xh, .slice xA xb.length xc, .int .i64 xr] 104)
              obtain ⟨W2, hW2⟩ : ∃ W2, W2 = wr.alloc (.cells #[.int .i64 xh, .slice xA xb.length xc, .int .i64 xr] 104) := ⟨_, rfl⟩
              obtain ⟨K, hK⟩ : ∃ K, K = wr.heap.size := ⟨_, rfl⟩
              have b2 : Blk W2 K 104 [.int .i64 xh, .slice xA xb.length xc, .int .i64 xr] := by rw [hW2, hK]; exact b2
              rw [← hW2] at hx2
              go_upto_region 15 with fail
              rw [← hW2, ← hK]
              have HF2 := Lib.hid (HF.out.ext hx2)
              have HBd2 := Lib.hid (HBd.out.ext hx2)
              have HK2 := Lib.hid b2
              have hKG : G < K := by have := HF.out.blk.lt; omega
              clear hW2 hK r0 r1 r2 hx2 b2 HBd HF
              have z0 := HK2.out.cell 0 rfl
              have z1 := HK2.out.cell 1 rfl
              have z2 := HF2.out.blk.cell 1 rfl
              have hd : Below W2.heap.size W2 W2.drew := ext_drewN W2 1
              have hs2 := HF2.out.bs
              have HKG := Lib.hid (show G < K from hKG)
              go_cut [] (fun w9 => ∃ rs3 v3, Hid (Fo False 107 171 w1 w9 G N v3 vO rs3 (ov ++ adds (rs.map Rw.rl) ls (ls.take i))) ∧ Hid (rs3.map Rw.rl = rs.map Rw.rl ++ newR (ls.take (i + 1))) ∧ Hid (Blk w9 K 104 [.int .i64 xh, .slice xA xb.length xc, .int .i64 xr]))
              case first =>
                go_region_law (first
                  | (refine step_append_lies _ rfl (.tmp 59) (.tmp 66) 105 rfl w1.heap.size 171 i0 _ 3 40 Tryz.underlying105 HI.out HI0.out HI1.out HI2.out rfl (by omega) v rs2.length _ rfl (World.ownsRow.alloc HF3.out.own _) ⟨w3.heap.size, 0, none⟩ 1 1 [.int .i64 1, .int .i64 xh, .slice A3 xb.length c3] rfl rfl (new_cells w3 [.int .i64 1, .int .i64 xh, .slice A3 xb.length c3] _ _ rfl) (by intro u hu; simp only [List.mem_cons, List.not_mem_nil, or_false] at hu; rcases hu with rfl | rfl | rfl <;> rfl) (by omega) (by have := HLn.out; simp only [maxLen]; omega) (by have := HLn.out; omega) (by simp; omega) _ rfl ?_; intro g5 c5 w5 hown1 hg1 _ _; have HP := Lib.hid (HF3.out.putR (r := ⟨1, xh, xb, A3, c3⟩) hg1 hown1 ⟨.inl HD3.out, HC3.out⟩); have HK5 := Lib.hid (blk_grow HK3.out HF3.out.own (by decide) hg1); have HKs := Lib.hid (blk_set HK5.out (Nat.ne_of_gt HKG.out) (a := ⟨G, 1, none⟩) (.slice (some ⟨g5, 0, none⟩) (rs2.length + 1) c5)); have y8 := HK5.out.cell 0 rfl; have y9 := HK5.out.cell 1 rfl; have y1 := HP.out.2.cell 1 rfl; have y2 := HP.out.2.free 1; clear hown1 hg1)
                  | (go_simp; go_at_call 60; refine (cloneI_any xb hbl xA xc _ (HBd2.out.ext hd)).mono ?_; rintro e w3 ⟨⟨v3, rfl, hown⟩, hb3⟩; obtain ⟨A3, c3, rfl, hc1, hc2, hc3⟩ := own_sl hown; have hb3 := ext_trans hd hb3; have HF3 := Lib.hid (HF2.out.ext hb3); have HK3 := Lib.hid (blk_ext HK2.out hb3); have HD3 := Lib.hid (RdK.of_own hown); have HC3 := Lib.hid (And.intro hc1 hc2); have y0 := HK3.out.cell 0 rfl; have y5 := HK3.out.cell 1 rfl; have y6 := fun ob => cell_ext (ext_alloc w3 ob) y0; have y7 := fun ob => cell_ext (ext_alloc w3 ob) y5; have z3 := HF3.out.blk.cell 1 rfl; have z4 := fun ob => cell_ext (ext_alloc w3 ob) z3; have hs3 := HF3.out.bs; clear hown hc1 hc2 hc3))
                all_goals go_wp2_with fail
                all_goals go_meet
                all_goals refine ⟨_, _, Lib.hid HP.out.1, Lib.hid ?_, Lib.hid HKs.out⟩
                all_goals rw [List.map_append, HM.out, newR_take hlt, ← HXi.out, List.append_assoc]
                all_goals rfl
              case rest =>
                clear z0 z1 z2 hd hs2 HK2 HF2 HBd2 HM HLn
                obtain ⟨rs3, v3, HF, HM, HK⟩ := hcut
                have q1 := (blk_ext HT1.out HF.out.below).cell 1 rfl
                go_wp2_with fail
                go_loopw [72] (fun s72 wr => ∃ (k : Nat) (vP : Value), s72 = .int .i64 k ∧ k ≤ rs.length ∧ Hid (Blk wr K 104 [.int .i64 xh, .slice xA xb.length xc, .int .i64 xr]) ∧ Hid (Fo False 107 171 w1 wr G N v3 vP rs3 ((ov ++ adds (rs.map Rw.rl) ls (ls.take i)) ++ addR rs.length i xh ((rs.map Rw.rl).take k)))) (fun s72 _ => rs.length - (intOf s72).toNat)
                case atStart => exact ⟨0, _, rfl, Nat.zero_le _, HK.out, Lib.hid (by have := HF.out; rwa [show addR rs.length i xh ((rs.map Rw.rl).take 0) = [] from rfl, List.append_nil])⟩
                case round =>
                  clear HF HK q1
                  obtain ⟨k, vP, rfl, hk, HK, HF⟩ := hrel
                  by_cases hlk : k < rs.length
                  · obtain ⟨b2, o2, rfl, r0, r1, r2⟩ := (HRs.out.ext HF.out.below).row hlk
                    obtain ⟨r, hr⟩ : ∃ r, r = rs[k] := ⟨_, rfl⟩
                    rw [← hr] at r0 r1 r2
                    have HRk := Lib.hid hr
                    clear hr
                    obtain ⟨rk, rh, rb, rA, rcc⟩ := r
                    simp only at r0 r1 r2
                    have b4 := Blk.new wr 171 [.int .i64 rk, .int .i64 rh, .slice rA rb.length rcc]
                    have hx2 := ext_alloc wr (.cells #[.int .i64 rk, .int .i64 rh, .slice rA rb.length rcc] 171)
                    obtain ⟨W2, hW2⟩ : ∃ W2, W2 = wr.alloc (.cells #[.int .i64 rk, .int .i64 rh, .slice rA rb.length rcc] 171) := ⟨_, rfl⟩
                    obtain ⟨K4, hK4⟩ : ∃ K, K = wr.heap.size := ⟨_, rfl⟩
                    have b4 : Blk W2 K4 171 [.int .i64 rk, .int .i64 rh, .slice rA rb.length rcc] := by rw [hW2, hK4]; exact b4
                    rw [← hW2] at hx2
                    go_upto_region 19 with fail
                    rw [← hW2, ← hK4]
                    have HF2 := Lib.hid (HF.out.ext hx2)
                    have HK2 := Lib.hid (blk_ext HK.out hx2)
                    have z0 := b4.cell 1 rfl
                    have z1 := HK2.out.cell 0 rfl
                    have z2 := HF2.out.blk.cell 2 rfl
                    clear hW2 hK4 r0 r1 r2 hx2 b4 HF HK
                    have HTk := Lib.hid (show (rs.map Rw.rl).take (k + 1) = (rs.map Rw.rl).take k ++ [⟨rk, rh, rb⟩] by
                      rw [List.take_succ_eq_append_getElem (by simpa using hlk), List.getElem_map, ← HRk.out]
                      rfl)
                    by_cases he : rh = wrap64 (-xh)
                    · have HE1 := Lib.hid he
                      have hbq : (rh == wrap64 (-xh)) = true := by simpa using he
                      clear he
                      obtain ⟨OV, hOV⟩ : ∃ OV, OV = (ov ++ adds (rs.map Rw.rl) ls (ls.take i)) ++ addR rs.length i xh ((rs.map Rw.rl).take k) := ⟨_, rfl⟩
                      have hol2 : OV.length ≤ 3000000 := by
                        have h1 := adds_len (rs.map Rw.rl) ls ls (k := i) hi2
                        have h2 := addR_len rs.length i xh (rs.map Rw.rl) (k := k) (by simpa using hk)
                        rw [List.length_map] at h1
                        have h3 : (rs.length + ls.length) * i ≤ 1120 * 1000 := Nat.mul_le_mul (by omega) (by omega)
                        rw [hOV, List.length_append, List.length_append]
                        omega
                      rw [← hOV] at HF2
                      have HOV := Lib.hid hOV
                      have hs2 := HF2.out.bs
                      clear hOV
                      go_upto_region 20 with fail
                      go_wp2_with (at_builtin; refine wpList_append_own _ rfl _ _ _ rfl w1.heap.size 169 j0 _ 2 16 Tryz.underlying98 HJ.out HJ0.out HJ1.out HJ2.out rfl (by omega) vP OV.length _ rfl (World.ownsRow.alloc HF2.out.over _) ⟨W2.heap.size, 0, none⟩ 1 1 [.int .i64 (rs.length + i), .int .i64 k] rfl rfl (new_cells W2 [.int .i64 (rs.length + i), .int .i64 k] _ _ rfl) (by intro u hu; simp only [List.mem_cons, List.not_mem_nil, or_false] at hu; rcases hu with rfl | rfl <;> rfl) (by simp only [maxLen]; omega) (by omega) (by simp; omega) ?_; intro v1 w5 hown1 hg1 _; obtain ⟨A5, c5, hv1, _⟩ := own_slice hown1; subst hv1; have HP := Lib.hid (HF2.out.putO (p := (rs.length + i, k)) hg1 hown1); have HK5 := Lib.hid (blk_grow HK2.out HF2.out.over (by decide) hg1); have y1 := HP.out.2.cell 2 rfl; have y2 := HP.out.2.free 2; clear hown1 hg1)
                      go_roundw
                      case rel =>
                        refine ⟨k + 1, .slice A5 (OV.length + 1) c5, by go_num, by omega, Lib.hid (blk_set HK5.out (Nat.ne_of_gt HKG.out) _), Lib.hid ?_⟩
                        have h := addR_take (n := rs.length) (i := i) (h := xh) (rs := rs.map Rw.rl) (k := k) (by simpa using hlk)
                        rw [h, show onR rs.length i xh ((rs.map Rw.rl)[k]'(by simpa using hlk)) k = [((rs.length : Int) + i, (k : Int))] from ?_, ← List.append_assoc, ← HOV.out]
                        · exact HP.out.1
                        · unfold onR negW
                          rw [if_pos]
                          · simp
                          · rw [List.getElem_map, ← HRk.out]
                            exact HE1.out
                      case measure => simp [intOf]; omega
                    · have HE1 := Lib.hid he
                      have hbq : (rh == wrap64 (-xh)) = false := by simpa using he
                      clear he
                      go_wp2_with fail
                      go_roundw
                      case rel =>
                        refine ⟨k + 1, vP, by go_num, by omega, Lib.hid HK2.out, Lib.hid ?_⟩
                        have h := addR_take (n := rs.length) (i := i) (h := xh) (rs := rs.map Rw.rl) (k := k) (by simpa using hlk)
                        rw [h, show onR rs.length i xh ((rs.map Rw.rl)[k]'(by simpa using hlk)) k = [] from ?_, List.append_nil]
                        · exact HF2.out
                        · unfold onR negW
                          rw [if_neg]
                          rw [List.getElem_map, ← HRk.out]
                          exact HE1.out
                      case measure => simp [intOf]; omega
                  · obtain rfl : rs.length = k := by omega
                    have HFa := Lib.hid (show Fo False 107 171 w1 wr G N v3 vP rs3 ((ov ++ adds (rs.map Rw.rl) ls (ls.take i)) ++ addR rs.length i xh (rs.map Rw.rl)) by
                      have := HF.out
                      rwa [show (rs.map Rw.rl).take rs.length = rs.map Rw.rl from List.take_of_length_le (by simp)] at this)
                    clear HF
                    go_wp2_with fail
                    go_loopw [96] (fun s96 wr => ∃ (k : Nat) (vP : Value), s96 = .int .i64 k ∧ k ≤ ls.length ∧ Hid (Blk wr K 104 [.int .i64 xh, .slice xA xb.length xc, .int .i64 xr]) ∧ Hid (Fo False 107 171 w1 wr G N v3 vP rs3 (((ov ++ adds (rs.map Rw.rl) ls (ls.take i)) ++ addR rs.length i xh (rs.map Rw.rl)) ++ addL rs.length i ⟨xh, xb, xr, xA, xc⟩ (ls.take k)))) (fun s96 _ => ls.length - (intOf s96).toNat)
                    case atStart => exact ⟨0, _, rfl, Nat.zero_le _, HK.out, Lib.hid (by have := HFa.out; rwa [show addL rs.length i ⟨xh, xb, xr, xA, xc⟩ (ls.take 0) = [] from rfl, List.append_nil])⟩
                    case round =>
                      clear HFa HK
                      obtain ⟨k, vP, rfl, hk, HK, HF⟩ := hrel
                      by_cases hlk : k < ls.length
                      · have hLx := (HL.out.ext HB1.out).ext HF.out.below
                        obtain ⟨b2, o2, e2, r0, r1, r2⟩ := ru_at hLx.rows hlk
                        cases e2
                        obtain ⟨y, hy⟩ : ∃ y, y = ls[k] := ⟨_, rfl⟩
                        rw [← hy] at r0 r1 r2
                        have HRk := Lib.hid hy
                        clear hy hLx
                        obtain ⟨yh, yb, yr, yA, yc⟩ := y
                        simp only at r0 r1 r2
                        have b4 := Blk.new wr 104 [.int .i64 yh, .slice yA yb.length yc, .int .i64 yr]
                        have hx2 := ext_alloc wr (.cells #[.int .i64 yh, .slice yA yb.length yc, .int .i64 yr] 104)
                        obtain ⟨W2, hW2⟩ : ∃ W2, W2 = wr.alloc (.cells #[.int .i64 yh, .slice yA yb.length yc, .int .i64 yr] 104) := ⟨_, rfl⟩
                        obtain ⟨K4, hK4⟩ : ∃ K, K = wr.heap.size := ⟨_, rfl⟩
                        have b4 : Blk W2 K4 104 [.int .i64 yh, .slice yA yb.length yc, .int .i64 yr] := by rw [hW2, hK4]; exact b4
                        rw [← hW2] at hx2
                        go_upto_region 25 with fail
                        rw [← hW2, ← hK4]
                        have HF2 := Lib.hid (HF.out.ext hx2)
                        have HK2 := Lib.hid (blk_ext HK.out hx2)
                        have z0 := b4.cell 0 rfl
                        have z1 := b4.cell 2 rfl
                        have z2 := HK2.out.cell 0 rfl
                        have z3 := HK2.out.cell 2 rfl
                        have z4 := HF2.out.blk.cell 2 rfl
                        clear hW2 hK4 r0 r1 r2 hx2 b4 HF HK
                        have HAb := Lib.hid (show Abo ⟨xh, xb, xr, xA, xc⟩ ⟨yh, yb, yr, yA, yc⟩ i k ↔ yh = wrap64 (-xh) ∧ (yr < xr ∨ (yr = xr ∧ k < i)) from Iff.rfl)
                        go_cut [125] (fun s125 wx => ∃ q : Bool, s125 = .bool q ∧ wx = W2 ∧ Hid (q = true ↔ Abo ⟨xh, xb, xr, xA, xc⟩ ⟨yh, yb, yr, yA, yc⟩ i k))
                        case first =>
                          by_cases h1 : yh = wrap64 (-xh)
                          · have q1 : (yh == wrap64 (-xh)) = true := by simpa using h1
                            by_cases h2 : yr < xr
                            · have HQ := Lib.hid (HAb.out.2 ⟨h1, .inl h2⟩)
                              clear h1
                              go_wp2_with fail
                              go_meet
                              exact ⟨_, rfl, rfl, Lib.hid (iff_of_true rfl HQ.out)⟩
                            · by_cases h3 : yr = xr
                              · subst h3
                                by_cases h4 : k < i
                                · have HQ := Lib.hid (HAb.out.2 ⟨h1, .inr ⟨rfl, h4⟩⟩)
                                  clear h1
                                  go_wp2_with fail
                                  go_meet
                                  exact ⟨_, rfl, rfl, Lib.hid (iff_of_true rfl HQ.out)⟩
                                · have HQ := Lib.hid (show ¬ Abo ⟨xh, xb, yr, xA, xc⟩ ⟨yh, yb, yr, yA, yc⟩ i k from fun h => by rcases (HAb.out.1 h).2 with h | h; exact absurd h (Int.lt_irrefl _); exact h4 h.2)
                                  clear h1
                                  go_wp2_with fail
                                  go_meet
                                  exact ⟨_, rfl, rfl, Lib.hid (iff_of_false (by decide) HQ.out)⟩
                              · have q3 : (yr == xr) = false := by simpa using h3
                                have HQ := Lib.hid (show ¬ Abo ⟨xh, xb, xr, xA, xc⟩ ⟨yh, yb, yr, yA, yc⟩ i k from fun h => by rcases (HAb.out.1 h).2 with h | h; exact h2 h; exact h3 h.1)
                                clear h1 h3
                                go_wp2_with fail
                                go_meet
                                exact ⟨_, rfl, rfl, Lib.hid (iff_of_false (by decide) HQ.out)⟩
                          · have q1 : (yh == wrap64 (-xh)) = false := by simpa using h1
                            have HQ := Lib.hid (show ¬ Abo ⟨xh, xb, xr, xA, xc⟩ ⟨yh, yb, yr, yA, yc⟩ i k from fun h => h1 (HAb.out.1 h).1)
                            clear h1
                            go_wp2_with fail
                            go_meet
                            exact ⟨_, rfl, rfl, Lib.hid (iff_of_false (by decide) HQ.out)⟩
                        case rest =>
                          obtain ⟨q, rfl, rfl, HQ⟩ := hcut
                          clear z0 z1 z2 z3 HAb
                          cases q with
                          | true =>
                            obtain ⟨OV, hOV⟩ : ∃ OV, OV = ((ov ++ adds (rs.map Rw.rl) ls (ls.take i)) ++ addR rs.length i xh (rs.map Rw.rl)) ++ addL rs.length i ⟨xh, xb, xr, xA, xc⟩ (ls.take k) := ⟨_, rfl⟩
                            have hol2 : OV.length ≤ 3000000 := by
                              have h1 := adds_len (rs.map Rw.rl) ls ls (k := i) hi2
                              have h2 := addR_full rs.length i xh (rs.map Rw.rl)
                              have h4 := addL_len rs.length i ⟨xh, xb, xr, xA, xc⟩ ls (k := k) hk
                              rw [List.length_map] at h1 h2
                              have h3 : (rs.length + ls.length) * i ≤ 1120 * 1000 := Nat.mul_le_mul (by omega) (by omega)
                              rw [hOV, List.length_append, List.length_append, List.length_append]
                              omega
                            rw [← hOV] at HF2
                            have HOV := Lib.hid hOV
                            have hs2 := HF2.out.bs
                            clear hOV
                            go_upto_region 26 with fail
                            go_wp2_with (at_builtin; refine wpList_append_own _ rfl _ _ _ rfl w1.heap.size 169 j0 _ 2 16 Tryz.underlying98 HJ.out HJ0.out HJ1.out HJ2.out rfl (by omega) vP OV.length _ rfl (World.ownsRow.alloc HF2.out.over _) ⟨wc.heap.size, 0, none⟩ 1 1 [.int .i64 (rs.length + i), .int .i64 (rs.length + k)] rfl rfl (new_cells wc [.int .i64 (rs.length + i), .int .i64 (rs.length + k)] _ _ rfl) (by intro u hu; simp only [List.mem_cons, List.not_mem_nil, or_false] at hu; rcases hu with rfl | rfl <;> rfl) (by simp only [maxLen]; omega) (by omega) (by simp; omega) ?_; intro v1 w5 hown1 hg1 _; obtain ⟨A5, c5, hv1, _⟩ := own_slice hown1; subst hv1; have HP := Lib.hid (HF2.out.putO (p := (rs.length + i, rs.length + k)) hg1 hown1); have HK5 := Lib.hid (blk_grow HK2.out HF2.out.over (by decide) hg1); have y1 := HP.out.2.cell 2 rfl; have y2 := HP.out.2.free 2; clear hown1 hg1)
                            go_roundw
                            case rel =>
                              refine ⟨k + 1, .slice A5 (OV.length + 1) c5, by go_num, by omega, Lib.hid (blk_set HK5.out (Nat.ne_of_gt HKG.out) _), Lib.hid ?_⟩
                              rw [addL_take hlk, show onL rs.length i ⟨xh, xb, xr, xA, xc⟩ ls[k] k = [((rs.length : Int) + i, (rs.length : Int) + k)] from ?_, ← List.append_assoc, ← HOV.out]
                              · exact HP.out.1
                              · unfold onL
                                rw [if_pos]
                                · simp
                                · rw [← HRk.out]
                                  exact HQ.out.1 rfl
                            case measure => simp [intOf]; omega
                          | false =>
                            go_wp2_with fail
                            go_roundw
                            case rel =>
                              refine ⟨k + 1, vP, by go_num, by omega, Lib.hid HK2.out, Lib.hid ?_⟩
                              rw [addL_take hlk, show onL rs.length i ⟨xh, xb, xr, xA, xc⟩ ls[k] k = [] from ?_, List.append_nil]
                              · exact HF2.out
                              · unfold onL
                                rw [if_neg]
                                rw [← HRk.out]
                                exact fun h => absurd (HQ.out.2 h) (by decide)
                            case measure => simp [intOf]; omega
                      · obtain rfl : ls.length = k := by omega
                        have HFb := Lib.hid (show Fo False 107 171 w1 wr G N v3 vP rs3 (ov ++ adds (rs.map Rw.rl) ls (ls.take (i + 1))) by
                          have := HF.out
                          rw [List.take_length] at this
                          rw [adds_take hlt, ← HXi.out, List.length_map, ← List.append_assoc, ← List.append_assoc]
                          exact this)
                        clear HF HK
                        go_wp2_with fail
                        go_roundw
                        case rel => exact ⟨i + 1, rs3, v3, vP, by go_num, by omega, HFb.out, HM.out⟩
                        case measure => simp [intOf]; omega
            · obtain rfl : ls.length = i := by omega
              have HMa := Lib.hid (show rs2.map Rw.rl = rs.map Rw.rl ++ newR ls by have := HM.out; rwa [List.take_length] at this)
              have HFa := Lib.hid (show Fo False 107 171 w1 wr G N v vO rs2 (ov ++ adds (rs.map Rw.rl) ls ls) by have := HF.out; rwa [List.take_length] at this)
              obtain ⟨OV, hOV⟩ : ∃ OV, OV = ov ++ adds (rs.map Rw.rl) ls ls := ⟨_, rfl⟩
              have hol2 : OV.length ≤ 3000000 := by
                have h1 := adds_len (rs.map Rw.rl) ls ls (k := ls.length) (Nat.le_refl _)
                rw [List.length_map, List.take_length] at h1
                have h3 : (rs.length + ls.length) * ls.length ≤ 1120 * 1000 := Nat.mul_le_mul (by omega) (by omega)
                rw [hOV, List.length_append]
                omega
              rw [← hOV] at HFa
              have HOVe := Lib.hid hOV
              clear HF HM HLn hOV
              obtain ⟨A2, c2, rfl, _⟩ := own_sl HFa.out.own
              obtain ⟨O2, oc2, rfl, _⟩ := own_sl HFa.out.over
              have k0 := HFa.out.blk.cell 0 rfl
              have k1 := HFa.out.blk.cell 1 rfl
              have k2 := HFa.out.blk.cell 2 rfl
              have HVb := Lib.hid (valid_any N rs2 A2 c2 OV (by omega) O2 oc2 _ _ _ _ wr HFa.out.rws HFa.out.rdo (HE.out.ext (ext_trans HB1.out HFa.out.below)))
              have HKr := Lib.hid (blk_ext HK1.out HFa.out.below)
              have HBr := Lib.hid (ext_trans HB1.out HFa.out.below)
              go_wp2_with fail
              refine HVb.out.mono ?_
              rintro e w5 ⟨ev, rfl, hv, hb5⟩
              have HV5 := Lib.hid hv
              have HK5 := Lib.hid (blk_ext HKr.out hb5)
              have HB5 := Lib.hid (ext_trans HBr.out hb5)
              have HF5 := Lib.hid (HFa.out.ext hb5)
              clear k0 k1 k2 HVb hb5
              have y0 := HK5.out.cell 0 rfl
              have y1 := HK5.out.cell 1 rfl
              have y2 := HK5.out.cell 2 rfl
              have g0 := HK5.out.free 0
              have g1 := HK5.out.free 1
              have g2 := HK5.out.free 2
              have k0 := HF5.out.blk.cell 0 rfl
              have k1 := HF5.out.blk.cell 1 rfl
              have k2 := HF5.out.blk.cell 2 rfl
              rcases vout_err hv with ⟨hn, a, rfl⟩ | ⟨hr, rfl⟩
              · unfold errV
                clear hv hn
                go_wp2_with fail
                have s0 := (HK5.out.set 0 (.int .i64 0)).cell 0 rfl
                have s1 := ((HK5.out.set 0 (.int .i64 0)).set 1 (.slice none 0 0)).cell 1 rfl
                have s2 := (((HK5.out.set 0 (.int .i64 0)).set 1 (.slice none 0 0)).set 2 (.slice none 0 0)).cell 2 rfl
                refine bodyPost_ret (v := .tuple #[.agg #[.int .i64 0, .slice none 0 0, .slice none 0 0], .iface 269 (.pointer (some a))]) (by simp [results, Tryz.results35, go_sem, s0, s1, s2]) rfl ⟨?_, _, .inr (.inr (.inr (.inr ⟨HRt.out.b, HRt.out.k, HRt.out.n, HRt.out.o, rfl⟩))), .inr ⟨rfl, rs2, _, HMa.out, HOVe.out ▸ HV5.out, .inl ⟨a, rfl, rfl⟩⟩⟩
                exact ((HB5.out.setCell (by simp) _).setCell (by simp) _).setCell (by simp) _
              · clear hv hr
                go_wp2_with fail
                have t0 := HK5.out.set 0 (.int .i64 N)
                have t1 := t0.set 1 (.slice A2 rs2.length c2)
                have t2 := t1.set 2 (.slice O2 OV.length oc2)
                have s0 := t0.cell 0 rfl
                have s1 := t1.cell 1 rfl
                have s2 := t2.cell 2 rfl
                have HT0 := Lib.hid t0
                have HT1 := Lib.hid t1
                clear t0 t1 t2
                refine bodyPost_ret (v := .tuple #[.agg #[.int .i64 N, .slice A2 rs2.length c2, .slice O2 OV.length oc2], .nilIface]) (by simp [results, Tryz.results35, go_sem, s0, s1, s2]) rfl ⟨?_, _, .inr (.inr (.inr (.inr ⟨HRt.out.b, HRt.out.k, HRt.out.n, HRt.out.o, rfl⟩))), .inr ⟨rfl, rs2, _, HMa.out, HOVe.out ▸ HV5.out, .inr ⟨rfl, A2, c2, O2, oc2, by rw [← HOVe.out], ⟨?_, fun r hr => ?_, fun r hr => (HF5.out.bods r hr).2, HF5.out.rws.len⟩, ?_⟩⟩⟩
                · exact ((HB5.out.setCell (by simp) _).setCell (by simp) _).setCell (by simp) _
                · have q0 := own_set_other HF5.out.own (a := ⟨w.heap.size + 1, 0, none⟩) (own_kind_ne HF5.out.own HK5.out (by decide)) (.int .i64 N)
                  have q1 := own_set_other q0 (a := ⟨w.heap.size + 1, 1, none⟩) (own_kind_ne q0 HT0.out (by decide)) (.slice A2 rs2.length c2)
                  exact Rd.of_own (own_set_other q1 (a := ⟨w.heap.size + 1, 2, none⟩) (own_kind_ne q1 HT1.out (by decide)) (.slice O2 OV.length oc2))
                · have q := (HF5.out.bods r hr).1.resolve_right (fun h => h.1)
                  have q0 := rdk_set q (a := ⟨w.heap.size + 1, 0, none⟩) (fun c fz => by have := HK5.out; unfold Blk at this; rw [this]; simp) (.int .i64 N)
                  have q1 := rdk_set q0 (a := ⟨w.heap.size + 1, 1, none⟩) (fun c fz => by have := HT0.out; unfold Blk at this; rw [this]; simp) (.slice A2 rs2.length c2)
                  exact (rdk_set q1 (a := ⟨w.heap.size + 1, 2, none⟩) (fun c fz => by have := HT1.out; unfold Blk at this; rw [this]; simp) (.slice O2 OV.length oc2)).rd
                · rw [← HOVe.out]
                  have q0 := own_set_other HF5.out.over (a := ⟨w.heap.size + 1, 0, none⟩) (own_kind_ne HF5.out.over HK5.out (by decide)) (.int .i64 N)
                  have q1 := own_set_other q0 (a := ⟨w.heap.size + 1, 1, none⟩) (own_kind_ne q0 HT0.out (by decide)) (.slice A2 rs2.length c2)
                  exact Rd.of_own (own_set_other q1 (a := ⟨w.heap.size + 1, 2, none⟩) (own_kind_ne q1 HT1.out (by decide)) (.slice O2 OV.length oc2))
end Go.Proofs.YthokhiejlogpoaaGreatDoor.Cf

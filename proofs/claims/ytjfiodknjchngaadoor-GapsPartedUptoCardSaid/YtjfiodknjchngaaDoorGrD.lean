/- Gaps: a list of texts, cloned. Gaps: the program's Parted. -/
import Derived.Test.YtjfiodknjchngaaDoorGrW
import Derived.Test.YtjfiodknjchngaaDoorGpU
import Derived.Test.YtjfiodknjchngaaDoorGqT
import Derived.Deep.RegionLaw
namespace Go.Proofs.YtjfiodknjchngaaDoor.Gp
open Go.RowKit Mem Nest Fk App

theorem str_infoC : (Tryd.prog.info? 9).map (fun i => (i.zero, i.size, i.bytes)) = some (some (.string ByteArray.empty), 1, 16) := by kernel_rfl
theorem strs_oneC (l : List (List UInt8)) : ∀ u ∈ strsV l, u.oneCell' = true := fun u hu => by
  obtain ⟨s, _, rfl⟩ := List.mem_map.1 hu
  rfl
set_option maxHeartbeats 1000000 in
theorem cloneS_any (zs : List (List UInt8)) (hl : zs.length ≤ 1048576) (A : Option Addr) (c : Nat) (w : World) (hr : Rd w A (strsV zs)) :
    Calls Tryd.prog 28 #[.slice A zs.length c] w fun e w' => (∃ (A' : Option Addr) (c' : Nat), e = .returned (.slice A' zs.length c') ∧ RdK w' 9 A' (strsV zs) ∧ (A' = none → c' = 0)) ∧ Below w.heap.size w w' := by
  have HR := Lib.hid hr
  clear hr
  obtain ⟨i0, hi, hz0, hz1, hz2⟩ := info_parts str_infoC
  have HI := Lib.hid hi
  have HZ0 := Lib.hid hz0
  have HZ1 := Lib.hid hz1
  have HZ2 := Lib.hid hz2
  clear hi hz0 hz1 hz2
  have HNil : A = none → zs = [] := fun h => by
    subst h
    cases zs with
    | nil => rfl
    | cons e es => obtain ⟨_, _, h, _⟩ := HR.out 0 _ rfl; cases h
  have q : ∀ (w : World) (a : Option Addr) (n c n' c' : Nat), (binOp .eql 50 (.slice a n c) (.slice none n' c')).run Tryd.prog w = .ok (.bool a.isNone) w := fun w a n c n' c' => Lib.run_eql_slice_nil w _ _ a n c n' c' Tryd.underlying50
  cases A with
  | none =>
    obtain rfl := HNil rfl
    clear HNil
    go_enter Tryd.func28, Tryd.ntmps28
    go_wp2_with fail
    go_ret
    exact ⟨⟨none, 0, rfl, RdK.nil, fun _ => rfl⟩, Below.refl _ _⟩
  | some a =>
    clear HNil
    go_enter Tryd.func28, Tryd.ntmps28
    go_wp2_with (at_builtin; refine wpList_append_own _ rfl _ _ 50 rfl w.heap.size 9 i0 _ 1 16 Tryd.underlying50 HI.out HZ0.out HZ1.out HZ2.out rfl (by omega) _ _ _ rfl (World.ownsRow_made w #[] 0 (Nat.le_refl _) (Nat.zero_le _) (by simp)) a zs.length c (strsV zs) rfl ?qc1 ?qc2 ?qc3 ?qc4 ?qc5 ?qc6 ?_)
    case qc1 => simp [strsV]
    case qc2 =>
      intro j u hj
      obtain ⟨b, o, e, hc⟩ := HR.out j u hj
      obtain rfl := Option.some.inj e
      rw [show (⟨b, o, none⟩ : Addr).add j = ⟨b, o + j, none⟩ from Addr.add_lit _ _ _]
      exact Lib.cell?_alloc_some _ hc
    case qc3 => exact strs_oneC zs
    case qc4 => rw [Nat.zero_add]; simp only [maxLen]; omega
    case qc5 => rw [Nat.zero_add]; omega
    case qc6 => simp
    intro v' w1 hown hgrow hnil
    obtain ⟨A', c', rfl, hc1, _⟩ := own_slice hown
    have HC1 := Lib.hid (show A' = none → c' = 0 from fun h => by
      subst h
      rcases hown.2 with ⟨h1, _⟩ | ⟨g, cap, cur, h1, _⟩
      · simp only [Value.slice.injEq] at h1
        exact h1.2.2
      · cases h1)
    have HO := Lib.hid hown
    have HB := Lib.hid (show Below w.heap.size w w1 from ((Below.refl _ w).alloc (Nat.le_refl _) _).grown hgrow (by simp) (by intro k hk; simp [Value.ownBlock] at hk; omega))
    clear hown hgrow hnil hc1
    go_wp2_with fail
    go_ret
    have h := RdK.of_own HO.out
    exact ⟨⟨A', c', rfl, by simpa using h, HC1.out⟩, HB.out⟩
end Go.Proofs.YtjfiodknjchngaaDoor.Gp
namespace Go.Proofs.YtjfiodknjchngaaDoor.Gp
open Go.RowKit Mem Nest Fk Err App

def zeroT : Value := .agg #[.slice none 0 0, .slice none 0 0]
/-- what Parted tells -/
def PartedPost (code : Nat) (qms : List QnM) (R : List Rw) (E : Nat → Addr) (w : World) (e : Ending) (w' : World) : Prop :=
  Below w.heap.size w w' ∧ ((code ≠ 0 ∧ e = .returned (.tuple #[zeroT, errVal E code])) ∨ (code = 0 ∧ 60 < R.length ∧ e = .returned (.tuple #[zeroT, errVal E 2])) ∨
    (code = 0 ∧ R.length ≤ 60 ∧ ∃ (QA' : Option Addr) (qc' : Nat) (q2 : List QnM) (RA' : Option Addr) (rc' : Nat) (m2 : List RwM), e = .returned (.tuple #[.agg #[.slice QA' q2.length qc', .slice RA' m2.length rc'], .nilIface]) ∧ q2.map QnM.qn = qms.map QnM.qn ∧ QsP w' QA' q2 ∧ (∀ q ∈ q2, q.A = none → q.c = 0) ∧ m2.map RwM.rw = R ∧ RowsP w' RA' m2))
theorem q_infoR : (Tryd.prog.info? 88).map (fun i => (i.zero, i.size, i.bytes)) = some (some (.agg #[.string ByteArray.empty, .slice none 0 0]), 2, 40) := by kernel_rfl
theorem blk_grown_far {w w' : World} {K : Nat} {T : TypeId} {cs : List Value} {row : Option Nat} (h : Blk w K T cs) (hg : w.grownBy w' row) (hne : row ≠ some K) : Blk w' K T cs := by
  unfold Blk at h ⊢
  rw [hg.block K (Array.getElem?_eq_some_iff.1 h).1 (Ne.symm hne)]
  exact h
def KPt : TypeId → Prop := fun T => T = 31 ∨ T = 88
set_option maxRecDepth 100000 in
set_option maxHeartbeats 8000000 in
theorem parted_any (E : Nat → Addr) (qms : List QnM) (QA : Option Addr) (qc : Nat) (ms : List RwM) (RA : Option Addr) (rc : Nat) (w : World) (hE : Errs w E) (hq : QsP w QA qms) (hr : RowsP w RA ms)
    (hV : ∀ w' : World, Below w.heap.size w w' → Calls Tryd.prog 25 #[.agg #[.slice QA qms.length qc, .slice RA ms.length rc]] w' (ValidPost E (vcode (qms.map QnM.qn) (ms.map RwM.rw)) w'))
    (lf : Nat → Nat → Nat → Nat) (hlf : lf = fun (m q i : Nat) => lft (ms.map RwM.rw) q (i : Nat) m (ms.map RwM.rw).length) (fo : Nat → List UInt8) (hfo : fo = fun m => (firstF (ms.map RwM.rw) m).getD []) :
    Calls Tryd.prog 7 #[.agg #[.slice QA qms.length qc, .slice RA ms.length rc]] w (PartedPost (vcode (qms.map QnM.qn) (ms.map RwM.rw)) qms (restF lf fo (qms.map fun q => q.ans.length) 0 (2 ^ ms.length - 1)) E w) := by
  obtain ⟨K, hK⟩ : ∃ K, K = w.heap.size := ⟨_, rfl⟩
  obtain ⟨W1, hW1⟩ : ∃ W, W = w.alloc (.cells (List.toArray [.slice QA qms.length qc, .slice RA ms.length rc]) 31) := ⟨_, rfl⟩
  have hx1 : Below w.heap.size w W1 := by rw [hW1]; exact ext_alloc _ _
  have hbk : Blk W1 K 31 [.slice QA qms.length qc, .slice RA ms.length rc] := by rw [hW1, hK]; exact Blk.new _ _ _
  have hs1 : W1.heap.size = K + 1 := by rw [hW1, World.size_alloc, hK]
  obtain ⟨W2, hW2⟩ : ∃ W, W = W1.alloc (.cells (List.toArray [.slice none 0 0, .slice none 0 0]) 31) := ⟨_, rfl⟩
  have hx2 : Below W1.heap.size W1 W2 := by rw [hW2]; exact ext_alloc _ _
  have hbk2 : Blk W2 (K + 1) 31 [.slice none 0 0, .slice none 0 0] := by rw [hW2, ← hs1]; exact Blk.new _ _ _
  have hs2 : W2.heap.size = K + 2 := by rw [hW2, World.size_alloc, hs1]
  have HX := Lib.hid (ext_trans hx1 hx2)
  have r0 := cell_ext hx2 (hbk.cell 0 rfl)
  have r1 := cell_ext hx2 (hbk.cell 1 rfl)
  have HRs := Lib.hid hbk2
  have HW1 := Lib.hid hW1
  have HW2 := Lib.hid hW2
  have HK := Lib.hid hK
  have HE := Lib.hid (hE.below HX.out)
  have HGl := Lib.hid (show 0 < K from by rw [hK]; exact cell_lt hE.v1)
  have HQ := Lib.hid (hq.ext HX.out)
  have HQw := Lib.hid hq
  have HR := Lib.hid (hr.ext HX.out)
  have HV := Lib.hid (hV W2 HX.out)
  have HLf := Lib.hid hlf
  have HFo := Lib.hid hfo
  obtain ⟨c, hc⟩ : ∃ c, c = vcode (qms.map QnM.qn) (ms.map RwM.rw) := ⟨_, rfl⟩
  rw [← hc] at HV ⊢
  have HC := Lib.hid hc
  obtain ⟨R, hR⟩ : ∃ R, R = restF lf fo (qms.map fun q => q.ans.length) 0 (2 ^ ms.length - 1) := ⟨_, rfl⟩
  rw [← hR]
  have HRR := Lib.hid hR
  clear hx1 hx2 hbk hbk2 hW1 hW2 hK hE hq hr hV hlf hfo hc hR
  go_enter Tryd.func7, Tryd.ntmps7
  go_upto_region 1 with fail
  rw [show w.alloc (.cells #[.slice QA qms.length qc, .slice RA ms.length rc] 31) = W1 from HW1.out.symm]
  rw [show W1.alloc (.cells #[.slice none 0 0, .slice none 0 0] 31) = W2 from HW2.out.symm]
  rw [← HK.out]
  clear HW1 HW2 hs1
  go_wp2_with fail
  refine HV.out.mono ?_
  rintro e w1 ⟨rfl, hb1⟩
  have HB1 := Lib.hid hb1
  have r0 := cell_ext hb1 r0
  have r1 := cell_ext hb1 r1
  have HRs1 := Lib.hid (blk_ext5 HRs.out hb1)
  have f0 := HRs1.out.free 0
  have f1 := HRs1.out.free 1
  have q0 := HRs1.out.cell 0 rfl
  have q1 := HRs1.out.cell 1 rfl
  have hs3 : K + 2 ≤ w1.heap.size := by have := hb1.size; omega
  clear hb1 HV HRs
  by_cases h0 : c = 0
  · subst h0
    have HVt := Lib.hid (valid_of HC.out.symm)
    unfold errVal
    rw [if_pos rfl]
    have hq12 : qms.length ≤ 12 := by have := HVt.out.q12; rwa [List.length_map] at this
    have hm60 : ms.length ≤ 60 := by have := HVt.out.r60; rwa [List.length_map] at this
    have hp2 : 2 ^ ms.length - 1 < 2 ^ 64 := Nat.lt_of_le_of_lt (Nat.sub_le _ _) (Nat.pow_lt_pow_right (by omega) (by omega))
    have HB01 := Lib.hid (ext_trans HX.out HB1.out)
    obtain ⟨W4, hW4⟩ : ∃ W, W = w1.alloc (.cells (List.toArray [.slice QA qms.length qc, .slice RA ms.length rc, .slice none 0 0]) 83) := ⟨_, rfl⟩
    obtain ⟨PB, hPB⟩ : ∃ B, B = w1.heap.size := ⟨_, rfl⟩
    have hx4 : Below w1.heap.size w1 W4 := by rw [hW4]; exact ext_alloc _ _
    have hb4 : Blk W4 PB 83 [.slice QA qms.length qc, .slice RA ms.length rc, .slice none 0 0] := by rw [hW4, hPB]; exact Blk.new _ _ _
    have hs4 : K + 2 ≤ W4.heap.size := by have := hx4.size; omega
    have HX4 := Lib.hid hx4
    have HAll := Lib.hid (all_any (.slice QA qms.length qc) RA ms.length rc (by omega) W4)
    have HRest := Lib.hid (show ∀ w', Below W4.heap.size W4 w' → Calls Tryd.prog 26 #[.pointer (some ⟨PB, 0, none⟩), .int .i64 0, .int .u64 ((2 ^ ms.length - 1 : Nat) : Int)] w' (RestPost (R.take 61) w') from fun w' hb => by
      have h := rest_any qms QA qc ms RA rc PB W4 (HQ.out.ext (ext_trans HB1.out HX4.out)) (HR.out.ext (ext_trans HB1.out HX4.out)) HVt.out _ rfl (hb4.cell 0 rfl) (hb4.cell 1 rfl) lf HLf.out fo HFo.out (qms.map fun q => q.ans.length).length 0 (Nat.zero_add _) (2 ^ ms.length - 1) w' hp2 hb
      rw [List.drop_zero, ← HRR.out] at h
      exact h)
    have HPB := Lib.hid hPB
    have HW4 := Lib.hid hW4
    obtain ⟨al, hal⟩ : ∃ al, al = 2 ^ ms.length - 1 := ⟨_, rfl⟩
    rw [← hal] at HAll HRest
    clear hal hp2 hPB hW4 hx4
    go_upto_region 5 with fail
    rw [show w1.alloc (.cells #[.slice QA qms.length qc, .slice RA ms.length rc, .slice none 0 0] 83) = W4 from HW4.out.symm, ← HPB.out]
    have r0 := cell_ext HX4.out r0
    have r1 := cell_ext HX4.out r1
    have HRs4 := Lib.hid (blk_ext5 HRs1.out HX4.out)
    clear HRs1 f0 f1 q0 q1
    go_wp2_with fail
    refine HAll.out.mono ?_
    rintro e w5 ⟨rfl, hb5⟩
    go_wp2_with fail
    refine (HRest.out w5 hb5).mono ?_
    rintro e w6 ⟨RA', rc', m2, rfl, hm2, hown, hro, hb6⟩
    have HM2 := Lib.hid hm2
    have HOr := Lib.hid hown
    have HRo := Lib.hid hro
    have HB6 := Lib.hid (ext_trans hb5 hb6)
    have HRs6 := Lib.hid (blk_ext5 HRs4.out HB6.out)
    have r0 := cell_ext HB6.out r0
    have f0 := HRs6.out.free 0
    have f1 := HRs6.out.free 1
    have q0 := HRs6.out.cell 0 rfl
    have q1 := HRs6.out.cell 1 rfl
    have HB06 := Lib.hid (show Below w.heap.size w w6 from ext_trans HB01.out (ext_trans HX4.out HB6.out))
    have HE6 := Lib.hid (HE.out.below (ext_trans HB1.out (ext_trans HX4.out HB6.out)))
    have hs6 : K + 2 ≤ w6.heap.size := by have := HB6.out.size; omega
    have HB46 := Lib.hid HB6.out
    clear hm2 hown hro hb5 hb6 HAll HRest HRs4 HB6 r1
    by_cases hbig : 60 < m2.length
    · have hbc : (60 : Int) < m2.length := by omega
      have e1 := HE6.out.v1
      have HBig := Lib.hid (show 60 < R.length by
        have h := congrArg List.length HM2.out
        rw [List.length_map, List.length_take] at h
        omega)
      have hgl : 0 < K := HGl.out
      have e2 := e1
      unfold sentV at e1
      go_wp2_with fail
      have n1 := HRs6.out.set 0 (.slice none 0 0)
      go_region_held3 (fun w' => w'.cell? ⟨0, 0, none⟩ = some (.iface 227 (.pointer (some (E 1)))))
        (first
          | exact e1
          | (rw [World.cell?_setCell_ne _ _ _ _ (by intro h; have := congrArg Addr.block h; simp at this; omega), World.cell?_setCell_ne _ _ _ _ (by intro h; have := congrArg Addr.block h; simp at this; omega)]; exact e1)
          | go_keep)
        (fail)
      have b1 := blk_ext5 (n1.set 1 (.slice none 0 0)) (show Below _ _ (World.drew _) from ext_drewN _ 1)
      have s0 := b1.cell 0 rfl
      have s1 := b1.cell 1 rfl
      go_wp2_with fail
      refine bodyPost_ret (v := .tuple #[.agg #[.slice none 0 0, .slice none 0 0], .iface 227 (.pointer (some (E 1)))]) (by simp [results, Tryd.results7, go_sem, s0, s1]) rfl ?_
      exact ⟨ext_trans ((HB06.out.setCell (by simp; rw [← HK.out]; omega) _).setCell (by simp; rw [← HK.out]; omega) _) (ext_drewN _ 1), .inr (.inl ⟨rfl, HBig.out, rfl⟩)⟩
    · have hbc : ¬ (60 : Int) < m2.length := by omega
      have HRe := Lib.hid (show m2.map RwM.rw = R by
        have h := congrArg List.length HM2.out
        rw [List.length_map, List.length_take] at h
        rw [HM2.out, List.take_of_length_le (by omega)])
      obtain ⟨W7, hW7⟩ : ∃ W, W = w6.alloc (.cells (List.toArray [.slice none 0 0, .slice RA' m2.length rc']) 31) := ⟨_, rfl⟩
      obtain ⟨KO, hKO⟩ : ∃ B, B = w6.heap.size := ⟨_, rfl⟩
      have hx7 : Below w6.heap.size w6 W7 := by rw [hW7]; exact ext_alloc _ _
      have hb7 : Blk W7 KO 31 [.slice none 0 0, .slice RA' m2.length rc'] := by rw [hW7, hKO]; exact Blk.new _ _ _
      have hs7 : W7.heap.size = KO + 1 := by rw [hW7, hKO, World.size_alloc]
      have r0 := cell_ext hx7 r0
      have hKk : K + 2 ≤ KO := by omega
      have HX7 := Lib.hid hx7
      have HO7 := Lib.hid hb7
      have HW7 := Lib.hid hW7
      have HKO := Lib.hid hKO
      have HRs7 := Lib.hid (blk_ext5 HRs6.out hx7)
      have HOr7 := Lib.hid (RdK.of_own (own_ext HOr.out hx7))
      have HRo7 := Lib.hid (show ∀ r ∈ m2, RoN W7 r from fun r hr => (HRo.out r hr).ext hx7)
      have HQ7 := Lib.hid (HQ.out.ext (show Below W2.heap.size W2 W7 from ext_trans HB1.out (ext_trans HX4.out (ext_trans HB46.out hx7))))
      have HB07 := Lib.hid (show Below w.heap.size w W7 from ext_trans HB06.out hx7)
      have hs2 : K + 2 ≤ W7.heap.size := by omega
      clear hW7 hKO hx7 hb7 f0 f1 q0 q1 HRs6 HOr HRo HB06 HE6
      go_upto_region 9 with fail
      rw [show w6.alloc (.cells #[.slice none 0 0, .slice RA' m2.length rc'] 31) = W7 from HW7.out.symm, ← HKO.out]
      clear HW7
      obtain ⟨i0, hi, hz0, hz1, hz2⟩ := info_parts q_infoR
      have HI := Lib.hid (And.intro hi (And.intro hz0 (And.intro hz1 hz2)))
      clear hi hz0 hz1 hz2
      go_wp2_with fail
      go_loopw [33] (fun t33 wr => ∃ (i : Nat) (v : Value) (q2 : List QnM), t33 = .int .i64 i ∧ i ≤ qms.length ∧ Hid (Below KO W7 wr) ∧ Hid (Blk wr KO 31 [v, .slice RA' m2.length rc']) ∧ Hid (wr.ownsRow (KO + 1) 88 2 v i (q2.flatMap qmCells)) ∧ Hid (q2.map QnM.qn = (qms.take i).map QnM.qn) ∧ Hid (∀ q ∈ q2, RdK wr 9 q.A (strsV q.ans) ∧ (q.A = none → q.c = 0)) ∧ Hid (Kp KPt W7 wr)) (fun t33 _ => qms.length - (intOf t33).toNat)
      case atStart => exact ⟨0, _, [], rfl, by omega, Below.refl _ _, HO7.out, World.ownsRow_nil _ _ _ _, rfl, (fun q hq => by cases hq), Kp.refl _ _⟩
      case round =>
        obtain ⟨i, v, q2, rfl, hi, HB, HO, HOw, HQ2, HRd, HKp⟩ := hrel
        have hs8 : KO + 1 ≤ wr.heap.size := HO.out.lt
        have hKO : w.heap.size ≤ KO := by rw [← HK.out]; omega
        have HBw := Lib.hid (show Below w.heap.size w wr from HB07.out.trans (HB.out.mono hKO))
        clear hKO
        by_cases hlt : i < qms.length
        · have hci : (i : Int) < qms.length := by omega
          obtain ⟨qb, qo, hQA, x0, x1⟩ := (HQw.out.ext HBw.out).row hlt
          subst hQA
          have HAs := Lib.hid ((HQw.out.ext HBw.out).ans _ (List.getElem_mem hlt))
          have hal := HVt.out.a12 qms[i].qn (List.mem_map.2 ⟨_, List.getElem_mem hlt, rfl⟩)
          have HQi := Lib.hid (show (qms.take (i + 1)).map QnM.qn = (qms.take i).map QnM.qn ++ [qms[i].qn] by
            rw [List.take_succ_eq_append_getElem hlt, List.map_append]
            rfl)
          generalize qms[i] = Q at *
          obtain ⟨nm, an, aA, ac⟩ := Q
          simp only [QnM.qn] at x0 x1 hal HAs HQi
          obtain ⟨V1, hV1⟩ : ∃ V, V = wr.alloc (.cells (List.toArray [.string ⟨nm.toArray⟩, .slice aA an.length ac]) 88) := ⟨_, rfl⟩
          obtain ⟨KQ, hKQ⟩ : ∃ K, K = wr.heap.size := ⟨_, rfl⟩
          have hx1 : Below wr.heap.size wr V1 := by rw [hV1]; exact ext_alloc _ _
          have hbq : Blk V1 KQ 88 [.string ⟨nm.toArray⟩, .slice aA an.length ac] := by rw [hV1, hKQ]; exact Blk.new _ _ _
          have hsV : V1.heap.size = KQ + 1 := by rw [hV1, hKQ, World.size_alloc]
          have z0 := hbq.cell 0 rfl
          have z1 := hbq.cell 1 rfl
          have HO1 := Lib.hid (blk_ext5 HO.out hx1)
          have z2 := HO1.out.cell 0 rfl
          have HKq := Lib.hid hbq
          have HX1 := Lib.hid hx1
          have HV1 := Lib.hid hV1
          have HKQ := Lib.hid hKQ
          have HOw1 := Lib.hid (own_ext HOw.out hx1)
          have HAs1 := Lib.hid (HAs.out.ext hx1)
          have hs9 : KO + 1 ≤ V1.heap.size := by have := hx1.size; omega
          clear hV1 hx1 hbq hKQ
          go_upto_region 12 with fail
          rw [show wr.alloc (.cells #[.string ⟨nm.toArray⟩, .slice aA an.length ac] 88) = V1 from HV1.out.symm, ← HKQ.out]
          clear x0 x1 HV1
          have hd : Below V1.heap.size V1 V1.drew := ext_drewN V1 1
          have hal2 : an.length ≤ 1048576 := by omega
          go_region_law (first
              | (refine step_append_lies _ rfl (.tmp 38) (.tmp 45) 28 rfl (KO + 1) 88 i0 _ 2 40 Tryd.underlying28 HI.out.1 HI.out.2.1 HI.out.2.2.1 HI.out.2.2.2 rfl (by omega) v i _ rfl (World.ownsRow.alloc HOw3.out _) ⟨w3.heap.size, 0, none⟩ 1 1 [.string ⟨nm.toArray⟩, .slice A1 an.length c1] rfl rfl (new_cells w3 [.string ⟨nm.toArray⟩, .slice A1 an.length c1] _ _ rfl) (by intro u hu; simp only [List.mem_cons, List.not_mem_nil, or_false] at hu; rcases hu with rfl | rfl <;> rfl) (by omega) (by simp only [maxLen]; omega) (by omega) (by simp; omega) _ rfl ?_; intro g5 c5 w5 hown1 hg1 _ _; have HOw5 := Lib.hid hown1; have HG5 := Lib.hid hg1; have HO5 := Lib.hid (blk_grown_far (blk_ext5 HO3.out (ext_alloc w3 _)) hg1 (fun h => by have := (HOw3.out.lt _ h).1; omega)); have y1 := HO5.out.cell 0 rfl; have y2 := HO5.out.free 0; clear hown1 hg1)
              | (go_simp; go_at_call 28; refine (cloneS_any an hal2 aA ac _ (HAs1.out.ext hd)).mono ?_; rintro e w3 ⟨⟨A1, c1, rfl, hrd, hnil⟩, hb3⟩; have hb3 := ext_trans hd hb3; have HO3 := Lib.hid (blk_ext5 HO1.out hb3); have HK3 := Lib.hid (blk_ext5 HKq.out hb3); have HD3 := Lib.hid hrd; have HN3 := Lib.hid hnil; have HB3 := Lib.hid hb3; have HOw3 := Lib.hid (own_ext HOw1.out hb3); have y0 := HK3.out.cell 0 rfl; have y5 := HK3.out.cell 1 rfl; have y6 := fun ob => cell_ext (ext_alloc w3 ob) y0; have y7 := fun ob => cell_ext (ext_alloc w3 ob) y5; have z3 := HO3.out.cell 0 rfl; have z4 := fun ob => cell_ext (ext_alloc w3 ob) z3; have hs3 : KO + 1 ≤ w3.heap.size := HO3.out.lt; clear hrd hnil))
          all_goals (
              go_wp2_with fail
              go_roundw
              case rel =>
                have hk1 : Kp KPt w3 (w5.setCell ⟨KO, 0, none⟩ (.slice (some ⟨g5, 0, none⟩) (i + 1) c5)) := (Kp.of KPt (ext_alloc w3 _)).trans ((Kp.grown (World.ownsRow.alloc HOw3.out _) HG5.out (.inr rfl)).trans (Kp.set HO5.out (.inl rfl) 0 _))
                have hk2 : Kp KPt wr (w5.setCell ⟨KO, 0, none⟩ (.slice (some ⟨g5, 0, none⟩) (i + 1) c5)) := (Kp.of KPt (ext_trans HX1.out HB3.out)).trans hk1
                refine ⟨i + 1, _, q2 ++ [⟨nm, an, A1, c1⟩], by go_num, by omega, ?_, HO5.out.set 0 _, ?_, ?_, ?_, HKp.out.trans hk2⟩
                · show Below KO W7 _
                  exact (((HB.out.trans ((ext_trans HX1.out HB3.out).mono (by omega))).alloc (by omega) _).grown HG5.out (by simp; omega) (fun g hg => by have := (HOw3.out.lt g hg).1; omega)).setCell (Nat.le_refl _) _
                · have ho := ownsRow_setCell_below HOw5.out (a := ⟨KO, 0, none⟩) (by simp) (.slice (some ⟨g5, 0, none⟩) (i + 1) c5)
                  show World.ownsRow _ _ _ _ _ _ _
                  simpa [List.flatMap_append, qmCells] using ho
                · show List.map _ _ = _
                  rw [List.map_append, HQ2.out, HQi.out]
                  rfl
                · show ∀ q ∈ _, _
                  intro q hq
                  rcases List.mem_append.1 hq with hq | hq
                  · exact ⟨hk2.rdk (HRd.out q hq).1 (by unfold KPt; decide), (HRd.out q hq).2⟩
                  · rw [List.mem_singleton] at hq
                    subst hq
                    exact ⟨hk1.rdk HD3.out (by unfold KPt; decide), HN3.out⟩
              case measure => simp [intOf]; omega)
        · obtain rfl : qms.length = i := by omega
          have hci : ¬ (qms.length : Int) < qms.length := by omega
          have HQ3 := Lib.hid (show q2.map QnM.qn = qms.map QnM.qn by have := HQ2.out; rwa [List.take_length] at this)
          have hql : q2.length = qms.length := by
            have := congrArg List.length HQ3.out
            simpa using this
          have HQl := Lib.hid hql
          obtain ⟨QA2, qc2, rfl, _, _⟩ := own_slice HOw.out
          have HZ := Lib.hid (HRs7.out.ext (HB.out.mono (show K + 1 + 1 ≤ KO by omega)))
          have z0 := HO.out.cell 0 rfl
          have z1 := HO.out.cell 1 rfl
          have y0 := HZ.out.cell 0 rfl
          have y1 := HZ.out.cell 1 rfl
          have f0 := HZ.out.free 0
          have f1 := HZ.out.free 1
          have s1 := ((HZ.out.set 0 (.slice QA2 qms.length qc2)).set 1 (.slice RA' m2.length rc')).cell 1 rfl
          have s2 := ((HZ.out.set 0 (.slice QA2 qms.length qc2)).set 1 (.slice RA' m2.length rc')).cell 0 rfl
          clear hql r0
          go_wp2_with fail
          have hkt : Kp KT wr ((wr.setCell ⟨K + 1, 0, none⟩ (.slice QA2 qms.length qc2)).setCell ⟨K + 1, 1, none⟩ (.slice RA' m2.length rc')) := (Kp.set HZ.out (show KT 31 from rfl) 0 _).trans (Kp.set (HZ.out.set 0 (.slice QA2 qms.length qc2)) (show KT 31 from rfl) 1 _)
          have hkp : Kp KPt W7 ((wr.setCell ⟨K + 1, 0, none⟩ (.slice QA2 qms.length qc2)).setCell ⟨K + 1, 1, none⟩ (.slice RA' m2.length rc')) := HKp.out.trans ((Kp.set HZ.out (.inl rfl) 0 _).trans (Kp.set (HZ.out.set 0 (.slice QA2 qms.length qc2)) (.inl rfl) 1 _))
          refine bodyPost_ret (v := .tuple #[.agg #[.slice QA2 qms.length qc2, .slice RA' m2.length rc'], .nilIface]) (by simp [results, Tryd.results7, go_sem, s1, s2]) rfl ⟨?_, .inr (.inr ⟨rfl, ?_, QA2, qc2, q2, RA', rc', m2, by rw [HQl.out], HQ3.out, ⟨?_, fun q hq => ?_⟩, fun q hq => (HRd.out q hq).2, HRe.out, ⟨?_, fun m hm => ?_⟩⟩)⟩
          · exact (HBw.out.setCell (by simp; rw [← HK.out]; omega) _).setCell (by simp; rw [← HK.out]; omega) _
          · rw [← HRe.out, List.length_map]
            omega
          · exact (hkt.rdk (RdK.of_own HOw.out) (by unfold KT; decide)).rd
          · exact (hkt.rdk (HRd.out q hq).1 (by unfold KT; decide)).rd
          · exact (hkp.rdk HOr7.out (by unfold KPt; decide)).rd
          · exact ((HRo7.out m hm).kp hkp (by unfold KPt; decide) (by unfold KPt; decide)).1.cellsP
  · have hne : ∃ a, errVal E c = .iface 227 (.pointer (some a)) := by unfold errVal; rw [if_neg h0]; exact ⟨_, rfl⟩
    obtain ⟨ea, hea⟩ := hne
    have HEa := Lib.hid hea
    rw [hea]
    clear hea
    go_wp2_with fail
    have s0 := ((HRs1.out.set 0 (.slice none 0 0)).set 1 (.slice none 0 0)).cell 0 rfl
    have s1 := ((HRs1.out.set 0 (.slice none 0 0)).set 1 (.slice none 0 0)).cell 1 rfl
    refine bodyPost_ret (v := .tuple #[.agg #[.slice none 0 0, .slice none 0 0], .iface 227 (.pointer (some ea))]) (by simp [results, Tryd.results7, go_sem, s0, s1]) rfl ?_
    exact ⟨(((ext_trans HX.out HB1.out)).setCell (by simp; rw [← HK.out]; omega) _).setCell (by simp; rw [← HK.out]; omega) _, .inl ⟨h0, by rw [HEa.out]; rfl⟩⟩
end Go.Proofs.YtjfiodknjchngaaDoor.Gp

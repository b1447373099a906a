/- CasesFollow: the law's walk. -/
import Derived.Test.YthokhiejlogpoaaGreatDoorCfF
import Derived.Test.YthokhiejlogpoaaGreatDoorCfG
import Derived.Test.YthokhiejlogpoaaGreatDoorCfT
import Derived.Test.YthokhiejlogpoaaGreatDoorCoded1
import Derived.StillTailTactics
import Derived.Deep.RegionHeld3
namespace Go.Proofs.YthokhiejlogpoaaGreatDoor.CasesFollow
open Go.RowKit Mem Nest Thm LawT Val App Sol Solve Day Thy Rng Agree Err Cf

def ruKey (r : Ru) : Int × List Int × Int := (r.head, r.body, r.rank)
theorem zip_map {α β γ : Type} (f : α → β) (g : β × Nat → List γ) (l : List α) : (l.map f).zipIdx.flatMap g = l.zipIdx.flatMap fun p => g (f p.1, p.2) := by
  rw [List.zipIdx_map, List.flatMap_map]
  rfl
def onK (n i : Nat) (h r : Int) (y : Int × List Int × Int) (k : Nat) : List (Int × Int) := if y.1 = negW h ∧ (y.2.2 < r ∨ (y.2.2 = r ∧ k < i)) then [(((n + i : Nat) : Int), ((n + k : Nat) : Int))] else []
theorem onL_key (n i : Nat) (x y : Ru) (k : Nat) : onL n i x y k = onK n i x.head x.rank (ruKey y) k := by
  unfold onL onK Abo ruKey
  rfl
theorem adds_key (rs : List Rl) (all ls : List Ru) : adds rs all ls = (ls.map ruKey).zipIdx.flatMap fun p => addR rs.length p.2 p.1.1 rs ++ (all.map ruKey).zipIdx.flatMap fun q => onK rs.length p.2 p.1.1 p.1.2.2 q.1 q.2 := by
  rw [zip_map]
  unfold adds addL
  congr 1
  funext p
  congr 1
  rw [zip_map]
  rfl
theorem adds_same {rs : List Rl} {ls ls' : List Ru} (h : ls'.map ruKey = ls.map ruKey) : adds rs ls' ls' = adds rs ls ls := by rw [adds_key, adds_key, h]
theorem newR_key (ls : List Ru) : newR ls = (ls.map ruKey).map fun k => ⟨1, k.1, k.2.1⟩ := by
  unfold newR
  rw [List.map_map]
  rfl
theorem newR_same {ls ls' : List Ru} (h : ls'.map ruKey = ls.map ruKey) : newR ls' = newR ls := by rw [newR_key, newR_key, h]
theorem ru_info : (Tryz.prog.info? 104).map (fun i => (i.zero, i.size, i.bytes)) = some (some (.agg #[.int .i64 0, .slice none 0 0, .int .i64 0]), 3, 40) := by kernel_rfl
set_option maxRecDepth 100000 in
theorem walk_nil (LA : Option Addr) (n lc : Nat) (w : World) : Calls Tryz.prog 5 #[.pointer none, .slice LA n lc] w (TrueB w) := by
  go_enter Tryz.func5, Tryz.ntmps5
  go_wp2_with fail
  refine (opens_any _).mono ?_
  rintro e w1 ⟨rfl, hb⟩
  have HB := Lib.hid hb
  clear hb
  go_wp2_with fail
  go_ret
  exact ⟨rfl, HB.out⟩
set_option maxRecDepth 100000 in
set_option maxHeartbeats 8000000 in
theorem walk_ptr (b o : Nat) (N : Int) (rs : List Rw) (RA : Option Addr) (rc : Nat) (hrn : RA = none → rc = 0) (ov : List (Int × Int)) (OA : Option Addr) (oc : Nat) (ls : List Ru) (LA : Option Addr) (lc : Nat) (hlm : ls.length ≤ 1048576) (hlb : ∀ r ∈ ls, r.body.length ≤ 1048576) (hln : ∀ r ∈ ls, r.A = none → r.c = 0) (A : Nat → Addr) (w : World) (hT : ThA w b o N rs RA rc ov OA oc) (hL : Rus w LA ls) (hE : Errs w A) :
    Calls Tryz.prog 5 #[.pointer (some ⟨b, o, none⟩), .slice LA ls.length lc] w (TrueB w) := by
  have HT := Lib.hid hT
  have HL := Lib.hid hL
  have HE := Lib.hid hE
  have HRn := Lib.hid hrn
  have HLb := Lib.hid hlb
  have HLn := Lib.hid hln
  have HO := Lib.hid (opens_any w)
  obtain ⟨i0, hi, hz0, hz1, hz2⟩ := info_parts LawT.int_info
  have HI := Lib.hid hi
  have HI0 := Lib.hid hz0
  have HI1 := Lib.hid hz1
  have HI2 := Lib.hid hz2
  obtain ⟨j0, hi, hz0, hz1, hz2⟩ := info_parts ru_info
  have HJ := Lib.hid hi
  have HJ0 := Lib.hid hz0
  have HJ1 := Lib.hid hz1
  have HJ2 := Lib.hid hz2
  clear hT hL hE hrn hlb hln hi hz0 hz1 hz2
  go_enter Tryz.func5, Tryz.ntmps5
  go_wp2_with fail
  refine HO.out.mono ?_
  rintro e w1 ⟨rfl, hb⟩
  have HB1 := Lib.hid hb
  have HT1 := Lib.hid (HT.out.ext hb)
  have HL1 := Lib.hid (HL.out.ext hb)
  have c0 := HT1.out.c0
  have c1 := HT1.out.c1
  have c2 := HT1.out.c2
  clear hb HO HT HL
  by_cases h1 : (125 : Int) < (ls.length : Int)
  · go_wp2_with fail
    go_ret
    exact ⟨rfl, HB1.out⟩
  by_cases h2 : (125 : Int) < (rs.length : Int)
  · go_wp2_with fail
    go_ret
    exact ⟨rfl, HB1.out⟩
  by_cases h3 : (1300 : Int) < (ov.length : Int)
  · go_wp2_with fail
    go_ret
    exact ⟨rfl, HB1.out⟩
  by_cases h4 : 200 < N
  · go_wp2_with fail
    go_ret
    exact ⟨rfl, HB1.out⟩
  go_wp2_with fail
  clear c0 c1 c2
  go_loopw [6, 7, 8] (fun t6 t7 t8 wr => ∃ (z : Int) (j : Nat) (l2 : List Ru) (v : Value), t6 = .int .i64 z ∧ v = t7 ∧ t8 = .int .i64 j ∧ j ≤ ls.length ∧ Hid (Below w1.heap.size w1 wr) ∧ Hid (l2.map ruKey = (ls.take j).map ruKey) ∧ Hid (wr.ownsRow w1.heap.size 104 3 v j (l2.flatMap ruCells)) ∧ Hid (∀ r ∈ l2, RdK wr 3 r.A (ints r.body) ∧ r.body.length ≤ r.c ∧ r.c ≤ maxLen)) (fun _ _ t8 _ => ls.length - (intOf t8).toNat)
  case atStart => exact ⟨0, 0, [], _, rfl, rfl, rfl, Nat.zero_le _, Below.refl _ _, rfl, World.ownsRow_nil _ _ _ _, fun r hr => by cases hr⟩
  case round =>
    obtain ⟨z, j, l2, v, rfl, rfl, rfl, hj, HB, HK, HO, HD⟩ := hrel
    by_cases hlt : j < ls.length
    · have hLx := HL1.out.ext HB.out
      obtain ⟨b', o', rfl, r0, r1, r2⟩ := ru_at hLx.rows hlt
      obtain ⟨x, hx⟩ : ∃ x, x = ls[j] := ⟨_, rfl⟩
      rw [← hx] at r0 r1 r2
      have HBd := Lib.hid (hx ▸ hLx.bods _ (List.getElem_mem hlt))
      have hbl := hx ▸ HLb.out _ (List.getElem_mem hlt)
      have HBn := Lib.hid (hx ▸ HLn.out _ (List.getElem_mem hlt))
      have HXi := Lib.hid hx
      clear hx hLx
      obtain ⟨xh, xb, xr, xA, xc⟩ := x
      simp only at r0 r1 r2 hbl
      have hs0 : w1.heap.size ≤ wr.heap.size := HB.out.size
      go_upto_region 10 with fail
      go_cut [9] (fun s9 wx => s9 = .pointer (some ⟨wr.heap.size, 0, none⟩) ∧ Hid (Below wr.heap.size wr wx) ∧ Hid (Blk wx wr.heap.size 104 [.int .i64 xh, .slice none 0 0, .int .i64 xr]))
      case first =>
        go_region_held3 (fun w' => w'.cell? ⟨b', o' + j * 3, none⟩ = some (.int .i64 xh) ∧ w'.cell? ⟨b', o' + j * 3 + 2, none⟩ = some (.int .i64 xr))
          ((first | exact ⟨r0, r2⟩ | exact ⟨cell_ext (ext_alloc _ _) r0, cell_ext (ext_alloc _ _) r2⟩))
          (fail)
        all_goals
          go_wp2_with fail
          go_meet
          exact ⟨rfl, ext_trans (ext_alloc wr _) (ext_drewN _ 1), Sol.blk_ext (Blk.new wr _ [_, _, _]) (ext_drewN _ 1)⟩
      case rest =>
        obtain ⟨rfl, HBx, HRb⟩ := hcut
        have k2 := cell_ext HBx.out r1
        have k3 := HRb.out.cell 1 rfl
        have k4 := HRb.out.free 1
        have hs1 := HRb.out.lt
        have HBd2 := Lib.hid (HBd.out.ext HBx.out)
        clear r0 r1 r2
        go_upto_region 11 with fail
        go_cut [] (fun wx => ∃ (A1 : Option Addr) (c1 : Nat), Hid (Below wr.heap.size wr wx) ∧ Hid (Blk wx wr.heap.size 104 [.int .i64 xh, .slice A1 xb.length c1, .int .i64 xr]) ∧ Hid (wx.ownsRow (wr.heap.size + 1) 3 1 (.slice A1 xb.length c1) xb.length (ints xb)))
        case first =>
          go_still_tail 7, (by kernel_rfl)
          change wpList _ _ _ _ _ wc.drew
          go_wp2_with (at_builtin; refine wpList_append_rd _ rfl _ _ _ rfl (wr.heap.size + 1) 3 i0 _ 1 8 Tryz.underlying35 HI.out HI0.out HI1.out HI2.out rfl (by omega) (.slice none 0 0) 0 [] rfl (World.ownsRow_nil _ _ _ _) xA xb.length xc (ints xb) rfl HBn.out (by simp [ints]) (HBd2.out.ext (ext_drewN wc 1)) (ints_one xb) (by unfold maxLen; omega) (by omega) (by simp; omega) ?_; intro v1 w3 hown1 hg1; obtain ⟨A1, c1, hv1, hc1⟩ := own_slice hown1; subst hv1; have HO1 := Lib.hid hown1; have HBw := Lib.hid (ext_trans (ext_drewN wc 1) (ext_grown_nil hg1)); have HRb1 := Lib.hid (Sol.blk_ext HRb.out HBw.out); have z1 := HRb1.out.cell 1 rfl; have z2 := HRb1.out.free 1; clear hown1 hg1)
          go_meet
          refine ⟨A1, c1, (ext_trans HBx.out HBw.out).setCell (by simp) _, HRb1.out.set 1 _, ?_⟩
          have ho := ownsRow_setCell_below HO1.out (a := ⟨wr.heap.size, 1, none⟩) (by simp) (.slice A1 (0 + xb.length) c1)
          show World.ownsRow _ _ _ _ _ _ _
          simpa using ho
        case rest =>
          clear HBx HRb HBd2 k2 k3 k4 hs1
          obtain ⟨A1, c1, HBx, HRb, HOi⟩ := hcut
          have hcc := Lib.hid (show xb.length ≤ c1 ∧ c1 ≤ maxLen by
            obtain ⟨A2, c2, e, h1, h2⟩ := own_slice HOi.out
            cases e
            exact ⟨h1, h2⟩)
          have q0 := HRb.out.cell 0 rfl
          have q1 := HRb.out.cell 1 rfl
          have q2 := HRb.out.cell 2 rfl
          have HO3 := Lib.hid (own_ext HO.out HBx.out)
          have hs2 : w1.heap.size ≤ wc.heap.size := Nat.le_trans HB.out.size HBx.out.size
          go_wp2_with (at_builtin; refine wpList_append_own _ rfl _ _ _ rfl w1.heap.size 104 j0 _ 3 40 Tryz.underlying101 HJ.out HJ0.out HJ1.out HJ2.out rfl (by omega) v j _ rfl (World.ownsRow.alloc HO3.out _) ⟨wc.heap.size, 0, none⟩ 1 1 [.int .i64 xh, .slice A1 xb.length c1, .int .i64 xr] rfl rfl (new_cells wc [.int .i64 xh, .slice A1 xb.length c1, .int .i64 xr] _ _ rfl) (by intro u hu; simp only [List.mem_cons, List.not_mem_nil, or_false] at hu; rcases hu with rfl | rfl | rfl <;> rfl) (by simp only [maxLen]; omega) (by omega) (by simp; omega) ?_; intro v1 w3 hown1 hg1 _; have HO1 := Lib.hid hown1; have HG1 := Lib.hid hg1; have HBg := Lib.hid (Below.grown (B := w1.heap.size) ((Below.refl _ wc).alloc hs2 (.cells #[.int .i64 xh, .slice A1 xb.length c1, .int .i64 xr] 104)) hg1 (by simp; omega) (fun g hg => (HO3.out.lt g hg).1)); clear hown1 hg1)
          go_roundw
          case rel =>
            have hkind := Lib.ownsRow_kind (World.ownsRow.alloc HO3.out (.cells #[.int .i64 xh, .slice A1 xb.length c1, .int .i64 xr] 104))
            refine ⟨_, j + 1, l2 ++ [⟨xh, xb, xr, A1, c1⟩], _, rfl, rfl, by go_num, by omega, (HB.out.trans (HBx.out.mono HB.out.size)).trans HBg.out, ?_, ?_, ?_⟩
            · show List.map _ _ = _
              rw [List.map_append, HK.out, List.take_succ_eq_append_getElem hlt, List.map_append, ← HXi.out]
              rfl
            · have := HO1.out
              show World.ownsRow _ _ _ _ _ _ _
              simpa [List.flatMap_append, ruCells] using this
            · show ∀ r ∈ _, _
              intro r hr
              rcases List.mem_append.1 hr with hr | hr
              · exact ⟨(((HD.out r hr).1.ext HBx.out).ext (ext_alloc wc _)).grown HG1.out hkind (by decide), (HD.out r hr).2⟩
              · rw [List.mem_singleton] at hr
                subst hr
                exact ⟨((RdK.of_own HOi.out).ext (ext_alloc wc _)).grown HG1.out hkind (by decide), hcc.out⟩
          case measure => simp [intOf]; omega
    · obtain rfl : ls.length = j := by omega
      have HKa := Lib.hid (show l2.map ruKey = ls.map ruKey by have := HK.out; rwa [List.take_length] at this)
      clear HK
      by_cases hz : 1000 < z
      · go_wp2_with fail
        go_ret
        exact ⟨rfl, ext_trans HB1.out HB.out⟩
      · have hlen2 : l2.length = ls.length := by
          have := congrArg List.length HKa.out
          simpa using this
        obtain ⟨LA2, lc2, rfl, _⟩ := own_slice HO.out
        have HL2 := Lib.hid (show Rus wr LA2 l2 from ⟨Rd.of_own (hlen2 ▸ HO.out : wr.ownsRow _ _ _ (.slice LA2 l2.length lc2) l2.length _), fun r hr => (HD.out r hr).1.rd, fun r hr => (HD.out r hr).2⟩)
        have HL2b := Lib.hid (show ∀ r ∈ l2, r.body.length ≤ 1048576 from fun r hr => by
          have h1 : ruKey r ∈ ls.map ruKey := HKa.out ▸ List.mem_map_of_mem hr
          obtain ⟨x, hx, e⟩ := List.mem_map.1 h1
          have e2 : x.body = r.body := congrArg (fun k => k.2.1) e
          rw [← e2]
          exact HLb.out x hx)
        have HLen2 := Lib.hid hlen2
        have HB2 := Lib.hid HB.out
        have HTr := Lib.hid (HT1.out.ext HB.out)
        have HFg := Lib.hid (fun w' (hb : Below w1.heap.size w1 w') => following_any N rs RA rc HRn.out ov OA oc ls LA lc (by omega) HLb.out HLn.out b o w' (HT1.out.ext hb) (HL1.out.ext hb))
        obtain ⟨OV, hOV⟩ : ∃ OV, OV = ov ++ adds (rs.map Rw.rl) ls ls := ⟨_, rfl⟩
        have hol : OV.length ≤ 3000000 := by
          have h1 := adds_len (rs.map Rw.rl) ls ls (k := ls.length) (Nat.le_refl _)
          rw [List.length_map, List.take_length] at h1
          have h3 : (rs.length + ls.length) * ls.length ≤ 250 * 125 := Nat.mul_le_mul (by omega) (by omega)
          rw [hOV, List.length_append]
          omega
        have HOV := Lib.hid hOV
        have hl3 := HT1.out.l3
        clear HO HD HB hlen2 hOV HL1 HT1
        go_wp2_with fail
        refine (theory_any b o N rs RA rc ov OA oc _ HTr.out).mono ?_
        rintro e w3 ⟨rs', RA', rc', OA', oc', rfl, hrl, hR, hO, hb3⟩
        have HSm := Lib.hid (show Same rs rs' from hrl)
        have HB3 := Lib.hid (HB2.out.trans (hb3.mono HB2.out.size))
        have hfo := follow_any N rs' RA' rc' ov (by omega) OA' oc' l2 LA2 lc2 (by have := HLen2.out; omega) HL2b.out (A 1) (A 8) (A 6) (A 7) w3 hR hO (HL2.out.ext hb3) (four (HE.out.below (ext_trans HB1.out HB3.out))).e
        rw [HLen2.out] at hfo
        have HFo := Lib.hid hfo
        clear hrl hR hO hb3 hfo HL2 HL2b HTr
        go_wp2_with fail
        refine HFo.out.mono ?_
        rintro e w4 hfp
        unfold FolPost at hfp
        rw [show ov ++ adds (rs'.map Rw.rl) l2 l2 = OV by rw [HOV.out, adds_same HKa.out, show rs'.map Rw.rl = rs.map Rw.rl from HSm.out], newR_same HKa.out, show rs'.map Rw.rl = rs.map Rw.rl from HSm.out] at hfp
        obtain ⟨hb4, v1, hv1, hcase⟩ := hfp
        have HB4 := Lib.hid (HB3.out.trans (hb4.mono HB3.out.size))
        have HV1 := Lib.hid hv1
        clear hb4 hv1 HFo
        rcases hcase with ⟨a, rfl, rfl⟩ | ⟨rfl, rs2, v2, hrl2, hv2, hcase⟩
        · unfold zeroT
          dsimp only [errV]
          go_wp2_with fail
          generalize hX : w4.alloc (.cells #[.int .i64 0, .slice none 0 0, .slice none 0 0] 107) = X at *
          have HBX := Lib.hid (show Below w1.heap.size w1 X from hX ▸ ext_trans HB4.out (ext_alloc w4 _))
          have HBX4 := Lib.hid (show Below w4.heap.size w4 X from hX ▸ ext_alloc w4 _)
          have HX := Lib.hid (show Blk X w4.heap.size 107 [.int .i64 0, .slice none 0 0, .slice none 0 0] from hX ▸ Blk.new w4 _ [_, _, _])
          clear hX
          refine (HFg.out X HBX.out).mono ?_
          rintro e w5 hfg
          unfold FgPost at hfg
          rw [← HOV.out] at hfg
          obtain ⟨hb5, cc, hcc, hfg⟩ := hfg
          have HB5 := Lib.hid (ext_trans HBX.out hb5)
          have HX5 := Lib.hid (Sol.blk_ext HX.out hb5)
          have HB45 := Lib.hid (ext_trans HBX4.out hb5)
          clear hb5
          rcases agree HSm.out HV1.out hcc with ⟨_, he, _⟩ | ⟨_, k, hk, he, rfl⟩
          · cases he
          · rcases hfg with ⟨_, rfl⟩ | ⟨h0, _⟩
            · clear hcc
              have hpos : decide (0 < (k : Int) + 1) = true := decide_eq_true (by omega)
              have HCd := Lib.hid (coded5_sent k hk ((k : Int) + 1) A w5 (HE.out.below (ext_trans HB1.out HB5.out)))
              have HD := Lib.hid (show decide ((k : Int) + 1 = (k : Int) + 1) = true by simp)
              unfold sentV at he HCd
              obtain rfl : a = A k := by simpa [errV] using he
              clear he
              generalize (k : Int) + 1 = kc at *
              go_wp2_with fail
              refine HCd.out.mono ?_
              rintro e w6 ⟨rfl, hb6⟩
              have HB6 := Lib.hid (ext_trans HB5.out hb6)
              have k1 := (Sol.blk_ext HX5.out hb6).cell 1 rfl
              rw [HD.out]
              clear hb6
              go_wp2_with fail
              go_ret
              exact ⟨rfl, ext_trans HB1.out HB6.out⟩
            · omega
        · have HSm2 := Lib.hid (show Same (rs ++ ls.map ruRw) rs2 by
            show rs2.map Rw.rl = (rs ++ ls.map ruRw).map Rw.rl
            rw [hrl2, List.map_append, List.map_map]
            rfl)
          have HV2 := Lib.hid hv2
          clear hrl2 hv2
          rcases hcase with ⟨a, rfl, rfl⟩ | ⟨rfl, A2, c2, O2, oc2, rfl, hR2, hO2⟩
          · unfold zeroT
            dsimp only [errV]
            go_wp2_with fail
            generalize hX : w4.alloc (.cells #[.int .i64 0, .slice none 0 0, .slice none 0 0] 107) = X at *
            have HBX := Lib.hid (show Below w1.heap.size w1 X from hX ▸ ext_trans HB4.out (ext_alloc w4 _))
            have HBX4 := Lib.hid (show Below w4.heap.size w4 X from hX ▸ ext_alloc w4 _)
            have HX := Lib.hid (show Blk X w4.heap.size 107 [.int .i64 0, .slice none 0 0, .slice none 0 0] from hX ▸ Blk.new w4 _ [_, _, _])
            clear hX
            refine (HFg.out X HBX.out).mono ?_
            rintro e w5 hfg
            unfold FgPost at hfg
            rw [← HOV.out] at hfg
            obtain ⟨hb5, cc, hcc, hfg⟩ := hfg
            have HB5 := Lib.hid (ext_trans HBX.out hb5)
            have HX5 := Lib.hid (Sol.blk_ext HX.out hb5)
            have HB45 := Lib.hid (ext_trans HBX4.out hb5)
            clear hb5
            rcases agree HSm.out HV1.out hcc with ⟨_, _, rfl⟩ | ⟨_, _, _, he, _⟩
            · rcases hfg with ⟨h0, _⟩ | ⟨_, G, RA2, rc2, OA2, oc2, hTh, c2, hc2, rfl⟩
              · exact absurd h0 (by decide)
              · rcases agree HSm2.out HV2.out hc2 with ⟨_, he, _⟩ | ⟨_, k, hk, he, rfl⟩
                · cases he
                · clear hcc hTh hc2
                  have hpos : decide (0 < (k : Int) + 1) = true := decide_eq_true (by omega)
                  have HCd := Lib.hid (coded5_sent k hk ((k : Int) + 1) A w5 (HE.out.below (ext_trans HB1.out HB5.out)))
                  have HD := Lib.hid (show decide ((k : Int) + 1 = (k : Int) + 1) = true by simp)
                  unfold sentV at he HCd
                  obtain rfl : a = A k := by simpa [errV] using he
                  clear he
                  generalize (k : Int) + 1 = kc at *
                  go_wp2_with fail
                  refine HCd.out.mono ?_
                  rintro e w6 ⟨rfl, hb6⟩
                  have HB6 := Lib.hid (ext_trans HB5.out hb6)
                  have k1 := (Sol.blk_ext HX5.out hb6).cell 1 rfl
                  rw [HD.out]
                  clear hb6
                  go_wp2_with fail
                  go_ret
                  exact ⟨rfl, ext_trans HB1.out HB6.out⟩
            · cases he
          · have HR2 := Lib.hid hR2
            have HO2 := Lib.hid hO2
            clear hR2 hO2
            go_wp2_with fail
            generalize hX : w4.alloc (.cells #[.int .i64 N, .slice A2 rs2.length c2, .slice O2 OV.length oc2] 107) = X at *
            have HBX := Lib.hid (show Below w1.heap.size w1 X from hX ▸ ext_trans HB4.out (ext_alloc w4 _))
            have HBX4 := Lib.hid (show Below w4.heap.size w4 X from hX ▸ ext_alloc w4 _)
            have HX := Lib.hid (show Blk X w4.heap.size 107 [.int .i64 N, .slice A2 rs2.length c2, .slice O2 OV.length oc2] from hX ▸ Blk.new w4 _ [_, _, _])
            clear hX
            refine (HFg.out X HBX.out).mono ?_
            rintro e w5 hfg
            unfold FgPost at hfg
            rw [← HOV.out] at hfg
            obtain ⟨hb5, cc, hcc, hfg⟩ := hfg
            have HB5 := Lib.hid (ext_trans HBX.out hb5)
            have HX5 := Lib.hid (Sol.blk_ext HX.out hb5)
            have HB45 := Lib.hid (ext_trans HBX4.out hb5)
            clear hb5
            rcases agree HSm.out HV1.out hcc with ⟨_, _, rfl⟩ | ⟨_, _, _, he, _⟩
            · rcases hfg with ⟨h0, _⟩ | ⟨_, G, RA2, rc2, OA2, oc3, hTh, c3, hc3, rfl⟩
              · exact absurd h0 (by decide)
              · rcases agree HSm2.out HV2.out hc3 with ⟨_, _, rfl⟩ | ⟨_, _, _, he, _⟩
                · have k0 := HX5.out.cell 0 rfl
                  have k1 := HX5.out.cell 1 rfl
                  have k2 := HX5.out.cell 2 rfl
                  have hl2 : rs2.length ≤ 1048576 := by rw [HSm2.out.len]; exact hTh.l1
                  have HS := Lib.hid (same_theories N rs2 (rs ++ ls.map ruRw) HSm2.out A2 c2 OV O2 oc2 hl2 hol (fun r hr => by
                    obtain ⟨x, hx, e⟩ := HSm2.out.ex (fun y => y = r.rl) ⟨r, hr, rfl⟩
                    have e2 : x.body = r.body := congrArg Rl.body e
                    rw [← e2]
                    exact hTh.l2 x hx) G RA2 rc2 OA2 oc3 w5 (HR2.out.ext HB45.out) (HO2.out.ext HB45.out) hTh.rules hTh.over hTh.c0 hTh.c1 hTh.c2)
                  clear hcc hTh hc3 hl2
                  go_wp2_with fail
                  refine HS.out.mono ?_
                  rintro e w6 ⟨rfl, hb6⟩
                  have HB6 := Lib.hid (ext_trans HB5.out hb6)
                  clear hb6
                  go_wp2_with fail
                  go_ret
                  exact ⟨rfl, ext_trans HB1.out HB6.out⟩
                · cases he
            · cases he
end Go.Proofs.YthokhiejlogpoaaGreatDoor.CasesFollow

/- The theory as the statement hands it on: few, Theory. statutelaw4.Theory: the theory is copied. statutelaw4.live: the program answers. Small facts that the laws on theories share: rules of a copy, the document's Place. -/
import Derived.Test.YthokhiejlogpoaaGreatDoorSolve
import Derived.Test.YthokhiejlogpoaaGreatDoorApp
import Derived.StillTailTactics
import Derived.Deep.RegionHeld3
import Derived.Deep.DeepCutAuto
namespace Go.Proofs.YthokhiejlogpoaaGreatDoor.LawT
open Go.RowKit Mem Thy Nest Day Thm

/-- a theory among the arguments -/
structure ThA (w : World) (b o : Nat) (N : Int) (rs : List Rw) (RA : Option Addr) (rc : Nat) (ov : List (Int × Int)) (OA : Option Addr) (oc : Nat) : Prop where
  c0 : w.cell? ⟨b, o, none⟩ = some (.int .i64 N)
  c1 : w.cell? ⟨b, o + 1, none⟩ = some (.slice RA rs.length rc)
  c2 : w.cell? ⟨b, o + 2, none⟩ = some (.slice OA ov.length oc)
  rules : Rws w RA rs
  over : Rd w OA (ov.flatMap prCells)
  onil : OA = none → oc = 0
  bnil : ∀ r ∈ rs, r.A = none → r.c = 0
  l1 : rs.length ≤ 1048576
  l2 : ∀ r ∈ rs, r.body.length ≤ 1048576
  l3 : ov.length ≤ 1048576
section
variable {w w' : World} {b o : Nat} {N : Int} {rs : List Rw} {RA : Option Addr} {rc : Nat} {ov : List (Int × Int)} {OA : Option Addr} {oc : Nat}
theorem ThA.ext (h : ThA w b o N rs RA rc ov OA oc) (hb : Below w.heap.size w w') : ThA w' b o N rs RA rc ov OA oc :=
  ⟨cell_ext hb h.c0, cell_ext hb h.c1, cell_ext hb h.c2, h.rules.ext hb, h.over.ext hb, h.onil, h.bnil, h.l1, h.l2, h.l3⟩
end
def SomeB (w : World) (e : Ending) (w' : World) : Prop := (∃ b : Bool, e = .returned (.bool b)) ∧ w = w'
end Go.Proofs.YthokhiejlogpoaaGreatDoor.LawT
namespace Go.Proofs.YthokhiejlogpoaaGreatDoor.LawT
open Go.RowKit Mem Thy Nest Day Thm App

theorem rule_info : (Tryz.prog.info? 171).map (fun i => (i.zero, i.size, i.bytes)) = some (some (.agg #[.int .i64 0, .int .i64 0, .slice none 0 0]), 3, 40) := by kernel_rfl
theorem int_info : (Tryz.prog.info? 3).map (fun i => (i.zero, i.size, i.bytes)) = some (some (.int .i64 0), 1, 8) := by kernel_rfl
theorem pair_info : (Tryz.prog.info? 169).map (fun i => (i.zero, i.size, i.bytes)) = some (some (.agg #[.int .i64 0, .int .i64 0]), 2, 16) := by kernel_rfl
theorem ints_one (zs : List Int) : ∀ u ∈ ints zs, u.oneCell' = true := fun u hu => by
  obtain ⟨z, _, rfl⟩ := List.mem_map.1 hu
  rfl
theorem prs_one (ps : List (Int × Int)) : ∀ u ∈ ps.flatMap prCells, u.oneCell' = true := fun u hu => by
  obtain ⟨p, _, h⟩ := List.mem_flatMap.1 hu
  simp only [prCells, List.mem_cons, List.not_mem_nil, or_false] at h
  rcases h with rfl | rfl <;> rfl
theorem ext_grown_nil {w w1 : World} (hg : w.grownBy w1 (Value.slice none 0 0).ownBlock) : Below w.heap.size w w1 := (Below.refl _ w).grown hg (Nat.le_refl _) fun k hk => by cases hk
theorem rdk_set {w : World} {e : TypeId} {A : Option Addr} {cs : List Value} (h : RdK w e A cs) {a : Addr} (ha : ∀ c fz, w.heap[a.block]? ≠ some (.cells c e fz)) (v : Value) : RdK (w.setCell a v) e A cs := fun j u hj => by
  obtain ⟨b, o, e1, hc, c, fz, hb⟩ := h j u hj
  have hne : b ≠ a.block := fun he => ha c fz (he ▸ hb)
  refine ⟨b, o, e1, cell_set_other hc hne v, c, fz, ?_⟩
  rw [← hb]
  simp [World.setCell, Array.getElem?_modify, Ne.symm hne]
/-- what Theory hands on -/
def TheoryPost (N : Int) (rs : List Rw) (ov : List (Int × Int)) (w : World) (e : Ending) (w' : World) : Prop :=
  ∃ (rs' : List Rw) (RA' : Option Addr) (rc' : Nat) (OA' : Option Addr) (oc' : Nat), e = .returned (.agg #[.int .i64 N, .slice RA' rs'.length rc', .slice OA' ov.length oc']) ∧ rs'.map Rw.rl = rs.map Rw.rl ∧ Rws w' RA' rs' ∧ Rd w' OA' (ov.flatMap prCells) ∧ Below w.heap.size w w'
set_option maxRecDepth 100000 in
set_option maxHeartbeats 4000000 in
theorem theory_any (b o : Nat) (N : Int) (rs : List Rw) (RA : Option Addr) (rc : Nat) (ov : List (Int × Int)) (OA : Option Addr) (oc : Nat) (w : World) (h : ThA w b o N rs RA rc ov OA oc) :
    Calls Tryz.prog 36 #[.pointer (some ⟨b, o, none⟩)] w (TheoryPost N rs ov w) := by
  have H := Lib.hid h
  have l1 := h.l1
  have l3 := h.l3
  have c0 := h.c0
  have c0x : ∀ ob, (w.alloc ob).cell? ⟨b, o, none⟩ = some (.int .i64 N) := fun ob => cell_ext (ext_alloc w ob) c0
  have x1 := ext_alloc w (.cells #[.int .i64 0, .slice none 0 0, .slice none 0 0] 107)
  have x2 := ext_alloc (w.alloc (.cells #[.int .i64 0, .slice none 0 0, .slice none 0 0] 107)) (.cells #[.int .i64 N, .slice none 0 0, .slice none 0 0] 107)
  have HX := Lib.hid (ext_trans x1 x2)
  have HZ := Lib.hid (Sol.blk_ext (Blk.new w 107 [.int .i64 0, .slice none 0 0, .slice none 0 0]) x2)
  have HOb := Lib.hid (show Blk ((w.alloc (.cells #[.int .i64 0, .slice none 0 0, .slice none 0 0] 107)).alloc (.cells #[.int .i64 N, .slice none 0 0, .slice none 0 0] 107)) (w.heap.size + 1) 107 [.int .i64 N, .slice none 0 0, .slice none 0 0] by simpa using Blk.new (w.alloc (.cells #[.int .i64 0, .slice none 0 0, .slice none 0 0] 107)) 107 [.int .i64 N, .slice none 0 0, .slice none 0 0])
  obtain ⟨i0, hi, hz0, hz1, hz2⟩ := info_parts int_info
  have HI := Lib.hid hi
  have HI0 := Lib.hid hz0
  have HI1 := Lib.hid hz1
  have HI2 := Lib.hid hz2
  obtain ⟨j0, hi, hz0, hz1, hz2⟩ := info_parts rule_info
  have HJ := Lib.hid hi
  have HJ0 := Lib.hid hz0
  have HJ1 := Lib.hid hz1
  have HJ2 := Lib.hid hz2
  obtain ⟨p0, hi, hz0, hz1, hz2⟩ := info_parts pair_info
  have HP := Lib.hid hi
  have HP0 := Lib.hid hz0
  have HP1 := Lib.hid hz1
  have HP2 := Lib.hid hz2
  clear h hi hz0 hz1 hz2 x1 x2
  go_enter Tryz.func36, Tryz.ntmps36
  go_wp2_with fail
  clear c0 c0x
  go_loopw [4] (fun t4 wr => ∃ (j : Nat) (rs' : List Rw) (v : Value), t4 = .int .i64 j ∧ j ≤ rs.length ∧ Hid (Below w.heap.size w wr) ∧ Hid (Blk wr w.heap.size 107 [.int .i64 0, .slice none 0 0, .slice none 0 0]) ∧ Hid (Blk wr (w.heap.size + 1) 107 [.int .i64 N, v, .slice none 0 0]) ∧ Hid (rs'.map Rw.rl = (rs.take j).map Rw.rl) ∧ Hid (wr.ownsRow (w.heap.size + 2) 171 3 v j (rs'.flatMap rwCells)) ∧ Hid (∀ r ∈ rs', RdK wr 3 r.A (ints r.body) ∧ r.body.length ≤ r.c ∧ r.c ≤ maxLen)) (fun t4 _ => rs.length - (intOf t4).toNat)
  case atStart => exact ⟨0, [], _, rfl, Nat.zero_le _, HX.out, HZ.out, HOb.out, rfl, World.ownsRow_nil _ _ _ _, fun r hr => by cases hr⟩
  case round =>
    clear HX HZ HOb
    obtain ⟨j, rs', v, rfl, hj, HB, HZ, HOb, HK, HO, HD⟩ := hrel
    have HA := Lib.hid (H.out.ext HB.out)
    have c1 := HA.out.c1
    by_cases hlt : j < rs.length
    · obtain ⟨b', o', rfl, r0, r1, r2⟩ := HA.out.rules.row hlt
      obtain ⟨r, hr⟩ : ∃ r, r = rs[j] := ⟨_, rfl⟩
      rw [← hr] at r0 r1 r2
      have hbl : r.body.length ≤ 1048576 := hr ▸ H.out.l2 _ (List.getElem_mem hlt)
      have HBd := Lib.hid (hr ▸ HA.out.rules.bods _ (List.getElem_mem hlt))
      have HBn := Lib.hid (hr ▸ H.out.bnil _ (List.getElem_mem hlt))
      have HRj := Lib.hid hr
      clear hr
      obtain ⟨rk, rh, rb, rA, rcc⟩ := r
      simp only at r0 r1 r2 hbl
      have hs0 : w.heap.size + 1 < wr.heap.size := HOb.out.lt
      go_upto_region 5 with fail
      go_cut [5] (fun s5 wx => s5 = .pointer (some ⟨wr.heap.size, 0, none⟩) ∧ Hid (Below wr.heap.size wr wx) ∧ Hid (Blk wx wr.heap.size 171 [.int .i64 rk, .int .i64 rh, .slice none 0 0]))
      case first =>
        go_region_held3 (fun w' => w'.cell? ⟨b, o + 1, none⟩ = some (.slice (some ⟨b', o', none⟩) rs.length rc) ∧ w'.cell? ⟨b', o' + j * 3, none⟩ = some (.int .i64 rk) ∧ w'.cell? ⟨b', o' + j * 3 + 1, none⟩ = some (.int .i64 rh))
          ((first | exact ⟨c1, r0, r1⟩ | exact ⟨cell_ext (ext_alloc _ _) c1, cell_ext (ext_alloc _ _) r0, cell_ext (ext_alloc _ _) r1⟩))
          (fail)
        all_goals
          go_wp2_with fail
          go_meet
          exact ⟨rfl, ext_trans (ext_alloc wr _) (ext_drewN _ 1), Sol.blk_ext (Blk.new wr _ [_, _, _]) (ext_drewN _ 1)⟩
      case rest =>
        obtain ⟨rfl, HBx, HRb⟩ := hcut
        have k1 := cell_ext HBx.out c1
        have k2 := cell_ext HBx.out r2
        have k3 := HRb.out.cell 2 rfl
        have k4 := HRb.out.free 2
        have hs1 := HRb.out.lt
        have HBd2 := Lib.hid (HBd.out.ext HBx.out)
        clear c1 r0 r1 r2
        go_upto_region 6 with fail
        go_cut [] (fun wx => ∃ (A1 : Option Addr) (c1 : Nat), Hid (Below wr.heap.size wr wx) ∧ Hid (Blk wx wr.heap.size 171 [.int .i64 rk, .int .i64 rh, .slice A1 rb.length c1]) ∧ Hid (wx.ownsRow (wr.heap.size + 1) 3 1 (.slice A1 rb.length c1) rb.length (ints rb)))
        case first =>
          go_still_tail 10, (by kernel_rfl)
          change wpList _ _ _ _ _ wc.drew
          go_wp2_with (at_builtin; refine wpList_append_rd _ rfl _ _ _ rfl (wr.heap.size + 1) 3 i0 _ 1 8 Tryz.underlying35 HI.out HI0.out HI1.out HI2.out rfl (by omega) (.slice none 0 0) 0 [] rfl (World.ownsRow_nil _ _ _ _) rA rb.length rcc (ints rb) rfl HBn.out (by simp [ints]) (HBd2.out.ext (ext_drewN wc 1)) (ints_one rb) (by unfold maxLen; omega) (by omega) (by simp; omega) ?_; intro v1 w1 hown1 hg1; obtain ⟨A1, c1, hv1, hc1⟩ := own_slice hown1; subst hv1; have HO1 := Lib.hid hown1; have HBw := Lib.hid (ext_trans (ext_drewN wc 1) (ext_grown_nil hg1)); have HRb1 := Lib.hid (Sol.blk_ext HRb.out HBw.out); have z1 := HRb1.out.cell 2 rfl; have z2 := HRb1.out.free 2; clear hown1 hg1)
          go_meet
          refine ⟨A1, c1, (ext_trans HBx.out HBw.out).setCell (by simp) _, HRb1.out.set 2 _, ?_⟩
          have ho := ownsRow_setCell_below HO1.out (a := ⟨wr.heap.size, 2, none⟩) (by simp) (.slice A1 (0 + rb.length) c1)
          show World.ownsRow _ _ _ _ _ _ _
          simpa using ho
        case rest =>
          clear HBx HRb HBd2 k1 k2 k3 k4 hs1
          obtain ⟨A1, c1, HBx, HRb, HOi⟩ := hcut
          have hcc := Lib.hid (show rb.length ≤ c1 ∧ c1 ≤ maxLen by
            obtain ⟨A2, c2, e, h1, h2⟩ := own_slice HOi.out
            cases e
            exact ⟨h1, h2⟩)
          have HOb2 := Lib.hid (Sol.blk_ext HOb.out HBx.out)
          have k1 := HOb2.out.cell 1 rfl
          have q0 := HRb.out.cell 0 rfl
          have q1 := HRb.out.cell 1 rfl
          have q2 := HRb.out.cell 2 rfl
          have HO3 := Lib.hid (own_ext HO.out HBx.out)
          have hs2 : w.heap.size + 2 ≤ wc.heap.size := by have := HOb2.out.lt; omega
          go_wp2_with (at_builtin; refine wpList_append_own _ rfl _ _ _ rfl (w.heap.size + 2) 171 j0 _ 3 40 Tryz.underlying105 HJ.out HJ0.out HJ1.out HJ2.out rfl (by omega) v j _ rfl (World.ownsRow.alloc HO3.out _) ⟨wc.heap.size, 0, none⟩ 1 1 [.int .i64 rk, .int .i64 rh, .slice A1 rb.length c1] rfl rfl (new_cells wc [.int .i64 rk, .int .i64 rh, .slice A1 rb.length c1] _ _ rfl) (by intro u hu; simp only [List.mem_cons, List.not_mem_nil, or_false] at hu; rcases hu with rfl | rfl | rfl <;> rfl) (by simp only [maxLen]; omega) (by omega) (by simp; omega) ?_; intro v1 w1 hown1 hg1 _; obtain ⟨A2, c2, hv1, _⟩ := own_slice hown1; subst hv1; have HO1 := Lib.hid hown1; have HG1 := Lib.hid hg1; have HBg := Lib.hid (Below.grown (B := w.heap.size + 2) ((Below.refl _ wc).alloc hs2 (.cells #[.int .i64 rk, .int .i64 rh, .slice A1 rb.length c1] 171)) hg1 (by simp; omega) (fun g hg => (HO3.out.lt g hg).1)); have HOb3 := Lib.hid (HOb2.out.ext HBg.out); have z1 := HOb3.out.cell 1 rfl; have z2 := HOb3.out.free 1; clear hown1 hg1)
          go_roundw
          case rel =>
            have hkind := Lib.ownsRow_kind (World.ownsRow.alloc HO3.out (.cells #[.int .i64 rk, .int .i64 rh, .slice A1 rb.length c1] 171))
            have hset : ∀ {A : Option Addr} {cs : List Value}, RdK w1 3 A cs → RdK (w1.setCell ⟨w.heap.size + 1, 1, none⟩ (.slice A2 (j + 1) c2)) 3 A cs := fun {A cs} h => rdk_set h (fun c fz => by
              have := HOb3.out
              unfold Blk at this
              rw [this]
              simp) _
            refine ⟨j + 1, rs' ++ [⟨rk, rh, rb, A1, c1⟩], _, by go_num, by omega, ?_, ?_, HOb3.out.set 1 _, ?_, ?_, ?_⟩
            · exact ((HB.out.trans (HBx.out.mono HB.out.size)).trans (HBg.out.mono (by omega))).setCell (by simp) _
            · exact blk_set (((Sol.blk_ext HZ.out HBx.out).ext (HBg.out.mono (by omega)))) (by simp) _
            · show List.map _ _ = _
              rw [List.map_append, HK.out, List.take_succ_eq_append_getElem hlt, List.map_append, ← HRj.out]
              rfl
            · have ho := ownsRow_setCell_below HO1.out (a := ⟨w.heap.size + 1, 1, none⟩) (by simp) (.slice A2 (j + 1) c2)
              show World.ownsRow _ _ _ _ _ _ _
              simpa [List.flatMap_append, rwCells] using ho
            · show ∀ r ∈ _, _
              intro r hr
              rcases List.mem_append.1 hr with hr | hr
              · exact ⟨hset ((((HD.out r hr).1.ext HBx.out).ext (ext_alloc wc _)).grown HG1.out hkind (by decide)), (HD.out r hr).2⟩
              · rw [List.mem_singleton] at hr
                subst hr
                exact ⟨hset (((RdK.of_own HOi.out).ext (ext_alloc wc _)).grown HG1.out hkind (by decide)), hcc.out⟩
          case measure => simp [intOf]; omega
    · obtain rfl : rs.length = j := by omega
      have HL2 := Lib.hid (show rs'.length = rs.length by
        have := congrArg List.length HK.out
        simpa using this)
      obtain ⟨Av, cv, rfl, hcv⟩ : ∃ Av cv, v = .slice Av rs.length cv ∧ rs.length ≤ cv ∧ cv ≤ maxLen := by
        obtain ⟨A, c, e, h1, h2⟩ := own_slice HO.out
        exact ⟨A, c, e, h1, h2⟩
      have HA := Lib.hid (H.out.ext HB.out)
      have k0 := HA.out.c2
      have k1 := HOb.out.cell 2 rfl
      have hlen : (ov.flatMap prCells).length = ov.length * 2 := flat_len prCells_len ov
      have HLen := Lib.hid hlen
      have hlo := HOb.out.lt
      clear hlen
      go_wp2_with fail
      clear c1
      go_still_tail 6, (by kernel_rfl)
      change wpList _ _ _ _ _ wr.drew
      go_wp2_with (at_builtin; refine wpList_append_rd _ rfl _ _ _ rfl wr.heap.size 169 p0 _ 2 16 Tryz.underlying98 HP.out HP0.out HP1.out HP2.out rfl (by omega) (.slice none 0 0) 0 [] rfl (World.ownsRow_nil _ _ _ _) OA ov.length oc (ov.flatMap prCells) rfl HA.out.onil HLen.out (HA.out.over.ext (ext_drewN wr 1)) (prs_one ov) (by unfold maxLen; omega) (by omega) (by simp) ?_; intro v1 w1 hown1 hg1; obtain ⟨A3, c3, hv1, hc3⟩ := own_slice hown1; subst hv1; have HO1 := Lib.hid hown1; have HBw := Lib.hid (ext_trans (ext_drewN wr 1) (ext_grown_nil hg1)); have HOb1 := Lib.hid (Sol.blk_ext HOb.out HBw.out); have HZ1 := Lib.hid (Sol.blk_ext HZ.out HBw.out); have z0 := HOb1.out.cell 0 rfl; have z1 := HOb1.out.cell 1 rfl; have z2 := HOb1.out.cell 2 rfl; have z3 := HOb1.out.free 2; have y0 := HZ1.out.cell 0 rfl; have y1 := HZ1.out.cell 1 rfl; have y2 := HZ1.out.cell 2 rfl; have g0 := HZ1.out.free 0; have g1 := HZ1.out.free 1; have g2 := HZ1.out.free 2; clear hown1 hg1)
      have HZ2 := Lib.hid (show Blk (w1.setCell ⟨w.heap.size + 1, 2, none⟩ (.slice A3 ov.length c3)) w.heap.size 107 _ from blk_set HZ1.out (show w.heap.size ≠ w.heap.size + 1 by omega) _)
      have s0 := (HZ2.out.set 0 (.int .i64 N)).cell 0 rfl
      have s1 := ((HZ2.out.set 0 (.int .i64 N)).set 1 (.slice Av rs.length cv)).cell 1 rfl
      have s2 := (((HZ2.out.set 0 (.int .i64 N)).set 1 (.slice Av rs.length cv)).set 2 (.slice A3 ov.length c3)).cell 2 rfl
      refine bodyPost_ret (v := .agg #[.int .i64 N, .slice Av rs.length cv, .slice A3 ov.length c3]) (by simp [results, Tryz.results36, go_sem, s0, s1, s2]) rfl ⟨rs', Av, cv, A3, c3, by rw [HL2.out], ?_, ⟨?_, fun r hr => ?_, fun r hr => (HD.out r hr).2, ?_⟩, ?_, ?_⟩
      · have := HK.out
        rwa [List.take_length] at this
      · have h1 := own_ext HO.out HBw.out
        have h2 := ownsRow_setCell_below h1 (a := ⟨w.heap.size + 1, 2, none⟩) (by simp) (.slice A3 ov.length c3)
        have h3 := ownsRow_setCell_below h2 (a := ⟨w.heap.size, 0, none⟩) (by simp) (.int .i64 N)
        have h4 := ownsRow_setCell_below h3 (a := ⟨w.heap.size, 1, none⟩) (by simp) (.slice Av rs.length cv)
        exact Rd.of_own (ownsRow_setCell_below h4 (a := ⟨w.heap.size, 2, none⟩) (by simp) (.slice A3 ov.length c3))
      · have h1 := (HD.out r hr).1.ext HBw.out
        have h2 := rdk_set h1 (a := ⟨w.heap.size + 1, 2, none⟩) (fun c fz => by have := HOb1.out; unfold Blk at this; rw [this]; simp) (.slice A3 ov.length c3)
        have h3 := rdk_set h2 (a := ⟨w.heap.size, 0, none⟩) (fun c fz => by have := HZ2.out; unfold Blk at this; rw [this]; simp) (.int .i64 N)
        have h4 := rdk_set h3 (a := ⟨w.heap.size, 1, none⟩) (fun c fz => by have := HZ2.out.set 0 (.int .i64 N); unfold Blk at this; rw [this]; simp) (.slice Av rs.length cv)
        exact (rdk_set h4 (a := ⟨w.heap.size, 2, none⟩) (fun c fz => by have := (HZ2.out.set 0 (.int .i64 N)).set 1 (.slice Av rs.length cv); unfold Blk at this; rw [this]; simp) (.slice A3 ov.length c3)).rd
      · rw [HL2.out]
        exact Nat.le_trans hcv.1 hcv.2
      · have h1 := HO1.out
        rw [Nat.zero_add] at h1
        have h2 := ownsRow_setCell_below h1 (a := ⟨w.heap.size + 1, 2, none⟩) (by simp; omega) (.slice A3 ov.length c3)
        have h3 := ownsRow_setCell_below h2 (a := ⟨w.heap.size, 0, none⟩) (by simp; omega) (.int .i64 N)
        have h4 := ownsRow_setCell_below h3 (a := ⟨w.heap.size, 1, none⟩) (by simp; omega) (.slice Av rs.length cv)
        exact Rd.of_own (ownsRow_setCell_below h4 (a := ⟨w.heap.size, 2, none⟩) (by simp; omega) (.slice A3 ov.length c3))
      · have h1 := HB.out.trans (HBw.out.mono HB.out.size)
        exact (((h1.setCell (by simp) _).setCell (by simp) _).setCell (by simp) _).setCell (by simp) _
end Go.Proofs.YthokhiejlogpoaaGreatDoor.LawT
namespace Go.Proofs.YthokhiejlogpoaaGreatDoor.LawT
open Go.RowKit Mem Thy Nest Day Thm Solve Val

def oneR : Rw := ⟨1, 1, [], none, 0⟩
theorem one_right : Right 1 [oneR] [] := by
  refine ⟨?_, ?_, ?_, ⟨fun _ => 0, fun p hp => by cases hp⟩⟩
  · rintro (h | ⟨r, hr, h⟩)
    · unfold Bound0 at h; simp at h
    · simp at hr; subst hr; unfold BodyB oneR at h; simp at h
  · rintro ⟨r, hr, h⟩
    simp at hr; subst hr; unfold KindB oneR at h; simp at h
  · rintro (⟨r, hr, h⟩ | ⟨p, hp, _⟩)
    · simp at hr; subst hr
      rcases h with h | ⟨x, hx, _⟩
      · exact h ((litW_iff (by omega) (by omega)).2 (by simp [oneR]))
      · cases hx
    · cases hp
theorem one_plain {s h : St} (g : Thy.Good (thOf 1 [oneR] []) s h) (f : Thy.Fin (thOf 1 [oneR] []) s h) : h 1 = 1 ∧ h (-1) = 2 := by
  have hr : ∀ r ∈ (thOf 1 [oneR] []).rules, r = ⟨1, 1, []⟩ := fun r hr => by simpa [thOf, oneR, Rw.rl] using hr
  have l1 : (thOf 1 [oneR] []).Lit 1 := by simp [Th.Lit, thOf]
  have l2 : (thOf 1 [oneR] []).Lit (-1) := by simp [Th.Lit, thOf]
  have n : ∀ q, SureN (thOf 1 [oneR] []) s q := fun q r hr' hk => by rw [hr r hr'] at hk; simp at hk
  have s1 := g.fin f (a := true) (b := false) l1 (n 1)
  have s2 := g.fin f (a := true) (b := false) l2 (n (-1))
  refine ⟨g.fin f (a := false) (b := true) l1 (.inr ⟨s2, ⟨⟨1, 1, []⟩, by simp [thOf, oneR, Rw.rl], by simp, rfl, fun x hx => by cases hx⟩, ?_⟩), g.fin f (a := false) (b := false) l2 ⟨s2, .inr (.inl fun r hr' _ he => ?_)⟩⟩
  · rintro ⟨i, hi, he, _⟩
    have := hr _ (List.getElem_mem hi)
    rw [this] at he
    simp at he
  · rw [hr r hr'] at he
    simp at he
/-- the errors that the road reads -/
structure E4 (w : World) (aB aK aN aO : Addr) : Prop where
  e : ErrR w (errV aB) (errV aK) (errV aN) (errV aO)
theorem E4.ext {w w' : World} {aB aK aN aO : Addr} (h : E4 w aB aK aN aO) (hb : Below w.heap.size w w') : E4 w' aB aK aN aO := ⟨h.e.ext hb⟩
end Go.Proofs.YthokhiejlogpoaaGreatDoor.LawT
namespace Go.Proofs.YthokhiejlogpoaaGreatDoor.ReasonTotal
open Go.RowKit Mem Thy Nest Day Thm Solve Val LawT

theorem thOf_congr {n : Nat} {rs rs' : List Rw} {ov : List (Int × Int)} (h : rs'.map Rw.rl = rs.map Rw.rl) : thOf n rs' ov = thOf n rs ov := by unfold thOf; rw [h]
theorem place_half {q : Int} (_h : q ≠ 0) : place q / 2 = q.natAbs - 1 := by unfold place; split <;> omega
theorem right_rules {n : Nat} {rs rs' : List Rw} {ov : List (Int × Int)} (hr : Right n rs' ov) (h : rs'.map Rw.rl = rs.map Rw.rl) : ∀ r ∈ rs, (r.head ≠ 0 ∧ -(n : Int) ≤ r.head ∧ r.head ≤ n) ∧ ∀ x ∈ r.body, x ≠ 0 ∧ -(n : Int) ≤ x ∧ x ≤ n := fun r hm => by
  have hN := hr.names
  have h1 : r.rl ∈ rs'.map Rw.rl := by rw [h]; exact List.mem_map.2 ⟨r, hm, rfl⟩
  obtain ⟨r', hm', e⟩ := List.mem_map.1 h1
  have e1 : r'.head = r.head := congrArg Rl.head e
  have e2 : r'.body = r.body := congrArg Rl.body e
  refine ⟨?_, fun x hx => ?_⟩
  · rw [← e1]
    exact (litW_iff hN.1 hN.2).1 (Classical.byContradiction fun c => hr.n (.inl ⟨r', hm', .inl c⟩))
  · exact (litW_iff hN.1 hN.2).1 (Classical.byContradiction fun c => hr.n (.inl ⟨r', hm', .inr ⟨x, by rw [e2]; exact hx, c⟩⟩))
end Go.Proofs.YthokhiejlogpoaaGreatDoor.ReasonTotal

/- The law WhySound answers true: the walk of the law. -/
import Derived.Test.YtipbmpakdcmdoaaDoorWhySoundWalk
namespace Go.Proofs.YtipbmpakdcmdoaaDoor.WhySound
open Go.RowKit Mem Thy Nest Day Thm Sol Val Solve LawT ChkW App

set_option maxRecDepth 100000 in
set_option maxHeartbeats 1000000 in
theorem walk_nil (LA : Option Addr) (ln lc : Nat) (aB aK aN aO : Addr) (w : World) (hE : E4 w aB aK aN aO) : Calls Tryd.prog 9 #[.pointer none, .slice LA ln lc] w (BoolT w) := by
  have HL := Lib.hid (checks_any aB aK aN aO w hE)
  clear hE
  go_enter Tryd.func9, Tryd.ntmps9
  go_wp2_with fail
  refine HL.out.mono ?_
  rintro e w1 ⟨rfl, hb⟩
  have HB := Lib.hid hb
  clear hb
  go_wp2_with fail
  go_ret
  exact ⟨rfl, HB.out⟩
theorem says {n : Nat} {rs' rs2 : List Rw} {ov : List (Int × Int)} {S H : List Int} {l : List Sp} (hr : Right n rs2 ov) (h : rs'.map Rw.rl = rs2.map Rw.rl) (lS : S.length = 2 * n) (lH : H.length = 2 * n) (g : Thy.Good (thOf n rs2 ov) (stOf S) (stOf H)) (f : Thy.Fin (thOf n rs2 ov) (stOf S) (stOf H))
    (hc : Chk (thOf n rs' ov) l (fun _ => 0) (fun _ => 0)) (i : Nat) (hi : i < l.length) :
    (l[i].q ≠ 0 ∧ -(n : Int) ≤ l[i].q ∧ l[i].q ≤ n) ∧ ∃ (h1 : place l[i].q < S.length) (h2 : place l[i].q < H.length), (bif l[i].a then S[place l[i].q] else H[place l[i].q]) = val l[i].b := by
  rw [ReasonTotal.thOf_congr h] at hc
  obtain ⟨hl, hv⟩ := chk_sound g f (fun q hq => absurd rfl hq) (fun q hq => absurd rfl hq) hc l[i] (List.getElem_mem hi)
  obtain ⟨q0, q1, q2⟩ : l[i].q ≠ 0 ∧ -(n : Int) ≤ l[i].q ∧ l[i].q ≤ n := hl
  have hn := hr.names
  have hp := place_lt q0 q1 q2
  refine ⟨⟨q0, q1, q2⟩, by omega, by omega, ?_⟩
  have hp1 : place l[i].q < S.length := by omega
  have hp2 : place l[i].q < H.length := by omega
  revert hv
  cases l[i].a <;> simp [pick, stOf, q0, List.getD, hp1, hp2]
set_option maxRecDepth 100000 in
set_option maxHeartbeats 1600000 in
theorem walk_ptr (b o : Nat) (N : Int) (rs : List Rw) (RA : Option Addr) (rc : Nat) (ov : List (Int × Int)) (OA : Option Addr) (oc : Nat) (l : List Sp) (hl : l.length ≤ 1048576) (LA : Option Addr) (lc : Nat) (aB aK aN aO : Addr) (w : World) (h : ThA w b o N rs RA rc ov OA oc) (hE : E4 w aB aK aN aO) (hLr : Rd w LA (l.flatMap spCells)) :
    Calls Tryd.prog 9 #[.pointer (some ⟨b, o, none⟩), .slice LA l.length lc] w (BoolT w) := by
  have HL := Lib.hid (checks_any aB aK aN aO w hE)
  have HA := Lib.hid h
  have HE := Lib.hid hE
  have HLr := Lib.hid hLr
  clear h hE hLr
  go_enter Tryd.func9, Tryd.ntmps9
  go_wp2_with fail
  refine HL.out.mono ?_
  rintro e w1 ⟨rfl, hb1⟩
  have HB1 := Lib.hid hb1
  clear hb1
  by_cases hbig : 200 < l.length
  · have hbig2 : (200 : Int) < (l.length : Int) := by omega
    go_wp2_with fail
    go_ret
    exact ⟨rfl, HB1.out⟩
  have hbig2 : ¬ (200 : Int) < (l.length : Int) := by omega
  go_wp2_with fail
  refine (few_any b o N rs RA rc ov OA oc _ (HA.out.ext HB1.out)).mono ?_
  rintro e w' ⟨⟨bf, rfl⟩, rfl⟩
  cases bf
  · go_wp2_with fail
    go_ret
    exact ⟨rfl, HB1.out⟩
  · go_wp2_with fail
    refine (theory_any b o N rs RA rc ov OA oc _ (HA.out.ext HB1.out)).mono ?_
    rintro e w2 ⟨rs', RA', rc', OA', oc', rfl, hrl, hR, hO, hb2⟩
    have HRl := Lib.hid hrl
    have HB2 := Lib.hid (ext_trans HB1.out hb2)
    have HR := Lib.hid hR
    have HO := Lib.hid hO
    have hl3 := HA.out.l3
    clear hrl hR hO hb2
    go_wp2_with fail
    refine (steps_any l hl LA lc w2 (HLr.out.ext HB2.out)).mono ?_
    rintro e w3 ⟨LA2, lc2, rfl, hL2, hb3⟩
    have HB3 := Lib.hid (ext_trans HB2.out hb3)
    have HCk := Lib.hid (check_any N rs' RA' rc' ov (by omega) OA' oc' l (by omega) LA2 lc2 aB aK aN aO w3 (HR.out.ext hb3) (HO.out.ext hb3) (HE.out.ext HB3.out).e hL2)
    clear hL2 hb3
    go_wp2_with fail
    refine HCk.out.mono ?_
    rintro e w4 ⟨bc, ev, rfl, hb4, hc⟩
    have HB4 := Lib.hid (ext_trans HB3.out hb4)
    have HC := Lib.hid hc
    clear hb4 hc
    go_wp2_with fail
    refine (theory_any b o N rs RA rc ov OA oc _ (HA.out.ext HB4.out)).mono ?_
    rintro e w5 ⟨rs2, RA2, rc2, OA2, oc2, rfl, hrl2, hR2, hO2, hb5⟩
    have HRl2 := Lib.hid hrl2
    have HB5 := Lib.hid (ext_trans HB4.out hb5)
    have HSo := Lib.hid (solve_any N rs2 RA2 rc2 ov (by omega) OA2 oc2 aB aK aN aO w5 hR2 hO2 (HE.out.ext HB5.out).e)
    clear hrl2 hR2 hO2 hb5
    go_wp2_with fail
    refine HSo.out.mono ?_
    rintro e w6 ⟨kv, ev2, rfl, hb6, hs⟩
    have HB6 := Lib.hid (ext_trans HB5.out hb6)
    clear hb6
    rcases HC.out with ⟨_, _, ⟨a, rfl⟩, rfl⟩ | ⟨_, rfl, n0, hn0, hck⟩
    · rcases hs with ⟨_, _, ⟨a2, rfl⟩, rfl⟩ | ⟨hr, rfl, n, sb, hb, S, H, hn, rfl, hS, hH, lS, lH, hg, hf⟩
      · unfold errV
        go_wp2_with fail
        go_ret
        exact ⟨rfl, ext_trans HB6.out (ext_alloc _ _)⟩
      · unfold errV
        clear hr hS hH lS lH hg hf
        go_wp2_with fail
        go_ret
        exact ⟨rfl, ext_trans HB6.out (ext_alloc _ _)⟩
    · rcases hs with ⟨_, _, ⟨a2, rfl⟩, rfl⟩ | ⟨hr, rfl, n, sb, hb, S, H, hn, rfl, hS, hH, lS, lH, hg, hf⟩
      · unfold errV
        clear hck
        go_wp2_with fail
        go_ret
        exact ⟨rfl, ext_trans HB6.out (ext_alloc _ _)⟩
      · cases bc
        · clear hr hS hH lS lH hg hf hck
          go_wp2_with fail
          go_ret
          exact ⟨rfl, ext_trans HB6.out (ext_alloc _ _)⟩
        · subst hn
          obtain rfl : n0 = n := by omega
          have hn2 := hr.names
          have hn3 : n0 ≤ 120 := by omega
          have HSy := Lib.hid (says hr (HRl.out.trans HRl2.out.symm) lS lH hg hf (hck.1 rfl))
          have HS := Lib.hid hS
          have HH := Lib.hid hH
          clear hr hS hH lS lH hg hf hck hn2 hn0
          go_wp2_with fail
          generalize hW : w6.alloc (.cells #[.slice (some ⟨sb, 0, none⟩) (2 * n0) (2 * n0), .slice (some ⟨hb, 0, none⟩) (2 * n0) (2 * n0)] 60) = W
          have HAW := Lib.hid (show ThA W b o n0 rs RA rc ov OA oc from hW ▸ HA.out.ext (ext_trans HB6.out (ext_alloc w6 _)))
          have HBW := Lib.hid (show Below w.heap.size w W from hW ▸ ext_trans HB6.out (ext_alloc w6 _))
          have HLW := Lib.hid (HLr.out.ext HBW.out)
          have HSW := Lib.hid (show Blk W sb 3 (ints S) from hW ▸ Sol.blk_ext HS.out (ext_alloc w6 _))
          have HHW := Lib.hid (show Blk W hb 3 (ints H) from hW ▸ Sol.blk_ext HH.out (ext_alloc w6 _))
          have HKW := Lib.hid (show Blk W w6.heap.size 60 [.slice (some ⟨sb, 0, none⟩) (2 * n0) (2 * n0), .slice (some ⟨hb, 0, none⟩) (2 * n0) (2 * n0)] from hW ▸ Blk.new w6 _ [_, _])
          have k0 := HKW.out.cell 0 rfl
          have k1 := HKW.out.cell 1 rfl
          clear hW
          go_loop [11, 12, 13, 14] (fun t11 _ _ _ => ∃ i : Nat, t11 = .int .i64 i ∧ i ≤ l.length) (fun t11 _ _ _ => l.length - (intOf t11).toNat)
          case atStart => exact ⟨0, rfl, Nat.zero_le _⟩
          case round =>
            obtain ⟨i, rfl, hi⟩ := hrel
            by_cases hlt : i < l.length
            · obtain ⟨b', o', rfl, r0, r1, r2⟩ := step_at HLW.out hlt
              obtain ⟨⟨q0, q1, q2⟩, h1, h2, hv⟩ := HSy.out i hlt
              generalize l[i] = x at *
              obtain ⟨xa, xb, xq⟩ := x
              simp only at r0 r1 r2 q0 q1 q2 h1 h2 hv
              have HI := Lib.hid (islit_yes b o n0 xq W HAW.out.c0 hn3 q0 q1 q2)
              obtain ⟨px, hpx⟩ : ∃ px, px = place xq := ⟨_, rfl⟩
              have hpxb : px < 2 * n0 := by have := place_lt q0 q1 q2; omega
              have HPx := Lib.hid (fun w => hpx ▸ ReasonTotal.place4_any xq q0 (by omega) (by omega) w)
              simp only [← hpx] at h1 h2 hv
              have s1 := Sol.ints_at HSW.out h1
              have s2 := Sol.ints_at HHW.out h2
              generalize S[px] = vs at *
              generalize H[px] = vh at *
              have hltI : (i : Int) < (l.length : Int) := by omega
              clear hpx h1 h2 q0
              go_wp2_with fail
              refine HI.out.mono ?_
              rintro e w' ⟨rfl, rfl⟩
              go_wp2_with fail
              refine (HPx.out _).mono ?_
              rintro e w' ⟨rfl, rfl⟩
              cases xa <;> cases xb <;> simp only [val, cond_true, cond_false] at hv <;> subst hv <;> (go_wp2_with fail; go_round; (case rel => exact ⟨i + 1, by go_num, by omega⟩); (case measure => simp [intOf]; omega))
            · obtain rfl : l.length = i := by omega
              go_wp2_with fail
              go_ret
              exact ⟨rfl, HBW.out⟩
end Go.Proofs.YtipbmpakdcmdoaaDoor.WhySound

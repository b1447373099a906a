/- The document's rings: the walk. The document's ValidTheory: the walk. -/
import Derived.Test.YthokhiejlogpoaaGreatDoorThy
import Derived.Test.YthokhiejlogpoaaGreatDoorSh2
import Derived.StillTailTactics
namespace Go.Proofs.YthokhiejlogpoaaGreatDoor.Rng
open Go.RowKit Mem Thy Nest Day Thm Sol Ring

theorem bool_info : (Tryz.prog.info? 4).map (fun i => (i.zero, i.size, i.bytes)) = some (some (.bool false), 1, 1) := by kernel_rfl
def bools (G : List Bool) : List Value := G.map Value.bool
theorem make_bools (n : Nat) (hn : n ≤ 1000000) (w : World) : (Instr.makeSlice 55 (.int .i64 (n : Int)) (.int .i64 (n : Int))).run Tryz.prog w = .ok (.slice (some ⟨w.heap.size, 0, none⟩) n n) (w.alloc (.cells (bools (List.replicate n false)).toArray 4)) := by
  obtain ⟨i0, hi, hz0, hz1, hz2⟩ := info_parts bool_info
  have h := run_makeSlice (P := Tryz.prog) w 55 4 i0 _ Tryz.underlying55 hi hz0 .i64 .i64 n n (by omega) (by omega) (by rw [hz1]; simp; omega) (by rw [hz2]; omega) (by omega)
  rw [hz1] at h
  simp only [Int.toNat_natCast, Nat.mul_one] at h
  have e : madeCells (Value.bool false).cells n = (bools (List.replicate n false)).toArray := by
    apply Array.ext
    · simp [madeCells, bools]
    · intro j h1 h2
      simp [madeCells, bools, Value.cells, Nat.mod_one]
  rw [e] at h
  exact h
theorem gon_at {w : World} {B : Nat} {G : List Bool} (h : Blk w B 4 (bools G)) {j : Nat} (hj : j < G.length) : w.cell? ⟨B, j, none⟩ = some (.bool (gon G j)) :=
  h.cell j (by simp [bools, hj, gon, List.getD])
theorem bools_set (G : List Bool) (i : Nat) : (bools G).set i (.bool true) = bools (G.set i true) := by simp [bools, List.map_set]
set_option maxRecDepth 100000 in
set_option maxHeartbeats 2000000 in
theorem ringof_any (n : Nat) (hn : n ≤ 120) (ov : List (Int × Int)) (hov : ov.length ≤ 1200) (hr : InR ov n) (OA : Option Addr) (oc : Nat) (w : World) (hO : Rd w OA (ov.flatMap prCells)) :
    Calls Tryz.prog 121 #[.int .i64 n, .slice OA ov.length oc] w (BoolOf w (¬ Ranked ov)) := by
  have HO := Lib.hid hO
  have HR := Lib.hid hr
  have hmk := make_bools n (by omega)
  have HX := Lib.hid (ext_alloc w (.cells (bools (List.replicate n false)).toArray 4))
  have HB0 := Lib.hid (Blk.new w 4 (bools (List.replicate n false)))
  have HL0 := Lib.hid (lft_all n)
  clear hO hr
  go_enter Tryz.func121, Tryz.ntmps121
  go_wp2_with fail
  go_loopw [6] (fun t6 wr => ∃ G : List Bool, t6 = .int .i64 (lft G : Nat) ∧ Hid (RI ov n G) ∧ Hid (Below w.heap.size w wr) ∧ Hid (Blk wr w.heap.size 4 (bools G))) (fun t6 _ => (intOf t6).toNat)
  case atStart => exact ⟨List.replicate n false, by rw [HL0.out], RI.start ov n, HX.out, HB0.out⟩
  case round =>
    clear HX HB0 HL0
    obtain ⟨G0, rfl, HI0, HB, HG0⟩ := hrel
    obtain ⟨l0, hl0⟩ : ∃ l0, l0 = lft G0 := ⟨_, rfl⟩
    have HLf := Lib.hid hl0
    rw [← hl0]
    clear hl0
    by_cases hpos : 0 < l0
    · have hposI : (0 : Int) < (l0 : Int) := by omega
      have HLen0 := Lib.hid HI0.out.len
      have hlb : l0 ≤ n := by rw [HLf.out, ← HI0.out.len]; exact List.countP_le_length
      go_wp2_with fail
      go_loopw [6, 7, 8] (fun t6 t7 t8 wq => ∃ (G : List Bool) (sm : Bool) (i : Nat), t6 = .int .i64 (lft G : Nat) ∧ t7 = .bool sm ∧ t8 = .int .i64 i ∧ i ≤ n ∧ Hid (Rd1 ov n G0 G sm i) ∧ Hid (Below w.heap.size w wq) ∧ Hid (Blk wq w.heap.size 4 (bools G))) (fun _ _ t8 _ => n - (intOf t8).toNat)
      case atStart => exact ⟨G0, false, 0, by rw [HLf.out], rfl, rfl, by omega, Rd1.start HI0.out, HB.out, HG0.out⟩
      case round =>
        clear HB HG0
        obtain ⟨G, sm, i, rfl, rfl, rfl, hi, H1, HB, HG⟩ := hrel
        have hGl := H1.out.ri.len
        obtain ⟨l1, hl1⟩ : ∃ l1, l1 = lft G := ⟨_, rfl⟩
        have HL1 := Lib.hid hl1
        have hl1n : l1 ≤ n := by rw [hl1, ← hGl]; exact List.countP_le_length
        rw [← hl1]
        clear hl1
        by_cases hlt : i < n
        · have g0 := gon_at HG.out (j := i) (by omega)
          obtain ⟨g, hg⟩ : ∃ g, g = gon G i := ⟨_, rfl⟩
          rw [← hg] at g0
          have HGi := Lib.hid hg
          clear hg
          cases g
          · go_wp2_with fail
            go_loop [9, 10] (fun t9 t10 => ∃ (ab : Bool) (k : Nat), t9 = .bool ab ∧ t10 = .int .i64 k ∧ k ≤ ov.length ∧ Hid (ab = true ↔ Abv ov G i k)) (fun _ t10 => ov.length - (intOf t10).toNat)
            case atStart => exact ⟨false, 0, rfl, rfl, Nat.zero_le _, by show false = true ↔ _; exact iff_of_false (by simp) (Abv.zero ov G i)⟩
            case round =>
              obtain ⟨ab, k, rfl, rfl, hk, HA⟩ := hrel
              by_cases hkl : k < ov.length
              · obtain ⟨b, o, rfl, r0, r1⟩ := pair_at (HO.out.ext HB.out) hkl
                have hin := HR.out _ (List.getElem_mem hkl)
                have HS := Lib.hid (Abv.succ (G := G) (i := i) hkl)
                generalize ov[k] = pr at *
                obtain ⟨pa, pb⟩ := pr
                simp only at r0 r1 hin HS
                obtain ⟨_, _, hb0, hb1⟩ := hin
                obtain ⟨pn, rfl⟩ : ∃ pn : Nat, pb = pn := ⟨pb.toNat, by omega⟩
                rw [Int.toNat_natCast] at HS
                have hpn : pn < n := by omega
                have g1 := gon_at HG.out (j := pn) (by omega)
                cases ab
                · by_cases c1 : pa = i
                  · have C1 := Lib.hid c1
                    have c1' : (pa == (i : Int)) = true := by simp [c1]
                    clear c1
                    obtain ⟨gb, hgb⟩ : ∃ gb, gb = gon G pn := ⟨_, rfl⟩
                    rw [← hgb] at g1
                    have HGb := Lib.hid hgb
                    clear hgb
                    cases gb
                    · go_wp2_with fail
                      go_round
                      case rel => exact ⟨true, k + 1, rfl, by go_num, by omega, by show true = true ↔ _; exact iff_of_true rfl (HS.out.2 (.inr ⟨C1.out, HGb.out.symm⟩))⟩
                      case measure => simp [intOf]; omega
                    · go_wp2_with fail
                      go_round
                      case rel =>
                        refine ⟨false, k + 1, rfl, by go_num, by omega, ?_⟩
                        show false = true ↔ _
                        refine iff_of_false (by simp) fun h => ?_
                        rcases HS.out.1 h with h | h
                        · simpa using HA.out.2 h
                        · rw [← HGb.out] at h; simp at h
                      case measure => simp [intOf]; omega
                  · have C1 := Lib.hid c1
                    have c1' : (pa == (i : Int)) = false := by simp [c1]
                    clear c1
                    go_wp2_with fail
                    go_round
                    case rel =>
                      refine ⟨false, k + 1, rfl, by go_num, by omega, ?_⟩
                      show false = true ↔ _
                      refine iff_of_false (by simp) fun h => ?_
                      rcases HS.out.1 h with h | h
                      · simpa using HA.out.2 h
                      · exact C1.out h.1
                    case measure => simp [intOf]; omega
                · go_wp2_with fail
                  go_round
                  case rel => exact ⟨true, k + 1, rfl, by go_num, by omega, by show true = true ↔ _; exact iff_of_true rfl (HS.out.2 (.inl (HA.out.1 (by simp))))⟩
                  case measure => simp [intOf]; omega
              · obtain rfl : ov.length = k := by omega
                have HAll := Lib.hid (HA.out.trans (Abv.all HR.out))
                cases ab
                · have HNo := Lib.hid (show ¬ ∃ b, E ov i b ∧ gon G b = false from fun h => by simpa using HAll.out.2 h)
                  have HT := Lib.hid (H1.out.take hlt HGi.out.symm HNo.out)
                  have HLs := Lib.hid (lft_set (by omega) HGi.out.symm)
                  have f0 := HG.out.free i
                  have hl1p : 0 < l1 := by have := HLs.out; rw [← HL1.out] at this; omega
                  go_wp2_with fail
                  go_roundw
                  case rel =>
                    refine ⟨G.set i true, true, i + 1, ?_, rfl, by go_num, by omega, HT.out, HB.out.setCell (by simp) _, ?_⟩
                    · have := HLs.out
                      rw [← HL1.out] at this
                      rw [show ((lft (G.set i true) : Nat) : Int) = (l1 : Int) - 1 by omega]
                    · show Blk _ _ _ _
                      rw [← bools_set]
                      exact HG.out.set i (.bool true)
                  case measure => simp [intOf]; omega
                · go_wp2_with fail
                  go_roundw
                  case rel => exact ⟨G, sm, i + 1, by rw [HL1.out], rfl, by go_num, by omega, H1.out.keep (.inr (HAll.out.1 (by simp))), HB.out, HG.out⟩
                  case measure => simp [intOf]; omega
          · go_wp2_with fail
            go_roundw
            case rel => exact ⟨G, sm, i + 1, by rw [HL1.out], rfl, by go_num, by omega, H1.out.keep (.inl HGi.out.symm), HB.out, HG.out⟩
            case measure => simp [intOf]; omega
        · obtain rfl : n = i := by omega
          cases sm
          · go_wp2_with fail
            go_ret
            refine ⟨_, rfl, ?_, HB.out⟩
            obtain ⟨e1, e2⟩ := H1.out.e rfl
            subst e1
            exact iff_of_true rfl (stuck H1.out.ri.len (by rw [← HL1.out]; have := HLf.out; rw [← HL1.out] at this; omega) HR.out e2)
          · go_wp2_with fail
            go_roundw
            case rel => exact ⟨G, by rw [HL1.out], H1.out.ri, HB.out, HG.out⟩
            case measure =>
              have := H1.out.z rfl
              rw [← HL1.out, ← HLf.out] at this
              simp [intOf]; omega
    · obtain rfl : l0 = 0 := by omega
      go_wp2_with fail
      go_ret
      refine ⟨_, rfl, ?_, HB.out⟩
      have h := HI0.out.ranked HLf.out.symm HR.out
      exact iff_of_false (by simp) fun c => c h
end Go.Proofs.YthokhiejlogpoaaGreatDoor.Rng
namespace Go.Proofs.YthokhiejlogpoaaGreatDoor.Rng
open Go.RowKit Mem Thy Nest Day Thm Sol Val Solve LawT Sh

/-- the number of what is wrong with a theory -/
def VCode (N : Int) (rs : List Rw) (ov : List (Int × Int)) (c : Int) : Prop :=
  (Bd N rs ov ∧ c = 2) ∨ (¬ Bd N rs ov ∧ Kd rs ∧ c = 9) ∨ (¬ Bd N rs ov ∧ ¬ Kd rs ∧ Nm N rs ov ∧ c = 7) ∨ (¬ Bd N rs ov ∧ ¬ Kd rs ∧ ¬ Nm N rs ov ∧ ¬ Ranked ov ∧ c = 8) ∨ (¬ Bd N rs ov ∧ ¬ Kd rs ∧ ¬ Nm N rs ov ∧ Ranked ov ∧ c = 0)
def VthPost (N : Int) (rs : List Rw) (ov : List (Int × Int)) (w : World) (e : Ending) (w' : World) : Prop := ∃ c : Int, e = .returned (.int .i64 c) ∧ VCode N rs ov c ∧ Below w.heap.size w w'
set_option maxRecDepth 100000 in
set_option maxHeartbeats 4000000 in
theorem vth_any (b o : Nat) (N : Int) (rs : List Rw) (RA : Option Addr) (rc : Nat) (ov : List (Int × Int)) (OA : Option Addr) (oc : Nat) (w : World) (h : ThA w b o N rs RA rc ov OA oc) :
    Calls Tryz.prog 86 #[.pointer (some ⟨b, o, none⟩)] w (VthPost N rs ov w) := by
  have HA := Lib.hid h
  have c0 := h.c0
  have c1 := h.c1
  have c2 := h.c2
  have l1 := h.l1
  have l3 := h.l3
  clear h
  by_cases h1 : N < 0
  · have HB := Lib.hid (show Bd N rs ov from .inl (.inl (.inl (.inl h1))))
    go_enter Tryz.func86, Tryz.ntmps86
    go_wp2_with fail
    go_ret
    exact ⟨2, rfl, .inl ⟨HB.out, rfl⟩, Below.refl _ _⟩
  have h1' : decide (N < 0) = false := by simp; omega
  by_cases h2 : 120 < N
  · have HB := Lib.hid (show Bd N rs ov from .inl (.inl (.inl (.inr h2))))
    have h2' : decide (120 < N) = true := by simp; omega
    go_enter Tryz.func86, Tryz.ntmps86
    go_wp2_with fail
    go_ret
    exact ⟨2, rfl, .inl ⟨HB.out, rfl⟩, Below.refl _ _⟩
  have h2' : decide (120 < N) = false := by simp; omega
  by_cases h3 : 120 < rs.length
  · have HB := Lib.hid (show Bd N rs ov from .inl (.inl (.inr h3)))
    have h3' : decide (120 < (rs.length : Int)) = true := by simp; omega
    go_enter Tryz.func86, Tryz.ntmps86
    go_wp2_with fail
    go_ret
    exact ⟨2, rfl, .inl ⟨HB.out, rfl⟩, Below.refl _ _⟩
  have h3' : decide (120 < (rs.length : Int)) = false := by simp; omega
  by_cases h4 : 1200 < ov.length
  · have HB := Lib.hid (show Bd N rs ov from .inl (.inr h4))
    have h4' : decide (1200 < (ov.length : Int)) = true := by simp; omega
    go_enter Tryz.func86, Tryz.ntmps86
    go_wp2_with fail
    go_ret
    exact ⟨2, rfl, .inl ⟨HB.out, rfl⟩, Below.refl _ _⟩
  have h4' : decide (1200 < (ov.length : Int)) = false := by simp; omega
  have HBd := Lib.hid (show ¬ Bound0 N rs ov by unfold Bound0; omega)
  obtain ⟨n, rfl⟩ : ∃ n : Nat, N = n := ⟨N.toNat, by omega⟩
  have hn : n ≤ 120 := by omega
  have HLi := Lib.hid (show ∀ q, LitW n q ↔ (q ≠ 0 ∧ -(n : Int) ≤ q ∧ q ≤ n) from fun q => litW_iff (by omega) (by omega))
  go_enter Tryz.func86, Tryz.ntmps86
  go_wp2_with fail
  clear c0 c1 c2
  go_loopw [3, 4, 5] (fun t3 t4 t5 wr => ∃ (kk mm : Bool) (j : Nat), t3 = .bool kk ∧ t4 = .bool mm ∧ t5 = .int .i64 j ∧ j ≤ rs.length ∧ Hid (kk = true ↔ Ex KindB rs j) ∧ Hid (mm = true ↔ Ex (NameB n) rs j) ∧ Hid (¬ Ex BodyB rs j) ∧ Hid (Below w.heap.size w wr)) (fun _ _ t5 _ => rs.length - (intOf t5).toNat)
  case atStart => exact ⟨false, false, 0, rfl, rfl, rfl, Nat.zero_le _, by show false = true ↔ Ex KindB rs 0; rw [Ex.zero]; simp, by show false = true ↔ Ex (NameB n) rs 0; rw [Ex.zero]; simp, by show ¬ _; rw [Ex.zero]; simp, Below.refl _ _⟩
  case round =>
    obtain ⟨kk, mm, j, rfl, rfl, rfl, hj, HK, HM, HBo, HB⟩ := hrel
    have hA := HA.out.ext HB.out
    have x1 := hA.c1
    by_cases hlt : j < rs.length
    · obtain ⟨b', o', hRA, r0, r1, r2⟩ := hA.rules.row hlt
      have HRd := Lib.hid (hA.rules.bods _ (List.getElem_mem hlt))
      have hx := ext_alloc wr (.cells #[.int .i64 rs[j].kind, .int .i64 rs[j].head, .slice rs[j].A rs[j].body.length rs[j].c] 172)
      have HX := Lib.hid (ext_trans HB.out hx)
      have HK1 := Lib.hid (Ex.succ (P := KindB) hlt)
      have HM1 := Lib.hid (Ex.succ (P := NameB n) hlt)
      have HB1 := Lib.hid (Ex.succ (P := BodyB) hlt)
      have hbl := HA.out.l2 _ (List.getElem_mem hlt)
      have HIn := Lib.hid (List.getElem_mem hlt)
      have HRx := Lib.hid ((hA.rules.bods _ (List.getElem_mem hlt)).ext hx)
      have y0 := (hA.ext hx).c0
      rw [hRA] at x1
      clear hA hRA hx
      generalize rs[j] = r at *
      obtain ⟨rk, rh, rb, rA, rcc⟩ := r
      simp only at r0 r1 r2 hbl HX HRx y0
      by_cases hb : 120 < rb.length
      · have HBB := Lib.hid (show Bd n rs ov from .inr ⟨_, HIn.out, hb⟩)
        have hb' : decide (120 < (rb.length : Int)) = true := by simp; omega
        go_wp2_with fail
        go_ret
        exact ⟨2, rfl, .inl ⟨HBB.out, rfl⟩, HX.out⟩
      · have HNb := Lib.hid (show ¬ Ex BodyB rs (j + 1) from fun h => (HB1.out.1 h).elim HBo.out hb)
        have hb' : decide (120 < (rb.length : Int)) = false := by simp; omega
        clear hb
        go_upto_region 11 with fail
        go_cut [3] (fun s3 wx => wr.alloc (.cells #[.int .i64 rk, .int .i64 rh, .slice rA rb.length rcc] 172) = wx ∧ ∃ b' : Bool, s3 = .bool b' ∧ Hid (b' = true ↔ Ex KindB rs (j + 1)))
        case first =>
          cases kk
          · by_cases k0 : rk = 0
            · subst k0
              go_wp2_with fail
              go_meet
              exact ⟨rfl, _, rfl, iff_of_false (by simp) fun h => (HK1.out.1 h).elim (fun h => by simpa using HK.out.2 h) fun h => by unfold KindB at h; simp at h⟩
            · have k0' : (rk != 0) = true := by simp [k0]
              by_cases k1 : rk = 1
              · subst k1
                go_wp2_with fail
                go_meet
                exact ⟨rfl, _, rfl, iff_of_false (by simp) fun h => (HK1.out.1 h).elim (fun h => by simpa using HK.out.2 h) fun h => by unfold KindB at h; simp at h⟩
              · have k1' : (rk != 1) = true := by simp [k1]
                by_cases k2 : rk = 2
                · subst k2
                  go_wp2_with fail
                  go_meet
                  exact ⟨rfl, _, rfl, iff_of_false (by simp) fun h => (HK1.out.1 h).elim (fun h => by simpa using HK.out.2 h) fun h => by unfold KindB at h; simp at h⟩
                · have k2' : (rk != 2) = true := by simp [k2]
                  have HKB := Lib.hid (show KindB ⟨rk, rh, rb, rA, rcc⟩ by unfold KindB; simp only; omega)
                  clear k0 k1 k2
                  go_wp2_with fail
                  go_meet
                  exact ⟨rfl, _, rfl, iff_of_true rfl (HK1.out.2 (.inr HKB.out))⟩
          · go_wp2_with fail
            go_meet
            exact ⟨rfl, _, rfl, iff_of_true rfl (HK1.out.2 (.inl (HK.out.1 (by simp))))⟩
        case rest =>
          obtain ⟨rfl, kk', rfl, HK2⟩ := hcut
          clear HK HK1
          go_wp2_with fail
          refine (islit_any b o n rh _ y0 hn).mono ?_
          rintro e w' ⟨bl, rfl, hb1, rfl⟩
          have HLh := Lib.hid (hb1.trans (HLi.out rh).symm)
          clear hb1
          go_wp2_with fail
          go_loop [7, 8] (fun t7 t8 => ∃ (ok : Bool) (k : Nat), t7 = .bool ok ∧ t8 = .int .i64 k ∧ k ≤ rb.length ∧ Hid (ok = true ↔ LitW n rh ∧ ∀ x ∈ rb.take k, LitW n x)) (fun _ t8 => rb.length - (intOf t8).toNat)
          case atStart => exact ⟨bl, 0, rfl, rfl, Nat.zero_le _, by show _ ↔ _; rw [HLh.out]; simp⟩
          case round =>
            obtain ⟨ok, k, rfl, rfl, hk, HO⟩ := hrel
            by_cases hkl : k < rb.length
            · obtain ⟨b2, o2, rfl, q0⟩ := HRx.out.int hkl
              have HS := Lib.hid (show (∀ x ∈ rb.take (k + 1), LitW n x) ↔ (∀ x ∈ rb.take k, LitW n x) ∧ LitW n rb[k] by
                rw [List.take_succ_eq_append_getElem hkl]
                simp only [List.mem_append, List.mem_singleton, or_imp, forall_and, forall_eq])
              generalize rb[k] = z at *
              go_wp2_with fail
              refine (islit_any b o n z _ y0 hn).mono ?_
              rintro e w' ⟨bl2, rfl, hb1, rfl⟩
              have HLz := Lib.hid (hb1.trans (HLi.out z).symm)
              clear hb1
              cases ok
              · go_wp2_with fail
                go_round
                case rel => exact ⟨false, k + 1, rfl, by go_num, by omega, iff_of_false (by simp) fun h => by simpa using HO.out.2 ⟨h.1, (HS.out.1 h.2).1⟩⟩
                case measure => simp [intOf]; omega
              · go_wp2_with fail
                go_round
                case rel => exact ⟨bl2, k + 1, rfl, by go_num, by omega, by show _ ↔ _; rw [HLz.out, HS.out]; exact ⟨fun h => ⟨(HO.out.1 (by simp)).1, (HO.out.1 (by simp)).2, h⟩, fun h => h.2.2⟩⟩
                case measure => simp [intOf]; omega
            · obtain rfl : rb.length = k := by omega
              have HNm := Lib.hid (show NameB n ⟨rk, rh, rb, rA, rcc⟩ ↔ ¬ ok = true by
                rw [HO.out, List.take_length]
                unfold NameB
                simp only
                constructor
                · rintro (h | ⟨x, hx, h⟩) ⟨c, d⟩
                  · exact h c
                  · exact h (d x hx)
                · intro h
                  by_cases c : LitW n rh
                  · exact .inr (Classical.byContradiction fun hh => h ⟨c, fun x hx => Classical.byContradiction fun d => hh ⟨x, hx, d⟩⟩)
                  · exact .inl c)
              cases mm
              · cases ok
                · go_wp2_with fail
                  go_roundw
                  case rel => exact ⟨kk', true, j + 1, rfl, rfl, by go_num, by omega, HK2.out, iff_of_true rfl (HM1.out.2 (.inr (HNm.out.2 (by simp)))), HNb.out, HX.out⟩
                  case measure => simp [intOf]; omega
                · go_wp2_with fail
                  go_roundw
                  case rel => exact ⟨kk', false, j + 1, rfl, rfl, by go_num, by omega, HK2.out, iff_of_false (by simp) fun h => (HM1.out.1 h).elim (fun h => by simpa using HM.out.2 h) fun h => HNm.out.1 h rfl, HNb.out, HX.out⟩
                  case measure => simp [intOf]; omega
              · go_wp2_with fail
                go_roundw
                case rel => exact ⟨kk', true, j + 1, rfl, rfl, by go_num, by omega, HK2.out, iff_of_true rfl (HM1.out.2 (.inl (HM.out.1 (by simp)))), HNb.out, HX.out⟩
                case measure => simp [intOf]; omega
    · obtain rfl : rs.length = j := by omega
      have HNB := Lib.hid (show ¬ Bd n rs ov from fun h => h.elim HBd.out fun h => HBo.out (Ex.all.2 h))
      have HKa := Lib.hid (show kk = true ↔ Kd rs from HK.out.trans Ex.all)
      have HMa := Lib.hid (HM.out.trans Ex.all)
      have x2 := hA.c2
      have HAr := Lib.hid hA
      clear hA HK HM HBo
      go_wp2_with fail
      go_loop [4, 10] (fun t4 t10 => ∃ (mm : Bool) (k : Nat), t4 = .bool mm ∧ t10 = .int .i64 k ∧ k ≤ ov.length ∧ Hid (mm = true ↔ (∃ r ∈ rs, NameB n r) ∨ Ex (OvB rs.length) ov k)) (fun _ t10 => ov.length - (intOf t10).toNat)
      case atStart => exact ⟨mm, 0, rfl, rfl, Nat.zero_le _, by show _ ↔ _; rw [HMa.out, Ex.zero, or_false]⟩
      case round =>
        clear HMa
        obtain ⟨mm, k, rfl, rfl, hk, HM⟩ := hrel
        by_cases hkl : k < ov.length
        · obtain ⟨b2, o2, hOA, r0, r1⟩ := pair_at HAr.out.over hkl
          rw [hOA] at x2
          clear hOA
          have HS := Lib.hid (show (∃ r ∈ rs, NameB n r) ∨ Ex (OvB rs.length) ov (k + 1) ↔ ((∃ r ∈ rs, NameB n r) ∨ Ex (OvB rs.length) ov k) ∨ OvB rs.length ov[k] by rw [Ex.succ hkl, or_assoc])
          generalize ov[k] = pr at *
          obtain ⟨pa, pb⟩ := pr
          simp only at r0 r1
          cases mm
          · have HN0 := Lib.hid (show ¬ ((∃ r ∈ rs, NameB n r) ∨ Ex (OvB rs.length) ov k) from fun h => by simpa using HM.out.2 h)
            clear HM
            by_cases d1 : pa < 0
            · have HOv := Lib.hid (show OvB rs.length (pa, pb) from .inl (.inl d1))
              have d1' : decide (pa < 0) = true := by simp [d1]
              go_wp2_with fail
              go_round
              case rel => exact ⟨true, k + 1, rfl, by go_num, by omega, iff_of_true rfl (HS.out.2 (.inr HOv.out))⟩
              case measure => simp [intOf]; omega
            · have d1' : decide (pa < 0) = false := by simp; omega
              by_cases d2 : pb < 0
              · have HOv := Lib.hid (show OvB rs.length (pa, pb) from .inr (.inl d2))
                have d2' : decide (pb < 0) = true := by simp [d2]
                go_wp2_with fail
                go_round
                case rel => exact ⟨true, k + 1, rfl, by go_num, by omega, iff_of_true rfl (HS.out.2 (.inr HOv.out))⟩
                case measure => simp [intOf]; omega
              · have d2' : decide (pb < 0) = false := by simp; omega
                by_cases d3 : (rs.length : Int) ≤ pa
                · have HOv := Lib.hid (show OvB rs.length (pa, pb) from .inl (.inr d3))
                  have d3' : decide ((rs.length : Int) ≤ pa) = true := by simp [d3]
                  go_wp2_with fail
                  go_round
                  case rel => exact ⟨true, k + 1, rfl, by go_num, by omega, iff_of_true rfl (HS.out.2 (.inr HOv.out))⟩
                  case measure => simp [intOf]; omega
                · have d3' : decide ((rs.length : Int) ≤ pa) = false := by simp; omega
                  by_cases d4 : (rs.length : Int) ≤ pb
                  · have HOv := Lib.hid (show OvB rs.length (pa, pb) from .inr (.inr d4))
                    have d4' : decide ((rs.length : Int) ≤ pb) = true := by simp [d4]
                    go_wp2_with fail
                    go_round
                    case rel => exact ⟨true, k + 1, rfl, by go_num, by omega, iff_of_true rfl (HS.out.2 (.inr HOv.out))⟩
                    case measure => simp [intOf]; omega
                  · have d4' : decide ((rs.length : Int) ≤ pb) = false := by simp; omega
                    have HOv := Lib.hid (show ¬ OvB rs.length (pa, pb) by unfold OvB OutB; simp only; omega)
                    clear d1 d2 d3 d4
                    go_wp2_with fail
                    go_round
                    case rel => exact ⟨false, k + 1, rfl, by go_num, by omega, iff_of_false (by simp) fun h => (HS.out.1 h).elim HN0.out HOv.out⟩
                    case measure => simp [intOf]; omega
          · go_wp2_with fail
            go_round
            case rel => exact ⟨true, k + 1, rfl, by go_num, by omega, iff_of_true rfl (HS.out.2 (.inl (HM.out.1 (by simp))))⟩
            case measure => simp [intOf]; omega
        · obtain rfl : ov.length = k := by omega
          have HMx := Lib.hid (show mm = true ↔ Nm n rs ov by rw [HM.out, Ex.all]; rfl)
          clear HM
          cases kk
          · have HNK := Lib.hid (show ¬ Kd rs from fun h => by simpa using HKa.out.2 h)
            clear HKa
            cases mm
            · have HNM := Lib.hid (show ¬ Nm n rs ov from fun h => by simpa using HMx.out.2 h)
              clear HMx
              have HP := Lib.hid (rings_pre HNB.out HNM.out)
              have HRg := Lib.hid (ringof_any rs.length HP.out.1 ov HP.out.2.1 HP.out.2.2 OA oc)
              go_wp2_with fail
              go_still_tail 9, (by kernel_rfl)
              change wpList _ _ _ _ _ wr.drew
              go_wp2_with fail
              refine (HRg.out _ (HAr.out.over.ext (ext_drewN wr 1))).mono ?_
              rintro e w2 ⟨br, rfl, hb1, hb2⟩
              have HR1 := Lib.hid hb1
              have HB2 := Lib.hid (ext_trans HB.out (ext_trans (ext_drewN wr 1) hb2))
              clear hb1 hb2
              cases br
              · go_wp2_with fail
                go_ret
                exact ⟨0, rfl, .inr (.inr (.inr (.inr ⟨HNB.out, HNK.out, HNM.out, Classical.byContradiction fun h => by simpa using HR1.out.2 h, rfl⟩))), HB2.out⟩
              · go_wp2_with fail
                go_ret
                exact ⟨8, rfl, .inr (.inr (.inr (.inl ⟨HNB.out, HNK.out, HNM.out, HR1.out.1 (by simp), rfl⟩))), HB2.out⟩
            · go_wp2_with fail
              go_ret
              exact ⟨7, rfl, .inr (.inr (.inl ⟨HNB.out, HNK.out, HMx.out.1 (by simp), rfl⟩)), HB.out⟩
          · go_wp2_with fail
            go_ret
            exact ⟨9, rfl, .inr (.inl ⟨HNB.out, HKa.out.1 (by simp), rfl⟩), HB.out⟩
end Go.Proofs.YthokhiejlogpoaaGreatDoor.Rng

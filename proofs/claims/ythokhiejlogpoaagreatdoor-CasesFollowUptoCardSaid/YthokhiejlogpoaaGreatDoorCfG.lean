/- statutelaw5.sameTheories: the program's theory and the document's, of the same rules and pairs. statuteref5.Following: the document's theory with a rule more for each ruling. -/
import Derived.Test.YthokhiejlogpoaaGreatDoorLawT
import Derived.Test.YthokhiejlogpoaaGreatDoorApp
import Derived.Deep.RegionHeld3
import Derived.BigQuiet
import Derived.Deep.QuietTactic
import Derived.ChangeKeysEq
import Derived.Laws.StructEq
import Derived.Test.YthokhiejlogpoaaGreatDoorSol
import Derived.Test.YthokhiejlogpoaaGreatDoorCfP
import Derived.Test.YthokhiejlogpoaaGreatDoorAgree
import Derived.Deep.DeepCutAuto
import Derived.Deep.AppendLies
namespace Go.Proofs.YthokhiejlogpoaaGreatDoor.Cf
open Go.RowKit Mem Nest Thm LawT Day

set_option maxRecDepth 20000 in
theorem same_ints5 (xs : List Int) (A B : Option Addr) (ca cb : Nat) (w : World) (hx : Rd w A (ints xs)) (hy : Rd w B (ints xs)) (hl : xs.length ≤ 1048576) :
    Calls Tryz.prog 87 #[.slice A xs.length ca, .slice B xs.length cb] w (fun e w' => e = .returned (.bool true) ∧ ∃ n, w' = w.drewN n) := by
  have HX := Lib.hid hx
  have HY := Lib.hid hy
  clear hx hy
  have hq : ((xs.length : Int) == (xs.length : Int)) = true := by simp
  have hqb : ((xs.length : Int) != (xs.length : Int)) = false := by simp
  go_enter Tryz.func87, Tryz.ntmps87
  go_wp2_with fail
  go_loopw [5] (fun t5 wr => ∃ i : Nat, t5 = .int .i64 i ∧ i ≤ xs.length ∧ Hid (∃ n, wr = w.drewN n)) (fun t5 _ => xs.length - (intOf t5).toNat)
  case atStart => exact ⟨0, rfl, Nat.zero_le _, 0, rfl⟩
  case round =>
    obtain ⟨i, rfl, hi, HB⟩ := hrel
    have hxt : Below w.heap.size w wr := by obtain ⟨n, hn⟩ := HB.out; rw [hn]; exact ext_drewN w n
    by_cases hlt : i < xs.length
    · have hltc : (i : Int) < (xs.length : Int) := by omega
      obtain ⟨xb, xo, rfl, r0⟩ := (HX.out.ext hxt).int hlt
      obtain ⟨yb, yo, rfl, r1⟩ := (HY.out.ext hxt).int hlt
      generalize xs[i] = x at r0 r1
      have q : (x == x) = true := by simp
      have qb : (x != x) = false := by simp
      clear hxt
      go_wp2_with fail
      go_region_held3 (fun w' => w'.cell? ⟨xb, xo + i, none⟩ = some (.int .i64 x) ∧ w'.cell? ⟨yb, yo + i, none⟩ = some (.int .i64 x)) ((first | exact ⟨r0, r1⟩ | exact ⟨cell_ext (ext_drewN wr 1) r0, cell_ext (ext_drewN wr 1) r1⟩ | go_keep)) (fail)
      go_wp2_with fail
      go_roundw
      case rel => exact ⟨i + 1, by go_num, by omega, by obtain ⟨n, hn⟩ := HB.out; exact ⟨n + 1, by rw [hn, ← World.drewN_drewN]; rfl⟩⟩
      case measure => simp [intOf]; omega
    · obtain rfl : xs.length = i := by omega
      have hlc : ¬ (xs.length : Int) < (xs.length : Int) := by omega
      clear hxt
      go_wp2_with fail
      go_ret
      exact ⟨rfl, HB.out⟩
theorem quiet_drew {P : Program} {f : FuncId} {args : Array Value} {w : World} {n : Nat} {v : Value} (h : Calls P f args (w.drewN n) fun e w' => e = .returned v ∧ ∃ m, w' = (w.drewN n).drewN m) :
    Calls P f args (w.drewN n) fun e w'' => e = .returned v ∧ ∃ m, w'' = w.drewN m := h.mono fun _ _ ⟨h1, m, h2⟩ => ⟨h1, n + m, by rw [h2, World.drewN_drewN]⟩
theorem two_eq (a b c d : Int) (w : World) : (binOp .eql 169 (.agg #[.int .i64 a, .int .i64 b]) (.agg #[.int .i64 c, .int .i64 d])).run Tryz.prog w = .ok (.bool ((a == c) && (b == d))) w := by
  obtain ⟨i, hi, _, hs, _⟩ := info_parts int_info
  have hc : Tryz.prog.cellsOf 3 = 1 := by kernel_rfl
  have u3 := Tryz.underlying3
  have a3 := Tryz.isAgg3
  have z3 := Tryz.sizeOf3
  rw [run_eql_struct, show (10000 : Nat) = 9999 + 1 from rfl, run_equalIn_array w 9999 _ _ Tryz.underlying169 hi, hc]
  show ((Op.eqItems 9999 3 1 _ _ [0, 1]).run Tryz.prog w).andThen _ = _
  simp only [Op.eqItems]
  go_simp
  by_cases h1 : a = c <;> by_cases h2 : b = d <;> simp [h1, h2]
theorem two_guard (op : BinOp) (a b : Operand) (x y : Array Value) (w : World) : (eqGuard op 169 a b (.agg x) (.agg y)).run Tryz.prog w = .ok () w := run_eqGuard_agg w op _ a b x y (by kernel_rfl)
/-- what is found of a pair among the first k -/
def FoundE (i k : Nat) (f : Bool) : Prop := i < k → f = true
def TrueB (w : World) (e : Ending) (w' : World) : Prop := e = .returned (.bool true) ∧ Below w.heap.size w w'
set_option maxRecDepth 100000 in
set_option maxHeartbeats 4000000 in
theorem same_theories (N : Int) (rs rs' : List Rw) (hsm : rs.map Rw.rl = rs'.map Rw.rl) (A : Option Addr) (c : Nat) (ov : List (Int × Int)) (O : Option Addr) (oc : Nat) (hlr : rs.length ≤ 1048576) (hlo : ov.length ≤ 3000000) (hlb : ∀ r ∈ rs, r.body.length ≤ 1048576)
    (G : Nat) (A' : Option Addr) (c' : Nat) (O' : Option Addr) (oc' : Nat) (w : World) (hR : Rws w A rs) (hO : Rd w O (ov.flatMap prCells)) (hR' : Rws w A' rs') (hO' : Rd w O' (ov.flatMap prCells))
    (g0 : w.cell? ⟨G, 0, none⟩ = some (.int .i64 N)) (g1 : w.cell? ⟨G, 1, none⟩ = some (.slice A' rs'.length c')) (g2 : w.cell? ⟨G, 2, none⟩ = some (.slice O' ov.length oc')) :
    Calls Tryz.prog 38 #[.agg #[.int .i64 N, .slice A rs.length c, .slice O ov.length oc], .pointer (some ⟨G, 0, none⟩)] w (TrueB w) := by
  have hlen : rs'.length = rs.length := by
    have := congrArg List.length hsm
    simpa using this.symm
  rw [hlen] at g1
  have HLen := Lib.hid hlen
  have HSm := Lib.hid hsm
  have HLB := Lib.hid hlb
  have hx := ext_alloc w (.cells (List.toArray [.int .i64 N, .slice A rs.length c, .slice O ov.length oc]) 107)
  have hbk := Blk.new w 107 [.int .i64 N, .slice A rs.length c, .slice O ov.length oc]
  obtain ⟨W, hW⟩ : ∃ W, W = w.alloc (.cells (List.toArray [.int .i64 N, .slice A rs.length c, .slice O ov.length oc]) 107) := ⟨_, rfl⟩
  obtain ⟨B, hB⟩ : ∃ B, B = w.heap.size := ⟨_, rfl⟩
  rw [← hW] at hx hbk
  rw [← hB] at hbk
  have HX := Lib.hid hx
  have HBk := Lib.hid hbk
  have HR := Lib.hid (hR.ext hx)
  have HO := Lib.hid (hO.ext hx)
  have HR' := Lib.hid (hR'.ext hx)
  have HO' := Lib.hid (hO'.ext hx)
  replace g0 := cell_ext hx g0
  replace g1 := cell_ext hx g1
  replace g2 := cell_ext hx g2
  have k0 := hbk.cell 0 rfl
  have k1 := hbk.cell 1 rfl
  have k2 := hbk.cell 2 rfl
  have HG0 := Lib.hid g0
  have HG1 := Lib.hid g1
  have HG2 := Lib.hid g2
  have hq0 : (N != N) = false := by simp
  have hq1 : ((rs.length : Int) != (rs.length : Int)) = false := by simp
  have hq2 : ((ov.length : Int) != (ov.length : Int)) = false := by simp
  clear hR hO hR' hO' hsm hlb hx hbk hlen
  go_enter Tryz.func38, Tryz.ntmps38
  go_upto_region 1 with fail
  rw [show w.alloc (.cells #[.int .i64 N, .slice A rs.length c, .slice O ov.length oc] 107) = W from hW.symm, ← hB]
  clear hW hB
  go_quiet (fail)
  have hxq := ext_drewN W nq
  clear hq0 hq1 hq2 k0 k1 k2 g0 g1 g2
  go_wp2_with fail
  go_loopw [5] (fun t5 wr => ∃ i : Nat, t5 = .int .i64 i ∧ i ≤ rs.length ∧ Hid (∃ n, wr = W.drewN n)) (fun t5 _ => rs.length - (intOf t5).toNat)
  case atStart => exact ⟨0, rfl, Nat.zero_le _, nq, rfl⟩
  case round =>
    clear hxq
    obtain ⟨i, rfl, hi, HW⟩ := hrel
    have hxt : Below W.heap.size W wr := by obtain ⟨n, hn⟩ := HW.out; rw [hn]; exact ext_drewN W n
    have HXt := Lib.hid hxt
    have k1 := cell_ext hxt (HBk.out.cell 1 rfl)
    have g1 := cell_ext hxt HG1.out
    by_cases hlt : i < rs.length
    · have hltc : (i : Int) < (rs.length : Int) := by omega
      have hlt' : i < rs'.length := by have := HLen.out; omega
      obtain ⟨b1, o1, rfl, r0, r1, r2⟩ := (HR.out.ext hxt).row hlt
      obtain ⟨b2, o2, rfl, s0, s1, s2⟩ := (HR'.out.ext hxt).row hlt'
      have hrl : rs[i].rl = rs'[i].rl := by
        have h1 : (rs.map Rw.rl)[i]? = (rs'.map Rw.rl)[i]? := by rw [HSm.out]
        rw [List.getElem?_map, List.getElem?_map, List.getElem?_eq_getElem hlt, List.getElem?_eq_getElem hlt'] at h1
        simpa using h1
      have HBd := Lib.hid ((HR.out.ext hxt).bods _ (List.getElem_mem hlt))
      have HBd' := Lib.hid ((HR'.out.ext hxt).bods _ (List.getElem_mem hlt'))
      have hbl := HLB.out _ (List.getElem_mem hlt)
      generalize rs[i] = x at r0 r1 r2 HBd hrl hbl
      generalize rs'[i] = y at s0 s1 s2 HBd' hrl
      obtain ⟨xk, xh, xb, xA, xc⟩ := x
      obtain ⟨yk, yh, yb, yA, yc⟩ := y
      simp only [Rw.rl, Thy.Rl.mk.injEq] at hrl
      obtain ⟨rfl, rfl, rfl⟩ := hrl
      simp only at r0 r1 r2 s0 s1 s2 HBd HBd' hbl
      have HSI := Lib.hid (fun n => same_ints5 xb xA yA xc yc (wr.drewN n) (HBd.out.ext (ext_drewN wr n)) (HBd'.out.ext (ext_drewN wr n)) hbl)
      clear hxt
      go_wp2_with fail
      go_quiet ((go_at_call 87; exact quiet_drew (HSI.out _)))
      have qk : (xk != xk) = false := by simp
      have qh : (xh != xh) = false := by simp
      have r0 := cell_ext (ext_drewN wr nq) r0
      have r1 := cell_ext (ext_drewN wr nq) r1
      have s0 := cell_ext (ext_drewN wr nq) s0
      have s1 := cell_ext (ext_drewN wr nq) s1
      have k1 := cell_ext (ext_drewN wr nq) k1
      have g1 := cell_ext (ext_drewN wr nq) g1
      clear HSI r2 s2
      obtain ⟨wq, hwq⟩ : ∃ wq, wq = wr.drewN nq := ⟨_, rfl⟩
      rw [← hwq] at r0 r1 s0 s1 k1 g1 ⊢
      have HWQ := Lib.hid (show ∃ n, wq = W.drewN n by obtain ⟨n, hn⟩ := HW.out; exact ⟨n + nq, by rw [hwq, hn, World.drewN_drewN]⟩)
      clear hwq
      go_wp2_with fail
      go_quiet (fail)
      go_wp2_with fail
      go_roundw
      case rel => exact ⟨i + 1, by go_num, by omega, by obtain ⟨n, hn⟩ := HWQ.out; exact ⟨_, by rw [hn, World.drewN_drewN]⟩⟩
      case measure => simp [intOf]; omega
    · obtain rfl : rs.length = i := by omega
      clear hxt
      go_wp2_with fail
      clear k1 g1
      have HWs := HW
      go_loopw [7] (fun t7 wr => ∃ i : Nat, t7 = .int .i64 i ∧ i ≤ ov.length ∧ Hid (∃ n, wr = W.drewN n)) (fun t7 _ => ov.length - (intOf t7).toNat)
      case atStart => exact ⟨0, rfl, Nat.zero_le _, HWs.out⟩
      case round =>
        clear HW HWs HXt
        obtain ⟨i, rfl, hi, HW⟩ := hrel
        have hxt : Below W.heap.size W wr := by obtain ⟨n, hn⟩ := HW.out; rw [hn]; exact ext_drewN W n
        have k2 := cell_ext hxt (HBk.out.cell 2 rfl)
        have g2 := cell_ext hxt HG2.out
        by_cases hlt : i < ov.length
        · have hltc : (i : Int) < (ov.length : Int) := by omega
          clear hxt
          go_wp2_with fail
          clear k2 g2
          obtain ⟨wo, hwo⟩ : ∃ wo, wo = wr := ⟨_, rfl⟩
          rw [← hwo] at HW ⊢
          clear hwo
          go_loopw [8, 9] (fun t8 t9 wx => ∃ (f : Bool) (k : Nat), t8 = .bool f ∧ t9 = .int .i64 k ∧ k ≤ ov.length ∧ Hid (FoundE i k f) ∧ Hid (∃ n, wx = W.drewN n)) (fun _ t9 _ => ov.length - (intOf t9).toNat)
          case atStart => exact ⟨false, 0, rfl, rfl, Nat.zero_le _, fun h => absurd h (by omega), HW.out⟩
          case round =>
            clear HW
            obtain ⟨f, k, rfl, rfl, hk, HF, HW⟩ := hrel
            have hxt : Below W.heap.size W wr := by obtain ⟨n, hn⟩ := HW.out; rw [hn]; exact ext_drewN W n
            have k2 := cell_ext hxt (HBk.out.cell 2 rfl)
            have g2 := cell_ext hxt HG2.out
            by_cases hlk : k < ov.length
            · have hlkc : (k : Int) < (ov.length : Int) := by omega
              cases f with
              | true =>
                clear hxt
                go_wp2_with fail
                go_quiet (fail)
                go_wp2_with fail
                go_roundw
                case rel => exact ⟨true, k + 1, rfl, by go_num, by omega, fun _ => rfl, by obtain ⟨n, hn⟩ := HW.out; exact ⟨_, by rw [hn, World.drewN_drewN]⟩⟩
                case measure => simp [intOf]; omega
              | false =>
                obtain ⟨b1, o1, rfl, r0, r1⟩ := pair_at (HO.out.ext hxt) hlt
                obtain ⟨b2, o2, rfl, s0, s1⟩ := pair_at (HO'.out.ext hxt) hlk
                have HFE := Lib.hid (show FoundE i (k + 1) ((ov[i].1 == ov[k].1) && (ov[i].2 == ov[k].2)) from fun h => by
                  by_cases e : i = k
                  · subst e; simp
                  · exact absurd (HF.out (by omega)) (by decide))
                have hEq := fun w => two_eq ov[i].1 ov[i].2 ov[k].1 ov[k].2 w
                have hGd := two_guard
                generalize ((ov[i].1 == ov[k].1) && (ov[i].2 == ov[k].2)) = r at HFE hEq
                generalize ov[i] = p at r0 r1 s0 s1 hEq
                generalize ov[k] = q at r0 r1 s0 s1 hEq
                obtain ⟨p1, p2⟩ := p
                obtain ⟨q1, q2⟩ := q
                simp only at r0 r1 s0 s1 hEq
                have hdr := ext_drewN wr 1
                clear hxt
                go_wp2_with fail
                go_region_held3 (fun w' => w'.cell? ⟨B, 2, none⟩ = some (.slice (some ⟨b1, o1, none⟩) ov.length oc) ∧ w'.cell? ⟨G, 2, none⟩ = some (.slice (some ⟨b2, o2, none⟩) ov.length oc') ∧ w'.cell? ⟨b1, o1 + i * 2, none⟩ = some (.int .i64 p1) ∧ w'.cell? ⟨b1, o1 + i * 2 + 1, none⟩ = some (.int .i64 p2) ∧ w'.cell? ⟨b2, o2 + k * 2, none⟩ = some (.int .i64 q1) ∧ w'.cell? ⟨b2, o2 + k * 2 + 1, none⟩ = some (.int .i64 q2))
                  ((first | exact ⟨k2, g2, r0, r1, s0, s1⟩ | exact ⟨cell_ext hdr k2, cell_ext hdr g2, cell_ext hdr r0, cell_ext hdr r1, cell_ext hdr s0, cell_ext hdr s1⟩)) (fail)
                go_wp2_with fail
                go_roundw
                case rel => exact ⟨r, k + 1, rfl, by go_num, by omega, HFE.out, by obtain ⟨n, hn⟩ := HW.out; exact ⟨n + 1, by rw [hn, ← World.drewN_drewN]; rfl⟩⟩
                case measure => simp [intOf]; omega
            · obtain rfl : ov.length = k := by omega
              obtain rfl : f = true := HF.out hlt
              clear hxt
              go_wp2_with fail
              go_roundw
              case rel => exact ⟨i + 1, by go_num, by omega, HW.out⟩
              case measure => simp [intOf]; omega
        · obtain rfl : ov.length = i := by omega
          clear hxt
          go_wp2_with fail
          clear k2 g2
          have HWs := HW
          go_loopw [10] (fun t10 wr => ∃ i : Nat, t10 = .int .i64 i ∧ i ≤ ov.length ∧ Hid (∃ n, wr = W.drewN n)) (fun t10 _ => ov.length - (intOf t10).toNat)
          case atStart => exact ⟨0, rfl, Nat.zero_le _, HWs.out⟩
          case round =>
            clear HW HWs
            obtain ⟨i, rfl, hi, HW⟩ := hrel
            have hxt : Below W.heap.size W wr := by obtain ⟨n, hn⟩ := HW.out; rw [hn]; exact ext_drewN W n
            have k2 := cell_ext hxt (HBk.out.cell 2 rfl)
            have g2 := cell_ext hxt HG2.out
            by_cases hlt : i < ov.length
            · have hltc : (i : Int) < (ov.length : Int) := by omega
              clear hxt
              go_wp2_with fail
              clear k2 g2
              obtain ⟨wo, hwo⟩ : ∃ wo, wo = wr := ⟨_, rfl⟩
              rw [← hwo] at HW ⊢
              clear hwo
              go_loopw [11, 12] (fun t11 t12 wx => ∃ (f : Bool) (k : Nat), t11 = .bool f ∧ t12 = .int .i64 k ∧ k ≤ ov.length ∧ Hid (FoundE i k f) ∧ Hid (∃ n, wx = W.drewN n)) (fun _ t12 _ => ov.length - (intOf t12).toNat)
              case atStart => exact ⟨false, 0, rfl, rfl, Nat.zero_le _, fun h => absurd h (by omega), HW.out⟩
              case round =>
                clear HW
                obtain ⟨f, k, rfl, rfl, hk, HF, HW⟩ := hrel
                have hxt : Below W.heap.size W wr := by obtain ⟨n, hn⟩ := HW.out; rw [hn]; exact ext_drewN W n
                have k2 := cell_ext hxt (HBk.out.cell 2 rfl)
                have g2 := cell_ext hxt HG2.out
                by_cases hlk : k < ov.length
                · have hlkc : (k : Int) < (ov.length : Int) := by omega
                  cases f with
                  | true =>
                    clear hxt
                    go_wp2_with fail
                    go_quiet (fail)
                    go_wp2_with fail
                    go_roundw
                    case rel => exact ⟨true, k + 1, rfl, by go_num, by omega, fun _ => rfl, by obtain ⟨n, hn⟩ := HW.out; exact ⟨_, by rw [hn, World.drewN_drewN]⟩⟩
                    case measure => simp [intOf]; omega
                  | false =>
                    obtain ⟨b1, o1, rfl, r0, r1⟩ := pair_at (HO.out.ext hxt) hlk
                    obtain ⟨b2, o2, rfl, s0, s1⟩ := pair_at (HO'.out.ext hxt) hlt
                    have HFE := Lib.hid (show FoundE i (k + 1) ((ov[i].1 == ov[k].1) && (ov[i].2 == ov[k].2)) from fun h => by
                      by_cases e : i = k
                      · subst e; simp
                      · exact absurd (HF.out (by omega)) (by decide))
                    have hEq := fun w => two_eq ov[i].1 ov[i].2 ov[k].1 ov[k].2 w
                    have hGd := two_guard
                    generalize ((ov[i].1 == ov[k].1) && (ov[i].2 == ov[k].2)) = r at HFE hEq
                    generalize ov[i] = p at r0 r1 s0 s1 hEq
                    generalize ov[k] = q at r0 r1 s0 s1 hEq
                    obtain ⟨p1, p2⟩ := p
                    obtain ⟨q1, q2⟩ := q
                    simp only at r0 r1 s0 s1 hEq
                    have hdr := ext_drewN wr 1
                    clear hxt
                    go_wp2_with fail
                    go_region_held3 (fun w' => w'.cell? ⟨B, 2, none⟩ = some (.slice (some ⟨b1, o1, none⟩) ov.length oc) ∧ w'.cell? ⟨G, 2, none⟩ = some (.slice (some ⟨b2, o2, none⟩) ov.length oc') ∧ w'.cell? ⟨b1, o1 + k * 2, none⟩ = some (.int .i64 q1) ∧ w'.cell? ⟨b1, o1 + k * 2 + 1, none⟩ = some (.int .i64 q2) ∧ w'.cell? ⟨b2, o2 + i * 2, none⟩ = some (.int .i64 p1) ∧ w'.cell? ⟨b2, o2 + i * 2 + 1, none⟩ = some (.int .i64 p2))
                      ((first | exact ⟨k2, g2, r0, r1, s0, s1⟩ | exact ⟨cell_ext hdr k2, cell_ext hdr g2, cell_ext hdr r0, cell_ext hdr r1, cell_ext hdr s0, cell_ext hdr s1⟩)) (fail)
                    go_wp2_with fail
                    go_roundw
                    case rel => exact ⟨r, k + 1, rfl, by go_num, by omega, HFE.out, by obtain ⟨n, hn⟩ := HW.out; exact ⟨n + 1, by rw [hn, ← World.drewN_drewN]; rfl⟩⟩
                    case measure => simp [intOf]; omega
                · obtain rfl : ov.length = k := by omega
                  obtain rfl : f = true := HF.out hlt
                  clear hxt
                  go_wp2_with fail
                  go_roundw
                  case rel => exact ⟨i + 1, by go_num, by omega, HW.out⟩
                  case measure => simp [intOf]; omega
            · obtain rfl : ov.length = i := by omega
              clear hxt
              go_wp2_with fail
              go_ret
              exact ⟨rfl, ext_trans HX.out (by obtain ⟨n, hn⟩ := HW.out; rw [hn]; exact ext_drewN W n)⟩
end Go.Proofs.YthokhiejlogpoaaGreatDoor.Cf
namespace Go.Proofs.YthokhiejlogpoaaGreatDoor.Cf
open Go.RowKit Mem Nest Thm LawT Val App Sol Solve Day Thy Rng Agree

theorem typ_ref : Typs 100 172 := ⟨by decide, by decide, by decide, by decide, by decide⟩
theorem rref_info : (Tryz.prog.info? 172).map (fun i => (i.zero, i.size, i.bytes)) = some (some (.agg #[.int .i64 0, .int .i64 0, .slice none 0 0]), 3, 40) := by kernel_rfl
theorem rws_one (rs : List Rw) : ∀ u ∈ rs.flatMap rwCells, u.oneCell' = true := fun u hu => by
  obtain ⟨p, _, h⟩ := List.mem_flatMap.1 hu
  simp only [rwCells, List.mem_cons, List.not_mem_nil, or_false] at h
  rcases h with rfl | rfl | rfl <;> rfl
def ruRw (r : Ru) : Rw := ⟨1, r.head, r.body, r.A, r.c⟩
/-- what Following answers -/
def FgPost (N : Int) (rs : List Rw) (ov : List (Int × Int)) (ls : List Ru) (w : World) (e : Ending) (w' : World) : Prop :=
  Below w.heap.size w w' ∧ ∃ c1 : Int, VCode N rs ov c1 ∧ ((0 < c1 ∧ e = .returned (.tuple #[.pointer none, .int .i64 c1])) ∨
    (c1 = 0 ∧ ∃ G RA2 rc2 OA2 oc2, ThA w' G 0 N (rs ++ ls.map ruRw) RA2 rc2 (ov ++ adds (rs.map Rw.rl) ls ls) OA2 oc2 ∧ ∃ c2 : Int, VCode N (rs ++ ls.map ruRw) (ov ++ adds (rs.map Rw.rl) ls ls) c2 ∧ e = .returned (.tuple #[.pointer (some ⟨G, 0, none⟩), .int .i64 c2])))
theorem vcode_pos {N : Int} {rs : List Rw} {ov : List (Int × Int)} {c : Int} (h : VCode N rs ov c) : c = 0 ∨ 0 < c := by
  rcases h with ⟨_, rfl⟩ | ⟨_, _, rfl⟩ | ⟨_, _, _, rfl⟩ | ⟨_, _, _, _, rfl⟩ | ⟨_, _, _, _, rfl⟩ <;> simp
set_option maxRecDepth 100000 in
set_option maxHeartbeats 4000000 in
theorem following_any (N : Int) (rs : List Rw) (RA : Option Addr) (rc : Nat) (hrn : RA = none → rc = 0) (ov : List (Int × Int)) (OA : Option Addr) (oc : Nat) (ls : List Ru) (LA : Option Addr) (lc : Nat) (hl : ls.length ≤ 125) (hlb : ∀ r ∈ ls, r.body.length ≤ 1048576) (hln : ∀ r ∈ ls, r.A = none → r.c = 0) (b o : Nat) (w : World) (hT : ThA w b o N rs RA rc ov OA oc) (hL : Rus w LA ls) :
    Calls Tryz.prog 37 #[.pointer (some ⟨b, o, none⟩), .slice LA ls.length lc] w (FgPost N rs ov ls w) := by
  have HT := Lib.hid hT
  have HL := Lib.hid hL
  have HRn := Lib.hid hrn
  have HLB := Lib.hid hlb
  have HLn0 := Lib.hid hln
  obtain ⟨i0, hi, hz0, hz1, hz2⟩ := info_parts rref_info
  have HI := Lib.hid hi
  have HI0 := Lib.hid hz0
  have HI1 := Lib.hid hz1
  have HI2 := Lib.hid hz2
  obtain ⟨j0, hi, hz0, hz1, hz2⟩ := info_parts pair_info
  have HJ := Lib.hid hi
  have HJ0 := Lib.hid hz0
  have HJ1 := Lib.hid hz1
  have HJ2 := Lib.hid hz2
  clear hT hL hrn hlb hln hi hz0 hz1 hz2
  go_enter Tryz.func37, Tryz.ntmps37
  go_wp2_with fail
  refine (vth_any b o N rs RA rc ov OA oc _ HT.out).mono ?_
  rintro e w1 ⟨c1, rfl, hc, hb⟩
  have HC := Lib.hid hc
  have HB1 := Lib.hid hb
  have HT1 := Lib.hid (HT.out.ext hb)
  have HL1 := Lib.hid (HL.out.ext hb)
  have hbw : b < w1.heap.size := cell_lt HT1.out.c0
  clear hb HT HL
  rcases vcode_pos hc with rfl | hpos
  · have HRt := Lib.hid ((VCode.right hc).1 rfl)
    obtain ⟨hrl, hol, -⟩ := rings_pre HRt.out.b HRt.out.n
    have x0 := HT1.out.c0
    have x1 := HT1.out.c1
    clear hc
    have hxa := ext_alloc w1 (.cells (List.toArray [.int .i64 N, .slice none 0 0, .slice none 0 0]) 100)
    obtain ⟨W, hW⟩ : ∃ W, W = w1.alloc (.cells (List.toArray [.int .i64 N, .slice none 0 0, .slice none 0 0]) 100) := ⟨_, rfl⟩
    have HF := Lib.hid (hW ▸ Fo.start (ar := True) (N := N) typ_ref (Below.refl _ w1) (World.ownsRow_nil w1 _ _ _) : Fo True 100 172 w1 W w1.heap.size N (.slice none 0 0) (.slice none 0 0) [] [])
    have hsW : w1.heap.size ≤ W.heap.size := HF.out.bs
    obtain ⟨G, hG⟩ : ∃ G, G = w1.heap.size := ⟨_, rfl⟩
    have HbG := Lib.hid (show b ≠ G by omega)
    have HGe := Lib.hid hG
    go_upto_region 6 with fail
    rw [show w1.alloc (.cells #[.int .i64 N, .slice none 0 0, .slice none 0 0] 100) = W from hW.symm, ← hG]
    rw [← hW] at hxa
    rw [← hG] at HF
    clear hW hG
    have HTb := Lib.hid (HT1.out.ext hxa)
    have x1 := HTb.out.c1
    have x2 := HTb.out.c2
    have g1 := HF.out.blk.cell 1 rfl
    go_cut [] (fun wx => ∃ v, Hid (Fo True 100 172 w1 wx G N v (.slice none 0 0) rs []))
    case first =>
      refine wp_region_held_drew (S := (fun w' => w'.cell? ⟨b, o + 1, none⟩ = some (.slice RA rs.length rc))) (by kernel_rfl) ?_ (fun hHeld => ?_)
      · exact x1
      refine wpAnyH_take (i := 0) (v := ?_) rfl (by kernel_rfl) (by kernel_rfl) (by kernel_rfl) (fun _ _ _ h => h) (Or.inl ⟨by rfl, ?_⟩) (by assumption) ?_
      rotate_left
      · intro w hSw; (try dsimp only at hSw); go_simp; try with_reducible rfl
      (try dsimp only [Act.put, List.setIfInBounds_toArray, List.set_cons_zero, List.set_cons_succ])
      refine wpAnyH_take (i := 1) (v := ?_) rfl (by kernel_rfl) (by kernel_rfl) (by kernel_rfl) (fun _ _ _ h => h) (Or.inl ⟨by rfl, ?_⟩) (by assumption) ?_
      rotate_left
      · intro w hSw; (try dsimp only at hSw); go_simp; try with_reducible rfl
      (try dsimp only [Act.put, List.setIfInBounds_toArray, List.set_cons_zero, List.set_cons_succ])
      refine wpAnyH_take (i := 2) (v := ?_) rfl (by kernel_rfl) (by kernel_rfl) (by kernel_rfl) (fun _ _ _ h => h) (Or.inl ⟨by rfl, ?_⟩) (by assumption) ?_
      rotate_left
      · intro w hSw; (try dsimp only at hSw); go_simp; try with_reducible rfl
      (try dsimp only [Act.put, List.setIfInBounds_toArray, List.set_cons_zero, List.set_cons_succ])
      refine wpAnyH_take (i := 3) (v := ?_) rfl (by kernel_rfl) (by kernel_rfl) (by kernel_rfl) (fun _ _ _ h => h) (Or.inl ⟨by rfl, ?_⟩) (by assumption) ?_
      rotate_left
      · intro w hSw; (try dsimp only at hSw); go_simp; try with_reducible rfl
      (try dsimp only [Act.put, List.setIfInBounds_toArray, List.set_cons_zero, List.set_cons_succ])
      refine wpAnyH_take (i := 5) (v := ?_) rfl (by kernel_rfl) (by kernel_rfl) (by kernel_rfl) (fun _ _ _ h => h) (Or.inl ⟨by rfl, ?_⟩) (by assumption) ?_
      rotate_left
      · intro w hSw; (try dsimp only at hSw); go_simp; try with_reducible rfl
      (try dsimp only [Act.put, List.setIfInBounds_toArray, List.set_cons_zero, List.set_cons_succ])
      refine wpAnyH_take (i := 6) (v := ?_) rfl (by kernel_rfl) (by kernel_rfl) (by kernel_rfl) (fun _ _ _ h => h) (Or.inl ⟨by rfl, ?_⟩) (by assumption) ?_
      rotate_left
      · intro w hSw; (try dsimp only at hSw); go_simp; try with_reducible rfl
      (try dsimp only [Act.put, List.setIfInBounds_toArray, List.set_cons_zero, List.set_cons_succ])
      refine wpAnyH_take (i := 7) (v := ?_) rfl (by kernel_rfl) (by kernel_rfl) (by kernel_rfl) (fun _ _ _ h => h) (Or.inl ⟨by rfl, ?_⟩) (by assumption) ?_
      rotate_left
      · intro w hSw; (try dsimp only at hSw); go_simp; try with_reducible rfl
      (try dsimp only [Act.put, List.setIfInBounds_toArray, List.set_cons_zero, List.set_cons_succ])
      refine wpAnyH_take (i := 8) (v := ?_) rfl (by kernel_rfl) (by kernel_rfl) (by kernel_rfl) (fun _ _ _ h => h) (Or.inl ⟨by rfl, ?_⟩) (by assumption) ?_
      rotate_left
      · intro w hSw; (try dsimp only at hSw); go_simp; try with_reducible rfl
      (try dsimp only [Act.put, List.setIfInBounds_toArray, List.set_cons_zero, List.set_cons_succ])
      refine wpAnyH_ready (rs := [4]) (by kernel_rfl) (by simp) ?_
      refine AllReadyH.cons rfl (fun K hK => ?_) ?_
      · go_simp
        refine hK.out _ _ ?_ (fun hHeld => ?_)
        · exact x1
        clear hK K
        (try dsimp only [Act.put, List.setIfInBounds_toArray, List.set_cons_zero, List.set_cons_succ])
        refine wpAnyH_ready (rs := [9]) (by kernel_rfl) (by simp) ?_
        refine AllReadyH.cons rfl (fun K hK => ?_) ?_
        · refine step_append_rd _ (by rfl) _ _ _ (by rfl) w1.heap.size 172 i0 _ 3 40 Tryz.underlying97 HI.out HI0.out HI1.out HI2.out rfl (by omega) (.slice none 0 0) 0 [] (by rfl) (World.ownsRow_nil _ _ _ _) RA rs.length rc (rs.flatMap rwCells) (by rfl) HRn.out (flat_len rwCells_len rs) (HTb.out.rules.rows.ext (ext_drewN W 1)) (rws_one rs) (by simp only [maxLen]; omega) (by omega) (by simpa using hsW) ?_
          intro v1 w3 hown1 hg1
          obtain ⟨A1, c1, hv1, _⟩ := own_slice hown1
          subst hv1
          have HP := Lib.hid (HF.out.putRs (rs2 := rs) (ext_drewN W 1) hg1 hown1 (fun r hr => ⟨.inr ⟨trivial, HT1.out.rules.bods r hr⟩, HT1.out.rules.lens r hr⟩))
          have HB3 := Lib.hid (ext_trans (ext_drewN W 1) (ext_grown_nil hg1))
          have a2 := cell_ext HB3.out x1
          have z1 := HP.out.2.cell 1 rfl
          have z2 := HP.out.2.free 1
          clear hown1 hg1
          refine hK.out _ _ ?_ (fun hHeld => ?_)
          · exact a2
          clear hK K
          (try dsimp only [Act.put, List.setIfInBounds_toArray, List.set_cons_zero, List.set_cons_succ])
          refine wpAnyH_take (i := 10) (v := ?_) rfl (by kernel_rfl) (by kernel_rfl) (by kernel_rfl) (fun _ _ _ h => h) (Or.inl ⟨by rfl, ?_⟩) (by assumption) ?_
          rotate_left
          · intro w hSw; (try dsimp only at hSw); go_simp; try with_reducible rfl
          (try dsimp only [Act.put, List.setIfInBounds_toArray, List.set_cons_zero, List.set_cons_succ])
          refine wpAnyH_take (i := 11) (v := ?_) rfl (by kernel_rfl) (by kernel_rfl) (by kernel_rfl) (fun _ _ _ h => h) (Or.inl ⟨by rfl, ?_⟩) (by assumption) ?_
          rotate_left
          · intro w hSw; (try dsimp only at hSw); go_simp; try with_reducible rfl
          (try dsimp only [Act.put, List.setIfInBounds_toArray, List.set_cons_zero, List.set_cons_succ])
          refine wpAnyH_ready (rs := [12]) (by kernel_rfl) (by simp) ?_
          refine AllReadyH.cons rfl (fun K hK => ?_) ?_
          · go_simp
            refine hK.out _ _ ?_ (fun hHeld => ?_)
            · exact cell_set_other a2 (show b ≠ G from HbG.out) _
            clear hK K
            (try dsimp only [Act.put, List.setIfInBounds_toArray, List.set_cons_zero, List.set_cons_succ])
            refine wpAnyH_done (by kernel_rfl) ?_ _
            go_wp2_with fail
            go_meet
            exact ⟨_, Lib.hid (by have h := HP.out.1; rw [Nat.zero_add] at h; exact h)⟩
          exact AllReadyH.nil
        exact AllReadyH.nil
      exact AllReadyH.nil
    case rest =>
      clear x0 x1 x2 g1 HF HTb hxa hsW
      obtain ⟨v, HF⟩ := hcut
      obtain ⟨W, hW⟩ : ∃ W, W = wc := ⟨_, rfl⟩
      rw [← hW] at HF ⊢
      have HWe := Lib.hid hW
      have hsW : w1.heap.size ≤ W.heap.size := HF.out.bs
      have HTb := Lib.hid (HT1.out.ext HF.out.below)
      have x2 := HTb.out.c2
      have g2 := HF.out.blk.cell 2 rfl
      clear hW HWe
      go_upto_region 7 with fail
      go_cut [] (fun wx => ∃ vO, Hid (Fo True 100 172 w1 wx G N v vO rs ov))
      case first =>
        refine wp_region_held_drew (S := (fun w' => w'.cell? ⟨b, o + 2, none⟩ = some (.slice OA ov.length oc))) (by kernel_rfl) ?_ (fun hHeld => ?_)
        · exact x2
        refine wpAnyH_take (i := 0) (v := ?_) rfl (by kernel_rfl) (by kernel_rfl) (by kernel_rfl) (fun _ _ _ h => h) (Or.inl ⟨by rfl, ?_⟩) (by assumption) ?_
        rotate_left
        · intro w hSw; (try dsimp only at hSw); go_simp; try with_reducible rfl
        (try dsimp only [Act.put, List.setIfInBounds_toArray, List.set_cons_zero, List.set_cons_succ])
        refine wpAnyH_take (i := 1) (v := ?_) rfl (by kernel_rfl) (by kernel_rfl) (by kernel_rfl) (fun _ _ _ h => h) (Or.inl ⟨by rfl, ?_⟩) (by assumption) ?_
        rotate_left
        · intro w hSw; (try dsimp only at hSw); go_simp; try with_reducible rfl
        (try dsimp only [Act.put, List.setIfInBounds_toArray, List.set_cons_zero, List.set_cons_succ])
        refine wpAnyH_take (i := 2) (v := ?_) rfl (by kernel_rfl) (by kernel_rfl) (by kernel_rfl) (fun _ _ _ h => h) (Or.inl ⟨by rfl, ?_⟩) (by assumption) ?_
        rotate_left
        · intro w hSw; (try dsimp only at hSw); go_simp; try with_reducible rfl
        (try dsimp only [Act.put, List.setIfInBounds_toArray, List.set_cons_zero, List.set_cons_succ])
        refine wpAnyH_take (i := 3) (v := ?_) rfl (by kernel_rfl) (by kernel_rfl) (by kernel_rfl) (fun _ _ _ h => h) (Or.inl ⟨by rfl, ?_⟩) (by assumption) ?_
        rotate_left
        · intro w hSw; (try dsimp only at hSw); go_simp; try with_reducible rfl
        (try dsimp only [Act.put, List.setIfInBounds_toArray, List.set_cons_zero, List.set_cons_succ])
        refine wpAnyH_take (i := 5) (v := ?_) rfl (by kernel_rfl) (by kernel_rfl) (by kernel_rfl) (fun _ _ _ h => h) (Or.inl ⟨by rfl, ?_⟩) (by assumption) ?_
        rotate_left
        · intro w hSw; (try dsimp only at hSw); go_simp; try with_reducible rfl
        (try dsimp only [Act.put, List.setIfInBounds_toArray, List.set_cons_zero, List.set_cons_succ])
        refine wpAnyH_take (i := 6) (v := ?_) rfl (by kernel_rfl) (by kernel_rfl) (by kernel_rfl) (fun _ _ _ h => h) (Or.inl ⟨by rfl, ?_⟩) (by assumption) ?_
        rotate_left
        · intro w hSw; (try dsimp only at hSw); go_simp; try with_reducible rfl
        (try dsimp only [Act.put, List.setIfInBounds_toArray, List.set_cons_zero, List.set_cons_succ])
        refine wpAnyH_take (i := 7) (v := ?_) rfl (by kernel_rfl) (by kernel_rfl) (by kernel_rfl) (fun _ _ _ h => h) (Or.inl ⟨by rfl, ?_⟩) (by assumption) ?_
        rotate_left
        · intro w hSw; (try dsimp only at hSw); go_simp; try with_reducible rfl
        (try dsimp only [Act.put, List.setIfInBounds_toArray, List.set_cons_zero, List.set_cons_succ])
        refine wpAnyH_take (i := 8) (v := ?_) rfl (by kernel_rfl) (by kernel_rfl) (by kernel_rfl) (fun _ _ _ h => h) (Or.inl ⟨by rfl, ?_⟩) (by assumption) ?_
        rotate_left
        · intro w hSw; (try dsimp only at hSw); go_simp; try with_reducible rfl
        (try dsimp only [Act.put, List.setIfInBounds_toArray, List.set_cons_zero, List.set_cons_succ])
        refine wpAnyH_ready (rs := [4]) (by kernel_rfl) (by simp) ?_
        refine AllReadyH.cons rfl (fun K hK => ?_) ?_
        · go_simp
          refine hK.out _ _ ?_ (fun hHeld => ?_)
          · exact x2
          clear hK K
          (try dsimp only [Act.put, List.setIfInBounds_toArray, List.set_cons_zero, List.set_cons_succ])
          refine wpAnyH_ready (rs := [9]) (by kernel_rfl) (by simp) ?_
          refine AllReadyH.cons rfl (fun K hK => ?_) ?_
          · refine step_append_rd _ (by rfl) _ _ _ (by rfl) w1.heap.size 169 j0 _ 2 16 Tryz.underlying98 HJ.out HJ0.out HJ1.out HJ2.out rfl (by omega) (.slice none 0 0) 0 [] (by rfl) (World.ownsRow_nil _ _ _ _) OA ov.length oc (ov.flatMap prCells) (by rfl) HT1.out.onil (flat_len prCells_len ov) (HTb.out.over.ext (ext_drewN W 1)) (prs_one ov) (by simp only [maxLen]; omega) (by omega) (by simpa using hsW) ?_
            intro v1 w3 hown1 hg1
            obtain ⟨A1, c1, hv1, _⟩ := own_slice hown1
            subst hv1
            have HP := Lib.hid (HF.out.putOs (ps := ov) (ext_drewN W 1) hg1 hown1)
            have HB3 := Lib.hid (ext_trans (ext_drewN W 1) (ext_grown_nil hg1))
            have a2 := cell_ext HB3.out x2
            have z1 := HP.out.2.cell 2 rfl
            have z2 := HP.out.2.free 2
            clear hown1 hg1
            refine hK.out _ _ ?_ (fun hHeld => ?_)
            · exact a2
            clear hK K
            (try dsimp only [Act.put, List.setIfInBounds_toArray, List.set_cons_zero, List.set_cons_succ])
            refine wpAnyH_take (i := 10) (v := ?_) rfl (by kernel_rfl) (by kernel_rfl) (by kernel_rfl) (fun _ _ _ h => h) (Or.inl ⟨by rfl, ?_⟩) (by assumption) ?_
            rotate_left
            · intro w hSw; (try dsimp only at hSw); go_simp; try with_reducible rfl
            (try dsimp only [Act.put, List.setIfInBounds_toArray, List.set_cons_zero, List.set_cons_succ])
            refine wpAnyH_take (i := 11) (v := ?_) rfl (by kernel_rfl) (by kernel_rfl) (by kernel_rfl) (fun _ _ _ h => h) (Or.inl ⟨by rfl, ?_⟩) (by assumption) ?_
            rotate_left
            · intro w hSw; (try dsimp only at hSw); go_simp; try with_reducible rfl
            (try dsimp only [Act.put, List.setIfInBounds_toArray, List.set_cons_zero, List.set_cons_succ])
            refine wpAnyH_ready (rs := [12]) (by kernel_rfl) (by simp) ?_
            refine AllReadyH.cons rfl (fun K hK => ?_) ?_
            · go_simp
              refine hK.out _ _ ?_ (fun hHeld => ?_)
              · exact cell_set_other a2 (show b ≠ G from HbG.out) _
              clear hK K
              (try dsimp only [Act.put, List.setIfInBounds_toArray, List.set_cons_zero, List.set_cons_succ])
              refine wpAnyH_done (by kernel_rfl) ?_ _
              go_wp2_with fail
              go_meet
              exact ⟨_, Lib.hid (by have h := HP.out.1; rw [Nat.zero_add] at h; exact h)⟩
            exact AllReadyH.nil
          exact AllReadyH.nil
        exact AllReadyH.nil
      case rest =>
        clear x2 g2 HF HTb hsW
        obtain ⟨vO, HF⟩ := hcut
        clear HbG
        go_wp2_with fail
        go_loopw [9] (fun s9 wr => ∃ (i : Nat) (v : Value), s9 = .int .i64 i ∧ i ≤ ls.length ∧ Hid (Fo True 100 172 w1 wr G N v vO (rs ++ (ls.take i).map ruRw) ov)) (fun s9 _ => ls.length - (intOf s9).toNat)
        case atStart => exact ⟨0, v, rfl, Nat.zero_le _, Lib.hid (by have := HF.out; rwa [show rs ++ (ls.take 0).map ruRw = rs from List.append_nil _])⟩
        case round =>
          clear HF
          obtain ⟨i, v, rfl, hi, HF⟩ := hrel
          by_cases hlt : i < ls.length
          · have hltc : (i : Int) < (ls.length : Int) := by omega
            have hLx := HL1.out.ext HF.out.below
            obtain ⟨b', o', rfl, r0, r1, -⟩ := ru_at hLx.rows hlt
            have hbG2 : b' < w1.heap.size := by
              obtain ⟨b2, o2, e2, r0', _⟩ := ru_at HL1.out.rows hlt
              cases e2
              exact cell_lt r0'
            obtain ⟨x, hx⟩ : ∃ x, x = ls[i] := ⟨_, rfl⟩
            rw [← hx] at r0 r1
            have HBd := Lib.hid (hx ▸ HL1.out.bods _ (List.getElem_mem hlt))
            have HLe := Lib.hid (hx ▸ HL1.out.lens _ (List.getElem_mem hlt))
            have HXi := Lib.hid hx
            clear hx hLx
            obtain ⟨xh, xb, xr, xA, xc⟩ := x
            simp only at r0 r1
            have HLn := Lib.hid (show (rs ++ (ls.take i).map ruRw).length = rs.length + i by
              rw [List.length_append, List.length_map, List.length_take, Nat.min_eq_left hi])
            have HbG2 := Lib.hid (show b' ≠ G by have := HGe.out; omega)
            have HNb := Lib.hid (show some b' ≠ v.ownBlock from fun h => by
              have := (HF.out.own.lt b' h.symm).1
              omega)
            have HFd := Lib.hid (HF.out.ext (ext_drewN wr 1))
            have z4 := HF.out.blk.cell 1 rfl
            have z4x := fun ob => cell_ext (ext_alloc wr ob) z4
            have hsr : w1.heap.size ≤ wr.heap.size := HF.out.bs
            clear hbG2
            go_upto_region 11 with fail
            refine wp_region_held_drew (S := (fun w' => w'.cell? ⟨b', o' + i * 3, none⟩ = some (.int .i64 xh) ∧ w'.cell? ⟨b', o' + i * 3 + 1, none⟩ = some (.slice xA xb.length xc))) (by kernel_rfl) ?_ (fun hHeld => ?_)
            · exact ⟨r0, r1⟩
            refine wpAnyH_take (i := 0) (v := ?_) rfl (by kernel_rfl) (by kernel_rfl) (by kernel_rfl) (fun _ _ _ h => h) (Or.inl ⟨by rfl, ?_⟩) (by assumption) ?_
            rotate_left
            · intro w hSw; (try dsimp only at hSw); go_simp; try with_reducible rfl
            (try dsimp only [Act.put, List.setIfInBounds_toArray, List.set_cons_zero, List.set_cons_succ])
            refine wpAnyH_take (i := 1) (v := ?_) rfl (by kernel_rfl) (by kernel_rfl) (by kernel_rfl) (fun _ _ _ h => h) (Or.inl ⟨by rfl, ?_⟩) (by assumption) ?_
            rotate_left
            · intro w hSw; (try dsimp only at hSw); go_simp; try with_reducible rfl
            (try dsimp only [Act.put, List.setIfInBounds_toArray, List.set_cons_zero, List.set_cons_succ])
            refine wpAnyH_take (i := 2) (v := ?_) rfl (by kernel_rfl) (by kernel_rfl) (by kernel_rfl) (fun _ _ _ h => h) (Or.inl ⟨by rfl, ?_⟩) (by assumption) ?_
            rotate_left
            · intro w hSw; (try dsimp only at hSw); go_simp; try with_reducible rfl
            (try dsimp only [Act.put, List.setIfInBounds_toArray, List.set_cons_zero, List.set_cons_succ])
            refine wpAnyH_take (i := 3) (v := ?_) rfl (by kernel_rfl) (by kernel_rfl) (by kernel_rfl) (fun _ _ _ h => h) (Or.inl ⟨by rfl, ?_⟩) (by assumption) ?_
            rotate_left
            · intro w hSw; (try dsimp only at hSw); go_simp; try with_reducible rfl
            (try dsimp only [Act.put, List.setIfInBounds_toArray, List.set_cons_zero, List.set_cons_succ])
            refine wpAnyH_take (i := 5) (v := ?_) rfl (by kernel_rfl) (by kernel_rfl) (by kernel_rfl) (fun _ _ _ h => h) (Or.inl ⟨by rfl, ?_⟩) (by assumption) ?_
            rotate_left
            · intro w hSw; (try dsimp only at hSw); go_simp; try with_reducible rfl
            (try dsimp only [Act.put, List.setIfInBounds_toArray, List.set_cons_zero, List.set_cons_succ])
            refine wpAnyH_take (i := 6) (v := ?_) rfl (by kernel_rfl) (by kernel_rfl) (by kernel_rfl) (fun _ _ _ h => h) (Or.inl ⟨by rfl, ?_⟩) (by assumption) ?_
            rotate_left
            · intro w hSw; (try dsimp only at hSw); go_simp; try with_reducible rfl
            (try dsimp only [Act.put, List.setIfInBounds_toArray, List.set_cons_zero, List.set_cons_succ])
            refine wpAnyH_take (i := 7) (v := ?_) rfl (by kernel_rfl) (by kernel_rfl) (by kernel_rfl) (fun _ _ _ h => h) (Or.inl ⟨by rfl, ?_⟩) (by assumption) ?_
            rotate_left
            · intro w hSw; (try dsimp only at hSw); go_simp; try with_reducible rfl
            (try dsimp only [Act.put, List.setIfInBounds_toArray, List.set_cons_zero, List.set_cons_succ])
            refine wpAnyH_take (i := 8) (v := ?_) rfl (by kernel_rfl) (by kernel_rfl) (by kernel_rfl) (fun _ _ _ h => h) (Or.inl ⟨by rfl, ?_⟩) (by assumption) ?_
            rotate_left
            · intro w hSw; (try dsimp only at hSw); go_simp; try with_reducible rfl
            (try dsimp only [Act.put, List.setIfInBounds_toArray, List.set_cons_zero, List.set_cons_succ])
            refine wpAnyH_take (i := 9) (v := ?_) rfl (by kernel_rfl) (by kernel_rfl) (by kernel_rfl) (fun _ _ _ h => h) (Or.inl ⟨by rfl, ?_⟩) (by assumption) ?_
            rotate_left
            · intro w hSw; (try dsimp only at hSw); go_simp; try with_reducible rfl
            (try dsimp only [Act.put, List.setIfInBounds_toArray, List.set_cons_zero, List.set_cons_succ])
            refine wpAnyH_take (i := 10) (v := ?_) rfl (by kernel_rfl) (by kernel_rfl) (by kernel_rfl) (fun _ _ _ h => h) (Or.inl ⟨by rfl, ?_⟩) (by assumption) ?_
            rotate_left
            · intro w hSw; (try dsimp only at hSw); go_simp; try with_reducible rfl
            (try dsimp only [Act.put, List.setIfInBounds_toArray, List.set_cons_zero, List.set_cons_succ])
            refine wpAnyH_take (i := 11) (v := ?_) rfl (by kernel_rfl) (by kernel_rfl) (by kernel_rfl) (fun _ _ _ h => h) (Or.inl ⟨by rfl, ?_⟩) (by assumption) ?_
            rotate_left
            · intro w hSw; (try dsimp only at hSw); go_simp; try with_reducible rfl
            (try dsimp only [Act.put, List.setIfInBounds_toArray, List.set_cons_zero, List.set_cons_succ])
            refine wpAnyH_take (i := 12) (v := ?_) rfl (by kernel_rfl) (by kernel_rfl) (by kernel_rfl) (fun _ _ _ h => h) (Or.inl ⟨by rfl, ?_⟩) (by assumption) ?_
            rotate_left
            · intro w hSw; (try dsimp only at hSw); go_simp; try with_reducible rfl
            (try dsimp only [Act.put, List.setIfInBounds_toArray, List.set_cons_zero, List.set_cons_succ])
            refine wpAnyH_take (i := 13) (v := ?_) rfl (by kernel_rfl) (by kernel_rfl) (by kernel_rfl) (fun _ _ _ h => h) (Or.inl ⟨by rfl, ?_⟩) (by assumption) ?_
            rotate_left
            · intro w hSw; (try dsimp only at hSw); go_simp; try with_reducible rfl
            (try dsimp only [Act.put, List.setIfInBounds_toArray, List.set_cons_zero, List.set_cons_succ])
            refine wpAnyH_take (i := 14) (v := ?_) rfl (by kernel_rfl) (by kernel_rfl) (by kernel_rfl) (fun _ _ _ h => h) (Or.inl ⟨by rfl, ?_⟩) (by assumption) ?_
            rotate_left
            · intro w hSw; (try dsimp only at hSw); go_simp; try with_reducible rfl
            (try dsimp only [Act.put, List.setIfInBounds_toArray, List.set_cons_zero, List.set_cons_succ])
            refine wpAnyH_take (i := 15) (v := ?_) rfl (by kernel_rfl) (by kernel_rfl) (by kernel_rfl) (fun _ _ _ h => h) (Or.inl ⟨by rfl, ?_⟩) (by assumption) ?_
            rotate_left
            · intro w hSw; (try dsimp only at hSw); go_simp; try with_reducible rfl
            (try dsimp only [Act.put, List.setIfInBounds_toArray, List.set_cons_zero, List.set_cons_succ])
            refine wpAnyH_ready (rs := [4, 16]) (by kernel_rfl) (by simp) ?_
            refine AllReadyH.cons rfl (fun K hK => ?_) ?_
            · go_simp
              refine hK.out _ _ ?_ (fun hHeld => ?_)
              · exact ⟨r0, r1⟩
              clear hK K
              (try dsimp only [Act.put, List.setIfInBounds_toArray, List.set_cons_zero, List.set_cons_succ])
              refine wpAnyH_ready (rs := [16]) (by kernel_rfl) (by simp) ?_
              refine AllReadyH.cons rfl (fun K hK => ?_) ?_
              · go_simp
                refine hK.out _ _ ?_ (fun hHeld => ?_)
                · exact ⟨cell_ext (ext_alloc _ _) r0, cell_ext (ext_alloc _ _) r1⟩
                clear hK K
                (try dsimp only [Act.put, List.setIfInBounds_toArray, List.set_cons_zero, List.set_cons_succ])
                refine wpAnyH_ready (rs := [17]) (by kernel_rfl) (by simp) ?_
                refine AllReadyH.cons rfl (fun K hK => ?_) ?_
                · refine step_append_lies _ rfl (.tmp 64) (.tmp 76) 97 rfl w1.heap.size 172 i0 _ 3 40 Tryz.underlying97 HI.out HI0.out HI1.out HI2.out rfl (by omega) v (rs ++ (ls.take i).map ruRw).length _ rfl (World.ownsRow.alloc HFd.out.own _) ⟨wr.heap.size, 0, none⟩ 1 1 [.int .i64 1, .int .i64 xh, .slice xA xb.length xc] rfl rfl (new_cells (wr.drewN 1) [.int .i64 1, .int .i64 xh, .slice xA xb.length xc] _ _ rfl) (by intro u hu; simp only [List.mem_cons, List.not_mem_nil, or_false] at hu; rcases hu with rfl | rfl | rfl <;> rfl) (by omega) (by have := HLn.out; simp only [maxLen]; omega) (by have := HLn.out; omega) (by simp; omega) _ rfl ?_
                  intro g5 c5 w5 hown1 hg1 _ _
                  have HP := Lib.hid (HFd.out.putR (r := ⟨1, xh, xb, xA, xc⟩) hg1 hown1 ⟨.inr ⟨trivial, HBd.out⟩, HLe.out⟩)
                  have a0 := hg1.cell (cell_ext (ext_alloc (wr.drewN 1) (.cells (List.toArray [.int .i64 1, .int .i64 xh, .slice xA xb.length xc]) 172)) (cell_ext (ext_drewN wr 1) r0)) HNb.out
                  have a1 := hg1.cell (cell_ext (ext_alloc (wr.drewN 1) (.cells (List.toArray [.int .i64 1, .int .i64 xh, .slice xA xb.length xc]) 172)) (cell_ext (ext_drewN wr 1) r1)) HNb.out
                  have z1 := HP.out.2.cell 1 rfl
                  have z2 := HP.out.2.free 1
                  clear hown1 hg1
                  refine hK.out _ _ ?_ (fun hHeld => ?_)
                  · exact ⟨a0, a1⟩
                  clear hK K
                  (try dsimp only [Act.put, List.setIfInBounds_toArray, List.set_cons_zero, List.set_cons_succ])
                  refine wpAnyH_take (i := 18) (v := ?_) rfl (by kernel_rfl) (by kernel_rfl) (by kernel_rfl) (fun _ _ _ h => h) (Or.inl ⟨by rfl, ?_⟩) (by assumption) ?_
                  rotate_left
                  · intro w hSw; (try dsimp only at hSw); go_simp; try with_reducible rfl
                  (try dsimp only [Act.put, List.setIfInBounds_toArray, List.set_cons_zero, List.set_cons_succ])
                  refine wpAnyH_take (i := 19) (v := ?_) rfl (by kernel_rfl) (by kernel_rfl) (by kernel_rfl) (fun _ _ _ h => h) (Or.inl ⟨by rfl, ?_⟩) (by assumption) ?_
                  rotate_left
                  · intro w hSw; (try dsimp only at hSw); go_simp; try with_reducible rfl
                  (try dsimp only [Act.put, List.setIfInBounds_toArray, List.set_cons_zero, List.set_cons_succ])
                  refine wpAnyH_ready (rs := [20]) (by kernel_rfl) (by simp) ?_
                  refine AllReadyH.cons rfl (fun K hK => ?_) ?_
                  · go_simp
                    refine hK.out _ _ ?_ (fun hHeld => ?_)
                    · exact ⟨cell_set_other a0 (show b' ≠ G from HbG2.out) _, cell_set_other a1 (show b' ≠ G from HbG2.out) _⟩
                    clear hK K
                    (try dsimp only [Act.put, List.setIfInBounds_toArray, List.set_cons_zero, List.set_cons_succ])
                    refine wpAnyH_done (by kernel_rfl) ?_ _
                    go_wp2_with fail
                    go_roundw
                    case rel =>
                      refine ⟨i + 1, .slice (some ⟨g5, 0, none⟩) (rs.length + i + 1) c5, by go_num, by omega, Lib.hid ?_⟩
                      rw [List.take_succ_eq_append_getElem hlt, List.map_append, ← List.append_assoc, ← HXi.out]
                      have h := HP.out.1
                      rw [HLn.out] at h
                      exact h
                    case measure => simp [intOf]; omega
                  exact AllReadyH.nil
                exact AllReadyH.nil
              exact AllReadyH.nil
            refine AllReadyH.cons rfl (fun K hK => ?_) ?_
            · go_simp
              refine hK.out _ _ ?_ (fun hHeld => ?_)
              · exact ⟨cell_ext (ext_alloc _ _) r0, cell_ext (ext_alloc _ _) r1⟩
              clear hK K
              (try dsimp only [Act.put, List.setIfInBounds_toArray, List.set_cons_zero, List.set_cons_succ])
              refine wpAnyH_ready (rs := [4]) (by kernel_rfl) (by simp) ?_
              refine AllReadyH.cons rfl (fun K hK => ?_) ?_
              · go_simp
                refine hK.out _ _ ?_ (fun hHeld => ?_)
                · exact ⟨cell_ext (ext_alloc _ _) r0, cell_ext (ext_alloc _ _) r1⟩
                clear hK K
                (try dsimp only [Act.put, List.setIfInBounds_toArray, List.set_cons_zero, List.set_cons_succ])
                refine wpAnyH_ready (rs := [17]) (by kernel_rfl) (by simp) ?_
                refine AllReadyH.cons rfl (fun K hK => ?_) ?_
                · refine step_append_lies _ rfl (.tmp 64) (.tmp 76) 97 rfl w1.heap.size 172 i0 _ 3 40 Tryz.underlying97 HI.out HI0.out HI1.out HI2.out rfl (by omega) v (rs ++ (ls.take i).map ruRw).length _ rfl (World.ownsRow.alloc HFd.out.own _) ⟨wr.heap.size, 0, none⟩ 1 1 [.int .i64 1, .int .i64 xh, .slice xA xb.length xc] rfl rfl (new_cells (wr.drewN 1) [.int .i64 1, .int .i64 xh, .slice xA xb.length xc] _ _ rfl) (by intro u hu; simp only [List.mem_cons, List.not_mem_nil, or_false] at hu; rcases hu with rfl | rfl | rfl <;> rfl) (by omega) (by have := HLn.out; simp only [maxLen]; omega) (by have := HLn.out; omega) (by simp; omega) _ rfl ?_
                  intro g5 c5 w5 hown1 hg1 _ _
                  have HP := Lib.hid (HFd.out.putR (r := ⟨1, xh, xb, xA, xc⟩) hg1 hown1 ⟨.inr ⟨trivial, HBd.out⟩, HLe.out⟩)
                  have a0 := hg1.cell (cell_ext (ext_alloc (wr.drewN 1) (.cells (List.toArray [.int .i64 1, .int .i64 xh, .slice xA xb.length xc]) 172)) (cell_ext (ext_drewN wr 1) r0)) HNb.out
                  have a1 := hg1.cell (cell_ext (ext_alloc (wr.drewN 1) (.cells (List.toArray [.int .i64 1, .int .i64 xh, .slice xA xb.length xc]) 172)) (cell_ext (ext_drewN wr 1) r1)) HNb.out
                  have z1 := HP.out.2.cell 1 rfl
                  have z2 := HP.out.2.free 1
                  clear hown1 hg1
                  refine hK.out _ _ ?_ (fun hHeld => ?_)
                  · exact ⟨a0, a1⟩
                  clear hK K
                  (try dsimp only [Act.put, List.setIfInBounds_toArray, List.set_cons_zero, List.set_cons_succ])
                  refine wpAnyH_take (i := 18) (v := ?_) rfl (by kernel_rfl) (by kernel_rfl) (by kernel_rfl) (fun _ _ _ h => h) (Or.inl ⟨by rfl, ?_⟩) (by assumption) ?_
                  rotate_left
                  · intro w hSw; (try dsimp only at hSw); go_simp; try with_reducible rfl
                  (try dsimp only [Act.put, List.setIfInBounds_toArray, List.set_cons_zero, List.set_cons_succ])
                  refine wpAnyH_take (i := 19) (v := ?_) rfl (by kernel_rfl) (by kernel_rfl) (by kernel_rfl) (fun _ _ _ h => h) (Or.inl ⟨by rfl, ?_⟩) (by assumption) ?_
                  rotate_left
                  · intro w hSw; (try dsimp only at hSw); go_simp; try with_reducible rfl
                  (try dsimp only [Act.put, List.setIfInBounds_toArray, List.set_cons_zero, List.set_cons_succ])
                  refine wpAnyH_ready (rs := [20]) (by kernel_rfl) (by simp) ?_
                  refine AllReadyH.cons rfl (fun K hK => ?_) ?_
                  · go_simp
                    refine hK.out _ _ ?_ (fun hHeld => ?_)
                    · exact ⟨cell_set_other a0 (show b' ≠ G from HbG2.out) _, cell_set_other a1 (show b' ≠ G from HbG2.out) _⟩
                    clear hK K
                    (try dsimp only [Act.put, List.setIfInBounds_toArray, List.set_cons_zero, List.set_cons_succ])
                    refine wpAnyH_done (by kernel_rfl) ?_ _
                    go_wp2_with fail
                    go_roundw
                    case rel =>
                      refine ⟨i + 1, .slice (some ⟨g5, 0, none⟩) (rs.length + i + 1) c5, by go_num, by omega, Lib.hid ?_⟩
                      rw [List.take_succ_eq_append_getElem hlt, List.map_append, ← List.append_assoc, ← HXi.out]
                      have h := HP.out.1
                      rw [HLn.out] at h
                      exact h
                    case measure => simp [intOf]; omega
                  exact AllReadyH.nil
                exact AllReadyH.nil
              exact AllReadyH.nil
            exact AllReadyH.nil
          · obtain rfl : ls.length = i := by omega
            have HF0 := Lib.hid (show Fo True 100 172 w1 wr G N v vO (rs ++ ls.map ruRw) ov by have := HF.out; rwa [List.take_length] at this)
            clear HF
            go_wp2_with fail
            go_loopw [10] (fun s10 wr => ∃ (i : Nat) (vP : Value), s10 = .int .i64 i ∧ i ≤ ls.length ∧ Hid (Fo True 100 172 w1 wr G N v vP (rs ++ ls.map ruRw) (ov ++ adds (rs.map Rw.rl) ls (ls.take i)))) (fun s10 _ => ls.length - (intOf s10).toNat)
            case atStart => exact ⟨0, vO, rfl, Nat.zero_le _, Lib.hid (by have := HF0.out; rwa [show ov ++ adds (rs.map Rw.rl) ls (ls.take 0) = ov from List.append_nil _])⟩
            case round =>
              clear HF0
              obtain ⟨i, vP, rfl, hi2, HF⟩ := hrel
              by_cases hlt : i < ls.length
              · have hltc : (i : Int) < (ls.length : Int) := by omega
                obtain ⟨x, hx⟩ : ∃ x, x = ls[i] := ⟨_, rfl⟩
                have HXi := Lib.hid hx
                clear hx
                obtain ⟨xh, xb, xr, xA, xc⟩ := x
                go_wp2_with fail
                go_loopw [11] (fun s11 wr => ∃ (k : Nat) (vP : Value), s11 = .int .i64 k ∧ k ≤ rs.length ∧ Hid (Fo True 100 172 w1 wr G N v vP (rs ++ ls.map ruRw) ((ov ++ adds (rs.map Rw.rl) ls (ls.take i)) ++ addR rs.length i xh ((rs.map Rw.rl).take k)))) (fun s11 _ => rs.length - (intOf s11).toNat)
                case atStart => exact ⟨0, vP, rfl, Nat.zero_le _, Lib.hid (by have := HF.out; rwa [show addR rs.length i xh ((rs.map Rw.rl).take 0) = [] from rfl, List.append_nil])⟩
                case round =>
                  clear HF
                  obtain ⟨k, vP, rfl, hk, HF⟩ := hrel
                  by_cases hlk : k < rs.length
                  · have hlkc : (k : Int) < (rs.length : Int) := by omega
                    have hTx := HT1.out.ext HF.out.below
                    have x1 := hTx.c1
                    obtain ⟨b2, o2, rfl, -, r1, -⟩ := hTx.rules.row hlk
                    obtain ⟨b3, o3, rfl, s0, -⟩ := ru_at (HL1.out.ext HF.out.below).rows hlt
                    rw [← HXi.out] at s0
                    simp only at s0
                    obtain ⟨r, hr⟩ : ∃ r, r = rs[k] := ⟨_, rfl⟩
                    rw [← hr] at r1
                    have HRk := Lib.hid hr
                    clear hr hTx
                    obtain ⟨rk, rh, rb, rA, rcc⟩ := r
                    simp only at r1
                    have HFq := Lib.hid fun n => HF.out.ext (ext_drewN wr n)
                    by_cases he : rh = wrap64 (-xh)
                    · have HE1 := Lib.hid he
                      have hbq : (rh == wrap64 (-xh)) = true := by simpa using he
                      have hbq2 : (rh == IntKind.i64.wrap (-xh)) = true := by rw [IntWalk.i64_left]; exact hbq
                      clear he
                      go_wp2_with fail
                      go_quiet (fail)
                      obtain ⟨wq, hwq⟩ : ∃ wq, wq = wr.drewN nq := ⟨_, rfl⟩
                      have HFw := Lib.hid (hwq ▸ HFq.out nq)
                      rw [← hwq]
                      clear hwq hbq hbq2 x1 r1 s0 HFq
                      obtain ⟨OV, hOV⟩ : ∃ OV, OV = (ov ++ adds (rs.map Rw.rl) ls (ls.take i)) ++ addR rs.length i xh ((rs.map Rw.rl).take k) := ⟨_, rfl⟩
                      have hol2 : OV.length ≤ 300000 := by
                        have h1 := adds_len (rs.map Rw.rl) ls ls (k := i) hi2
                        have h2 := addR_len rs.length i xh (rs.map Rw.rl) (k := k) (by simpa using hk)
                        rw [List.length_map] at h1
                        have h3 : (rs.length + ls.length) * i ≤ 245 * 125 := Nat.mul_le_mul (by omega) (by omega)
                        rw [hOV, List.length_append, List.length_append]
                        omega
                      rw [← hOV] at HFw
                      have HOV := Lib.hid hOV
                      have hs2 := HFw.out.bs
                      have z2 := HFw.out.blk.cell 2 rfl
                      clear hOV
                      go_wp2_with (at_builtin; refine wpList_append_own _ rfl _ _ _ rfl w1.heap.size 169 j0 _ 2 16 Tryz.underlying98 HJ.out HJ0.out HJ1.out HJ2.out rfl (by omega) vP OV.length _ rfl (World.ownsRow.alloc HFw.out.over _) ⟨wq.heap.size, 0, none⟩ 1 1 [.int .i64 (rs.length + i), .int .i64 k] rfl rfl (new_cells wq [.int .i64 (rs.length + i), .int .i64 k] _ _ rfl) (by intro u hu; simp only [List.mem_cons, List.not_mem_nil, or_false] at hu; rcases hu with rfl | rfl <;> rfl) (by simp only [maxLen]; omega) (by omega) (by simp; omega) ?_; intro v1 w5 hown1 hg1 _; obtain ⟨A5, c5, hv1, _⟩ := own_slice hown1; subst hv1; have HP := Lib.hid (HFw.out.putO (p := (rs.length + i, k)) hg1 hown1); have y1 := HP.out.2.cell 2 rfl; have y2 := HP.out.2.free 2; clear hown1 hg1)
                      go_roundw
                      case rel =>
                        refine ⟨k + 1, .slice A5 (OV.length + 1) c5, by go_num, by omega, Lib.hid ?_⟩
                        have h := addR_take (n := rs.length) (i := i) (h := xh) (rs := rs.map Rw.rl) (k := k) (by simpa using hlk)
                        rw [h, show onR rs.length i xh ((rs.map Rw.rl)[k]'(by simpa using hlk)) k = [((rs.length : Int) + i, (k : Int))] from ?_, ← List.append_assoc, ← HOV.out]
                        · exact HP.out.1
                        · unfold onR negW
                          rw [if_pos]
                          · simp
                          · rw [List.getElem_map, ← HRk.out]
                            exact HE1.out
                      case measure => simp [intOf]; omega
                    · have HE1 := Lib.hid he
                      have hbq : (rh == wrap64 (-xh)) = false := by simpa using he
                      have hbq2 : (rh == IntKind.i64.wrap (-xh)) = false := by rw [IntWalk.i64_left]; exact hbq
                      clear he
                      go_wp2_with fail
                      go_quiet (fail)
                      go_wp2_with fail
                      go_roundw
                      case rel =>
                        refine ⟨k + 1, vP, by go_num, by omega, Lib.hid ?_⟩
                        have h := addR_take (n := rs.length) (i := i) (h := xh) (rs := rs.map Rw.rl) (k := k) (by simpa using hlk)
                        rw [h, show onR rs.length i xh ((rs.map Rw.rl)[k]'(by simpa using hlk)) k = [] from ?_, List.append_nil]
                        · exact HFq.out nq
                        · unfold onR negW
                          rw [if_neg]
                          rw [List.getElem_map, ← HRk.out]
                          exact HE1.out
                      case measure => simp [intOf]; omega
                  · obtain rfl : rs.length = k := by omega
                    have HFa := Lib.hid (show Fo True 100 172 w1 wr G N v vP (rs ++ ls.map ruRw) ((ov ++ adds (rs.map Rw.rl) ls (ls.take i)) ++ addR rs.length i xh (rs.map Rw.rl)) by
                      have := HF.out
                      rwa [show (rs.map Rw.rl).take rs.length = rs.map Rw.rl from List.take_of_length_le (by simp)] at this)
                    clear HF
                    go_wp2_with fail
                    go_loopw [12] (fun s12 wr => ∃ (k : Nat) (vP : Value), s12 = .int .i64 k ∧ k ≤ ls.length ∧ Hid (Fo True 100 172 w1 wr G N v vP (rs ++ ls.map ruRw) (((ov ++ adds (rs.map Rw.rl) ls (ls.take i)) ++ addR rs.length i xh (rs.map Rw.rl)) ++ addL rs.length i ⟨xh, xb, xr, xA, xc⟩ (ls.take k)))) (fun s12 _ => ls.length - (intOf s12).toNat)
                    case atStart => exact ⟨0, vP, rfl, Nat.zero_le _, Lib.hid (by have := HFa.out; rwa [show addL rs.length i ⟨xh, xb, xr, xA, xc⟩ (ls.take 0) = [] from rfl, List.append_nil])⟩
                    case round =>
                      clear HFa
                      obtain ⟨k, vP, rfl, hk, HF⟩ := hrel
                      by_cases hlk : k < ls.length
                      · have hlkc : (k : Int) < (ls.length : Int) := by omega
                        have hLx := (HL1.out.ext HF.out.below).rows
                        obtain ⟨b3, o3, rfl, s0, -, s2⟩ := ru_at hLx hlt
                        obtain ⟨b4, o4, e4, t0, -, t2⟩ := ru_at hLx hlk
                        cases e4
                        rw [← HXi.out] at s0 s2
                        simp only at s0 s2
                        obtain ⟨y, hy⟩ : ∃ y, y = ls[k] := ⟨_, rfl⟩
                        rw [← hy] at t0 t2
                        have HYk := Lib.hid hy
                        clear hy hLx
                        obtain ⟨yh, yb, yr, yA, yc⟩ := y
                        simp only at t0 t2
                        go_upto_region 23 with fail
                        go_cut [13] (fun s13 wx => ∃ (q : Bool) (n : Nat), s13 = .bool q ∧ wx = wr.drewN n ∧ Hid (q = true ↔ (yr < xr ∨ (yr = xr ∧ k < i))))
                        case first =>
                          by_cases h2 : yr < xr
                          · have HQ := Lib.hid (show yr < xr ∨ (yr = xr ∧ k < i) from .inl h2)
                            have hd2 : decide (yr < xr) = true := by simpa using h2
                            go_quiet (fail)
                            go_wp2_with fail
                            go_meet
                            exact ⟨_, _, rfl, rfl, Lib.hid (iff_of_true rfl HQ.out)⟩
                          · have hd2 : decide (yr < xr) = false := by simpa using h2
                            by_cases h3 : yr = xr
                            · have q3 : (yr == xr) = true := by simpa using h3
                              by_cases h4 : k < i
                              · have HQ := Lib.hid (show yr < xr ∨ (yr = xr ∧ k < i) from .inr ⟨h3, h4⟩)
                                have hd4 : decide (k < i) = true := by simpa using h4
                                have hd5 : decide ((k : Int) < (i : Int)) = true := by simpa using h4
                                clear h3
                                go_quiet (fail)
                                go_wp2_with fail
                                go_meet
                                exact ⟨_, _, rfl, rfl, Lib.hid (iff_of_true rfl HQ.out)⟩
                              · have HQ := Lib.hid (show ¬ (yr < xr ∨ (yr = xr ∧ k < i)) from fun h => h.elim h2 fun h => h4 h.2)
                                have hd4 : decide (k < i) = false := by simpa using h4
                                have hd5 : decide ((k : Int) < (i : Int)) = false := by simpa using h4
                                clear h3
                                go_quiet (fail)
                                go_wp2_with fail
                                go_meet
                                exact ⟨_, _, rfl, rfl, Lib.hid (iff_of_false (by decide) HQ.out)⟩
                            · have q3 : (yr == xr) = false := by simpa using h3
                              have HQ := Lib.hid (show ¬ (yr < xr ∨ (yr = xr ∧ k < i)) from fun h => h.elim h2 fun h => h3 h.1)
                              clear h3
                              go_quiet (fail)
                              go_wp2_with fail
                              go_meet
                              exact ⟨_, _, rfl, rfl, Lib.hid (iff_of_false (by decide) HQ.out)⟩
                        case rest =>
                          obtain ⟨q, n1, rfl, hw1, HQ⟩ := hcut
                          have hx1 := ext_drewN wr n1
                          rw [← hw1] at hx1
                          have HF1 := Lib.hid (HF.out.ext hx1)
                          replace s0 := cell_ext hx1 s0
                          replace t0 := cell_ext hx1 t0
                          clear s2 t2 HF hx1 hw1
                          obtain ⟨W1, hW1⟩ : ∃ W1, W1 = wc := ⟨_, rfl⟩
                          rw [← hW1] at HF1 s0 t0 ⊢
                          clear hW1
                          go_upto_region 24 with fail
                          go_cut [169] (fun s169 wx => ∃ (q : Bool) (n : Nat), s169 = .bool q ∧ wx = W1.drewN n ∧ Hid (q = true ↔ Abo ⟨xh, xb, xr, xA, xc⟩ ⟨yh, yb, yr, yA, yc⟩ i k))
                          case first =>
                            by_cases he : yh = wrap64 (-xh)
                            · have HE1 := Lib.hid (show (q = true ↔ Abo ⟨xh, xb, xr, xA, xc⟩ ⟨yh, yb, yr, yA, yc⟩ i k) from HQ.out.trans ⟨fun h => ⟨he, h⟩, fun h => h.2⟩)
                              have hbq : (yh == wrap64 (-xh)) = true := by simpa using he
                              have hbq2 : (yh == IntKind.i64.wrap (-xh)) = true := by rw [IntWalk.i64_left]; exact hbq
                              clear he HQ
                              go_quiet (fail)
                              go_wp2_with fail
                              go_meet
                              exact ⟨_, _, rfl, rfl, HE1⟩
                            · have HE1 := Lib.hid (show ¬ Abo ⟨xh, xb, xr, xA, xc⟩ ⟨yh, yb, yr, yA, yc⟩ i k from fun h => he h.1)
                              have hbq : (yh == wrap64 (-xh)) = false := by simpa using he
                              have hbq2 : (yh == IntKind.i64.wrap (-xh)) = false := by rw [IntWalk.i64_left]; exact hbq
                              clear he HQ
                              go_quiet (fail)
                              go_wp2_with fail
                              go_meet
                              exact ⟨_, _, rfl, rfl, Lib.hid (iff_of_false (by decide) HE1.out)⟩
                          case rest =>
                            clear HQ
                            obtain ⟨q, n2, rfl, hw2, HQ⟩ := hcut
                            have hx2 := ext_drewN W1 n2
                            rw [← hw2] at hx2
                            have HF2 := Lib.hid (HF1.out.ext hx2)
                            clear s0 t0 HF1 hx2 hw2
                            obtain ⟨W2, hW2⟩ : ∃ W2, W2 = wc := ⟨_, rfl⟩
                            rw [← hW2] at HF2 ⊢
                            clear hW2
                            cases q with
                            | true =>
                              obtain ⟨OV, hOV⟩ : ∃ OV, OV = ((ov ++ adds (rs.map Rw.rl) ls (ls.take i)) ++ addR rs.length i xh (rs.map Rw.rl)) ++ addL rs.length i ⟨xh, xb, xr, xA, xc⟩ (ls.take k) := ⟨_, rfl⟩
                              have hol2 : OV.length ≤ 300000 := by
                                have h1 := adds_len (rs.map Rw.rl) ls ls (k := i) hi2
                                have h2 := addR_full rs.length i xh (rs.map Rw.rl)
                                have h4 := addL_len rs.length i ⟨xh, xb, xr, xA, xc⟩ ls (k := k) hk
                                rw [List.length_map] at h1 h2
                                have h3 : (rs.length + ls.length) * i ≤ 245 * 125 := Nat.mul_le_mul (by omega) (by omega)
                                rw [hOV, List.length_append, List.length_append, List.length_append]
                                omega
                              rw [← hOV] at HF2
                              have HOV := Lib.hid hOV
                              have hs2 := HF2.out.bs
                              have z2 := HF2.out.blk.cell 2 rfl
                              clear hOV
                              go_wp2_with (at_builtin; refine wpList_append_own _ rfl _ _ _ rfl w1.heap.size 169 j0 _ 2 16 Tryz.underlying98 HJ.out HJ0.out HJ1.out HJ2.out rfl (by omega) vP OV.length _ rfl (World.ownsRow.alloc HF2.out.over _) ⟨W2.heap.size, 0, none⟩ 1 1 [.int .i64 (rs.length + i), .int .i64 (rs.length + k)] rfl rfl (new_cells W2 [.int .i64 (rs.length + i), .int .i64 (rs.length + k)] _ _ rfl) (by intro u hu; simp only [List.mem_cons, List.not_mem_nil, or_false] at hu; rcases hu with rfl | rfl <;> rfl) (by simp only [maxLen]; omega) (by omega) (by simp; omega) ?_; intro v1 w5 hown1 hg1 _; obtain ⟨A5, c5, hv1, _⟩ := own_slice hown1; subst hv1; have HP := Lib.hid (HF2.out.putO (p := (rs.length + i, rs.length + k)) hg1 hown1); have y1 := HP.out.2.cell 2 rfl; have y2 := HP.out.2.free 2; clear hown1 hg1)
                              go_roundw
                              case rel =>
                                refine ⟨k + 1, .slice A5 (OV.length + 1) c5, by go_num, by omega, Lib.hid ?_⟩
                                rw [addL_take hlk, show onL rs.length i ⟨xh, xb, xr, xA, xc⟩ ls[k] k = [((rs.length : Int) + i, (rs.length : Int) + k)] from ?_, ← List.append_assoc, ← HOV.out]
                                · exact HP.out.1
                                · unfold onL
                                  rw [if_pos]
                                  · simp
                                  · rw [← HYk.out]
                                    exact HQ.out.1 rfl
                              case measure => simp [intOf]; omega
                            | false =>
                              go_wp2_with fail
                              go_roundw
                              case rel =>
                                refine ⟨k + 1, vP, by go_num, by omega, Lib.hid ?_⟩
                                rw [addL_take hlk, show onL rs.length i ⟨xh, xb, xr, xA, xc⟩ ls[k] k = [] from ?_, List.append_nil]
                                · exact HF2.out
                                · unfold onL
                                  rw [if_neg]
                                  rw [← HYk.out]
                                  exact fun h => absurd (HQ.out.2 h) (by decide)
                              case measure => simp [intOf]; omega
                      · obtain rfl : ls.length = k := by omega
                        have HFb := Lib.hid (show Fo True 100 172 w1 wr G N v vP (rs ++ ls.map ruRw) (ov ++ adds (rs.map Rw.rl) ls (ls.take (i + 1))) by
                          have := HF.out
                          rw [List.take_length] at this
                          rw [adds_take hlt, ← HXi.out, List.length_map, ← List.append_assoc, ← List.append_assoc]
                          exact this)
                        clear HF
                        go_wp2_with fail
                        go_roundw
                        case rel => exact ⟨i + 1, vP, by go_num, by omega, HFb.out⟩
                        case measure => simp [intOf]; omega
              · obtain rfl : ls.length = i := by omega
                have HFa := Lib.hid (show Fo True 100 172 w1 wr G N v vP (rs ++ ls.map ruRw) (ov ++ adds (rs.map Rw.rl) ls ls) by have := HF.out; rwa [List.take_length] at this)
                clear HF
                obtain ⟨A2, c2, rfl, _, _, _⟩ := own_sl HFa.out.own
                obtain ⟨O2, oc2, rfl, _, _, hon⟩ := own_sl HFa.out.over
                have HThA := Lib.hid (show ThA wr G 0 N (rs ++ ls.map ruRw) A2 c2 (ov ++ adds (rs.map Rw.rl) ls ls) O2 oc2 from
                  ⟨HFa.out.blk.cell 0 rfl, HFa.out.blk.cell 1 rfl, HFa.out.blk.cell 2 rfl, HFa.out.rws, HFa.out.rdo, hon, fun r hr => by
                    rcases List.mem_append.1 hr with hr | hr
                    · exact HT1.out.bnil r hr
                    · obtain ⟨x, hx, rfl⟩ := List.mem_map.1 hr
                      exact HLn0.out x hx, by rw [List.length_append, List.length_map]; omega, fun r hr => by
                    rcases List.mem_append.1 hr with hr | hr
                    · exact HT1.out.l2 r hr
                    · obtain ⟨x, hx, rfl⟩ := List.mem_map.1 hr
                      exact HLB.out x hx, by
                    have h1 := adds_len (rs.map Rw.rl) ls ls (k := ls.length) (Nat.le_refl _)
                    rw [List.length_map, List.take_length] at h1
                    have h3 : (rs.length + ls.length) * ls.length ≤ 245 * 125 := Nat.mul_le_mul (by omega) (by omega)
                    rw [List.length_append]
                    omega⟩)
                have HBf := Lib.hid (ext_trans HB1.out HFa.out.below)
                clear HFa
                go_wp2_with fail
                refine (vth_any G 0 N _ A2 c2 _ O2 oc2 _ HThA.out).mono ?_
                rintro e w7 ⟨cc, rfl, hc7, hb7⟩
                have HC7 := Lib.hid hc7
                have HB7 := Lib.hid hb7
                clear hc7 hb7
                go_wp2_with fail
                go_ret2
                exact ⟨ext_trans HBf.out HB7.out, 0, HC.out, .inr ⟨rfl, G, _, _, _, _, HThA.out.ext HB7.out, cc, HC7.out, rfl⟩⟩
  · have HP := Lib.hid hpos
    go_wp2_with fail
    go_ret2
    exact ⟨HB1.out, c1, HC.out, .inl ⟨HP.out, rfl⟩⟩
end Go.Proofs.YthokhiejlogpoaaGreatDoor.Cf

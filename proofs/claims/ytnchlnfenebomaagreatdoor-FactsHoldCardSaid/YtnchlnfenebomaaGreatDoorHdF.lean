/- The program's named sums, against the plain answer. The program's Sum, against the plain answer. -/
import Derived.Test.YtnchlnfenebomaaGreatDoorHdE
import Derived.Deep.RegionHeld3
namespace Go.Proofs.YtnchlnfenebomaaGreatDoor.Hd
open Go.RowKit Mem Nest Fk Coin Err Msi

theorem nil_func (w : World) : (binOp .neq 105 .nilFunc .nilFunc).run Tryz.prog w = .ok (.bool false) w := by kernel_rfl
def nameR (q : Ask) (who : Int) (s : List UInt8) : Int × Nat := if wordB s = true then (q.worth who s, 0) else (0, 9)
def cntR (q : Ask) (who : Int) (s : List UInt8) : Int × Nat := if wordB s = true then (((q.others who s).length : Int) * 100, 0) else (0, 9)
def totR (q : Ask) (who : Int) (s xk xs : List UInt8) (m : Nat) : Int × Nat := if wordB s = true ∧ xk = kName ∧ m = 0 ∧ wordB xs = true then goodF (totalF q s (q.others who xs)) else (0, 9)
set_option maxRecDepth 100000 in
set_option maxHeartbeats 2000000 in
theorem named_name {q : Ask} (hq : Okq q) (E : Nat → Addr) (fb : Nat) (who : Int) (X : Nat → Prop) (d : Nat) (s : List UInt8) (n : Int) (A : Option Addr) (c : Nat) (l : List Nd) (w : World) (hN : InW w X (d + 1) (.mk [110, 97, 109, 101] s n A c l)) (hLk : Lk E 149 q fb w) :
    Calls Tryz.prog 88 #[lkV fb who q.on q.kn, ndV (.mk [110, 97, 109, 101] s n A c l)] w (SPost E (nameR q who s) w) := by
  unfold ndV lkV
  have HWd := Lib.hid (fun w => pword_any s hN.2.2.1.2.2.2 w)
  have hnf := nil_func
  obtain ⟨bw, hbw⟩ : ∃ bw, wordB s = bw := ⟨_, rfl⟩
  rw [hbw] at HWd
  have HBw := Lib.hid hbw
  clear hbw
  cases bw with
  | false =>
    have HP := Lib.hid (show nameR q who s = (0, 9) by unfold nameR; rw [HBw.out]; rfl)
    have HN := Lib.hid hN
    have HLk := Lib.hid hLk
    obtain ⟨W, hW, hx, hbk, hbn⟩ := boxed w fb who q.on q.kn [110, 97, 109, 101] s n A c (l.length)
    have HX := Lib.hid hx
    have HBk := Lib.hid hbk
    have HBn := Lib.hid hbn
    have HNW := Lib.hid (hN.ext hx)
    have HL := Lib.hid (hLk.ext hx)
    have a0 := hbk.cell 0 rfl
    have a1 := hbk.cell 1 rfl
    have a2 := hbk.cell 2 rfl
    have a3 := hbk.cell 3 rfl
    have a4 := hbk.cell 4 rfl
    have a5 := hbk.cell 5 rfl
    have m0 := hbn.cell 0 rfl
    have m1 := hbn.cell 1 rfl
    have m2 := hbn.cell 2 rfl
    have m3 := hbn.cell 3 rfl
    clear hN hLk hx hbk hbn
    go_enter Tryz.func88, Tryz.ntmps88
    go_upto_region 1 with fail
    rw [show (w.alloc (.cells #[.pointer (some ⟨fb, 0, none⟩), .int .i64 who, .int .i64 q.on, .int .i64 q.kn, .nilFunc, .int .i64 4] 107)).alloc (.cells #[.string ⟨[110, 97, 109, 101].toArray⟩, .string ⟨s.toArray⟩, .int .i64 n, .slice A l.length c] 44) = W from hW.symm]
    clear hW
    go_wp2_with fail
    refine (HWd.out _).mono ?_
    rintro e w1 ⟨rfl, rfl⟩
    have hk8 := HL.out.er.v8
    unfold sentV at hk8
    go_wp2_with fail
    go_quiet (fail)
    go_wp2_with fail
    go_ret2
    exact ⟨by rw [HP.out]; rfl, ext_trans HX.out (ext_drewN _ _)⟩
  | true =>
    have HP := Lib.hid (show nameR q who s = (q.worth who s, 0) by unfold nameR; rw [HBw.out]; rfl)
    have HN := Lib.hid hN
    have HLk := Lib.hid hLk
    obtain ⟨W, hW, hx, hbk, hbn⟩ := boxed w fb who q.on q.kn [110, 97, 109, 101] s n A c (l.length)
    have HX := Lib.hid hx
    have HBk := Lib.hid hbk
    have HBn := Lib.hid hbn
    have HNW := Lib.hid (hN.ext hx)
    have HL := Lib.hid (hLk.ext hx)
    have a0 := hbk.cell 0 rfl
    have a1 := hbk.cell 1 rfl
    have a2 := hbk.cell 2 rfl
    have a3 := hbk.cell 3 rfl
    have a4 := hbk.cell 4 rfl
    have a5 := hbk.cell 5 rfl
    have m0 := hbn.cell 0 rfl
    have m1 := hbn.cell 1 rfl
    have m2 := hbn.cell 2 rfl
    have m3 := hbn.cell 3 rfl
    clear hN hLk hx hbk hbn
    go_enter Tryz.func88, Tryz.ntmps88
    go_upto_region 1 with fail
    rw [show (w.alloc (.cells #[.pointer (some ⟨fb, 0, none⟩), .int .i64 who, .int .i64 q.on, .int .i64 q.kn, .nilFunc, .int .i64 4] 107)).alloc (.cells #[.string ⟨[110, 97, 109, 101].toArray⟩, .string ⟨s.toArray⟩, .int .i64 n, .slice A l.length c] 44) = W from hW.symm]
    clear hW
    go_wp2_with fail
    refine (HWd.out _).mono ?_
    rintro e w1 ⟨rfl, rfl⟩
    obtain ⟨FA, fc, hf⟩ := HL.out.fr
    have HV := Lib.hid (pvalue_any q.l hq.len hq.oks fb FA fc who s q.on q.kn W hf)
    clear hf
    go_wp2_with fail
    refine HV.out.mono ?_
    rintro e w1 ⟨rfl, hb⟩
    have HB := Lib.hid hb
    clear hb
    obtain ⟨vz, hvz⟩ : ∃ vz, (valF (bestF who s q.on q.kn (-1) q.l)).1 = vz := ⟨_, rfl⟩
    rw [hvz]
    have HVz := Lib.hid (show q.worth who s = vz from hvz)
    clear hvz HV
    go_wp2_with fail
    go_ret2
    exact ⟨by rw [HP.out, HVz.out]; rfl, ext_trans HX.out HB.out⟩
set_option maxRecDepth 100000 in
set_option maxHeartbeats 2000000 in
theorem named_count {q : Ask} (hq : Okq q) (E : Nat → Addr) (fb : Nat) (who : Int) (X : Nat → Prop) (d : Nat) (s : List UInt8) (n : Int) (A : Option Addr) (c : Nat) (l : List Nd) (w : World) (hN : InW w X (d + 1) (.mk [99, 111, 117, 110, 116] s n A c l)) (hLk : Lk E 149 q fb w) :
    Calls Tryz.prog 88 #[lkV fb who q.on q.kn, ndV (.mk [99, 111, 117, 110, 116] s n A c l)] w (SPost E (cntR q who s) w) := by
  unfold ndV lkV
  have HWd := Lib.hid (fun w => pword_any s hN.2.2.1.2.2.2 w)
  have hnf := nil_func
  obtain ⟨bw, hbw⟩ : ∃ bw, wordB s = bw := ⟨_, rfl⟩
  rw [hbw] at HWd
  have HBw := Lib.hid hbw
  clear hbw
  cases bw with
  | false =>
    have HP := Lib.hid (show cntR q who s = (0, 9) by unfold cntR; rw [HBw.out]; rfl)
    have HN := Lib.hid hN
    have HLk := Lib.hid hLk
    obtain ⟨W, hW, hx, hbk, hbn⟩ := boxed w fb who q.on q.kn [99, 111, 117, 110, 116] s n A c (l.length)
    have HX := Lib.hid hx
    have HBk := Lib.hid hbk
    have HBn := Lib.hid hbn
    have HNW := Lib.hid (hN.ext hx)
    have HL := Lib.hid (hLk.ext hx)
    have a0 := hbk.cell 0 rfl
    have a1 := hbk.cell 1 rfl
    have a2 := hbk.cell 2 rfl
    have a3 := hbk.cell 3 rfl
    have a4 := hbk.cell 4 rfl
    have a5 := hbk.cell 5 rfl
    have m0 := hbn.cell 0 rfl
    have m1 := hbn.cell 1 rfl
    have m2 := hbn.cell 2 rfl
    have m3 := hbn.cell 3 rfl
    clear hN hLk hx hbk hbn
    go_enter Tryz.func88, Tryz.ntmps88
    go_upto_region 1 with fail
    rw [show (w.alloc (.cells #[.pointer (some ⟨fb, 0, none⟩), .int .i64 who, .int .i64 q.on, .int .i64 q.kn, .nilFunc, .int .i64 4] 107)).alloc (.cells #[.string ⟨[99, 111, 117, 110, 116].toArray⟩, .string ⟨s.toArray⟩, .int .i64 n, .slice A l.length c] 44) = W from hW.symm]
    clear hW
    go_wp2_with fail
    refine (HWd.out _).mono ?_
    rintro e w1 ⟨rfl, rfl⟩
    have hk8 := HL.out.er.v8
    unfold sentV at hk8
    go_wp2_with fail
    go_quiet (fail)
    go_wp2_with fail
    go_ret2
    exact ⟨by rw [HP.out]; rfl, ext_trans HX.out (ext_drewN _ _)⟩
  | true =>
    have HP := Lib.hid (show cntR q who s = (((q.others who s).length : Int) * 100, 0) by unfold cntR; rw [HBw.out]; rfl)
    have HN := Lib.hid hN
    have HLk := Lib.hid hLk
    obtain ⟨W, hW, hx, hbk, hbn⟩ := boxed w fb who q.on q.kn [99, 111, 117, 110, 116] s n A c (l.length)
    have HX := Lib.hid hx
    have HBk := Lib.hid hbk
    have HBn := Lib.hid hbn
    have HNW := Lib.hid (hN.ext hx)
    have HL := Lib.hid (hLk.ext hx)
    have a0 := hbk.cell 0 rfl
    have a1 := hbk.cell 1 rfl
    have a2 := hbk.cell 2 rfl
    have a3 := hbk.cell 3 rfl
    have a4 := hbk.cell 4 rfl
    have a5 := hbk.cell 5 rfl
    have m0 := hbn.cell 0 rfl
    have m1 := hbn.cell 1 rfl
    have m2 := hbn.cell 2 rfl
    have m3 := hbn.cell 3 rfl
    clear hN hLk hx hbk hbn
    go_enter Tryz.func88, Tryz.ntmps88
    go_upto_region 1 with fail
    rw [show (w.alloc (.cells #[.pointer (some ⟨fb, 0, none⟩), .int .i64 who, .int .i64 q.on, .int .i64 q.kn, .nilFunc, .int .i64 4] 107)).alloc (.cells #[.string ⟨[99, 111, 117, 110, 116].toArray⟩, .string ⟨s.toArray⟩, .int .i64 n, .slice A l.length c] 44) = W from hW.symm]
    clear hW
    go_wp2_with fail
    refine (HWd.out _).mono ?_
    rintro e w1 ⟨rfl, rfl⟩
    obtain ⟨FA, fc, hf⟩ := HL.out.fr
    have HV := Lib.hid (pothers_any q.l hq.len hq.oks hq.kept fb FA fc who s q.on q.kn W hf)
    clear hf
    have hol := others_len q who s
    obtain ⟨os, hos⟩ : ∃ os, q.others who s = os := ⟨_, rfl⟩
    rw [hos] at hol HP
    rw [show othersF who s q.on q.kn q.l = os from hos] at HV
    clear hos
    go_wp2_with fail
    refine HV.out.mono ?_
    rintro e w1 ⟨OA, oc, rfl, hs, hb⟩
    have HB := Lib.hid hb
    clear hb hs HV
    go_wp2_with fail
    go_ret2
    exact ⟨by rw [HP.out, Int.mul_comm]; rfl, ext_trans HX.out HB.out⟩
set_option maxRecDepth 100000 in
set_option maxHeartbeats 2000000 in
theorem named_total {q : Ask} (hq : Okq q) (E : Nat → Addr) (fb : Nat) (who : Int) (X : Nat → Prop) (d : Nat) (s : List UInt8) (n : Int) (A : Option Addr) (c : Nat) (xk xs : List UInt8) (xn : Int) (xA : Option Addr) (xc : Nat) (xl : List Nd) (w : World) (hN : InW w X (d + 1 + 1) (.mk [116, 111, 116, 97, 108] s n A c [.mk xk xs xn xA xc xl])) (hLk : Lk E 149 q fb w) :
    Calls Tryz.prog 88 #[lkV fb who q.on q.kn, ndV (.mk [116, 111, 116, 97, 108] s n A c [.mk xk xs xn xA xc xl])] w (SPost E (totR q who s xk xs xl.length) w) := by
  unfold ndV lkV
  have HWd := Lib.hid (fun w => pword_any s hN.2.2.1.2.2.2 w)
  have hnf := nil_func
  obtain ⟨m, hm⟩ : ∃ m, xl.length = m := ⟨_, rfl⟩
  rw [hm]
  have HM := Lib.hid hm
  clear hm
  obtain ⟨bw, hbw⟩ : ∃ bw, wordB s = bw := ⟨_, rfl⟩
  rw [hbw] at HWd
  have HBw := Lib.hid hbw
  clear hbw
  cases bw with
  | false =>
    have HP := Lib.hid (show (totR q who s xk xs m : Int × Nat) = (0, 9) by unfold totR; rw [if_neg]; rw [HBw.out]; simp)
    have HN := Lib.hid hN
    have HLk := Lib.hid hLk
    obtain ⟨W, hW, hx, hbk, hbn⟩ := boxed w fb who q.on q.kn [116, 111, 116, 97, 108] s n A c (1)
    have HX := Lib.hid hx
    have HBk := Lib.hid hbk
    have HBn := Lib.hid hbn
    have HNW := Lib.hid (hN.ext hx)
    have HL := Lib.hid (hLk.ext hx)
    have a0 := hbk.cell 0 rfl
    have a1 := hbk.cell 1 rfl
    have a2 := hbk.cell 2 rfl
    have a3 := hbk.cell 3 rfl
    have a4 := hbk.cell 4 rfl
    have a5 := hbk.cell 5 rfl
    have m0 := hbn.cell 0 rfl
    have m1 := hbn.cell 1 rfl
    have m2 := hbn.cell 2 rfl
    have m3 := hbn.cell 3 rfl
    clear hN hLk hx hbk hbn
    go_enter Tryz.func88, Tryz.ntmps88
    go_upto_region 1 with fail
    rw [show (w.alloc (.cells #[.pointer (some ⟨fb, 0, none⟩), .int .i64 who, .int .i64 q.on, .int .i64 q.kn, .nilFunc, .int .i64 4] 107)).alloc (.cells #[.string ⟨[116, 111, 116, 97, 108].toArray⟩, .string ⟨s.toArray⟩, .int .i64 n, .slice A 1 c] 44) = W from hW.symm]
    clear hW
    go_wp2_with fail
    refine (HWd.out _).mono ?_
    rintro e w1 ⟨rfl, rfl⟩
    have hk8 := HL.out.er.v8
    unfold sentV at hk8
    go_wp2_with fail
    go_quiet (fail)
    go_wp2_with fail
    go_ret2
    exact ⟨by rw [HP.out]; rfl, ext_trans HX.out (ext_drewN _ _)⟩
  | true =>
    have HN := Lib.hid hN
    have HLk := Lib.hid hLk
    obtain ⟨W, hW, hx, hbk, hbn⟩ := boxed w fb who q.on q.kn [116, 111, 116, 97, 108] s n A c (1)
    have HX := Lib.hid hx
    have HBk := Lib.hid hbk
    have HBn := Lib.hid hbn
    have HNW := Lib.hid (hN.ext hx)
    have HL := Lib.hid (hLk.ext hx)
    have a0 := hbk.cell 0 rfl
    have a1 := hbk.cell 1 rfl
    have a2 := hbk.cell 2 rfl
    have a3 := hbk.cell 3 rfl
    have a4 := hbk.cell 4 rfl
    have a5 := hbk.cell 5 rfl
    have m0 := hbn.cell 0 rfl
    have m1 := hbn.cell 1 rfl
    have m2 := hbn.cell 2 rfl
    have m3 := hbn.cell 3 rfl
    clear hN hLk hx hbk hbn
    go_enter Tryz.func88, Tryz.ntmps88
    go_upto_region 1 with fail
    rw [show (w.alloc (.cells #[.pointer (some ⟨fb, 0, none⟩), .int .i64 who, .int .i64 q.on, .int .i64 q.kn, .nilFunc, .int .i64 4] 107)).alloc (.cells #[.string ⟨[116, 111, 116, 97, 108].toArray⟩, .string ⟨s.toArray⟩, .int .i64 n, .slice A 1 c] 44) = W from hW.symm]
    clear hW
    obtain ⟨b', o', hA, t0, t1, t2, t3, hk⟩ := HNW.out.kid (i := 0) (by simp)
    obtain rfl : A = some ⟨b', o', none⟩ := hA
    simp only [List.getElem_cons_zero, Nd.kind, Nd.word, Nd.n, Nd.A, Nd.c, Nd.kids, Nat.zero_mul, Nat.add_zero] at t0 t1 t2 t3
    rw [HM.out] at t3
    have HWx := Lib.hid (fun w => pword_any xs hk.2.2.1.2.2.2 w)
    have hxl : m ≤ 9223372036854775807 := by
      rw [← HM.out]
      have h1 := hk.2.2.1.1
      have h2 := hk.2.2.1.2.1
      unfold maxLen at h2
      omega
    have bz := Blk.new W 44 [.string ⟨xk.toArray⟩, .string ⟨xs.toArray⟩, .int .i64 xn, .slice xA m xc]
    have hz := ext_alloc W (.cells (List.toArray [.string ⟨xk.toArray⟩, .string ⟨xs.toArray⟩, .int .i64 xn, .slice xA m xc]) 44)
    obtain ⟨Z, hZ⟩ : ∃ Z, Z = W.alloc (.cells (List.toArray [.string ⟨xk.toArray⟩, .string ⟨xs.toArray⟩, .int .i64 xn, .slice xA m xc]) 44) := ⟨_, rfl⟩
    obtain ⟨K, hK⟩ : ∃ K, K = W.heap.size := ⟨_, rfl⟩
    rw [← hZ] at bz hz
    rw [← hK] at bz
    clear hk
    go_wp2_with fail
    refine (HWd.out _).mono ?_
    rintro e w1 ⟨rfl, rfl⟩
    go_upto_region 14 with fail
    rw [show W.alloc (.cells #[.string ⟨xk.toArray⟩, .string ⟨xs.toArray⟩, .int .i64 xn, .slice xA m xc] 44) = Z from hZ.symm, ← hK]
    clear hZ hK a0 a1 a2 a3 a4 a5 m0 m1 m2 m3 t0 t1 t2 t3
    have HZ := Lib.hid hz
    have HBz := Lib.hid bz
    have HLz := Lib.hid (HL.out.ext hz)
    have z0 := bz.cell 0 rfl
    have z1 := bz.cell 1 rfl
    have z3 := bz.cell 3 rfl
    clear bz
    have p0 := cell_ext hz (HBk.out.cell 0 rfl)
    have p1 := cell_ext hz (HBk.out.cell 1 rfl)
    have p2 := cell_ext hz (HBk.out.cell 2 rfl)
    have p3 := cell_ext hz (HBk.out.cell 3 rfl)
    have p4 := cell_ext hz (HBk.out.cell 4 rfl)
    have p5 := cell_ext hz (HBk.out.cell 5 rfl)
    have r0 := cell_ext hz (HBn.out.cell 0 rfl)
    have r1 := cell_ext hz (HBn.out.cell 1 rfl)
    have r2 := cell_ext hz (HBn.out.cell 2 rfl)
    have r3 := cell_ext hz (HBn.out.cell 3 rfl)
    clear hz
    by_cases h1 : xk = [110, 97, 109, 101]
    · have hk1 : (xk == [110, 97, 109, 101]) = true := by simpa using h1
      have hk2 : (xk != [110, 97, 109, 101]) = false := by simpa using h1
      have H1 := Lib.hid h1
      clear h1
      by_cases h2 : m = 0
      · have h2c : ¬ (0 : Int) < (m : Int) := by omega
        have H2 := Lib.hid h2
        clear h2
        obtain ⟨bx, hbx⟩ : ∃ bx, wordB xs = bx := ⟨_, rfl⟩
        rw [hbx] at HWx
        have HBx := Lib.hid hbx
        clear hbx
        cases bx with
        | false =>
          have HP := Lib.hid (show (totR q who s xk xs m : Int × Nat) = (0, 9) by unfold totR; rw [if_neg]; exact fun h => by rw [HBx.out] at h; exact absurd h.2.2.2 (by decide))
          have hk8 := HLz.out.er.v8
          unfold sentV at hk8
          go_wp2_with fail
          refine (HWx.out _).mono ?_
          rintro e w1 ⟨rfl, rfl⟩
          go_wp2_with fail
          go_quiet (fail)
          go_wp2_with fail
          go_ret2
          exact ⟨by rw [HP.out]; rfl, ext_trans (ext_trans HX.out HZ.out) (ext_drewN _ _)⟩
        | true =>
          have HP := Lib.hid (show (totR q who s xk xs m : Int × Nat) = goodF (totalF q s (q.others who xs)) by unfold totR; rw [if_pos ⟨HBw.out, H1.out, H2.out, HBx.out⟩])
          obtain ⟨FA, fc, hf⟩ := HLz.out.fr
          have HV := Lib.hid (pothers_any q.l hq.len hq.oks hq.kept fb FA fc who xs q.on q.kn Z hf)
          clear hf
          have hol := others_len q who xs
          obtain ⟨os, hos⟩ : ∃ os, q.others who xs = os := ⟨_, rfl⟩
          rw [hos] at hol HP
          rw [show othersF who xs q.on q.kn q.l = os from hos] at HV
          clear hos
          go_wp2_with fail
          refine (HWx.out _).mono ?_
          rintro e w1 ⟨rfl, rfl⟩
          go_wp2_with fail
          refine HV.out.mono ?_
          rintro e w1 ⟨OA, oc, rfl, hs, hb⟩
          have HB := Lib.hid (ext_trans HZ.out hb)
          have HS := Lib.hid hs
          clear hb hs HV z0 z1 z3 p0 p1 p2 p3 p4 p5 r0 r1 r2 r3
          go_wp2_with fail
          go_loopw [12, 103] (fun t12 t103 wr => ∃ (i : Nat) (z : Int), t12 = .int .i64 z ∧ t103 = .int .i64 i ∧ i ≤ os.length ∧ Hid (Below w1.heap.size w1 wr) ∧ Hid (z = totalF q s (os.take i))) (fun _ t103 _ => os.length - (intOf t103).toNat)
          case atStart => exact ⟨0, 0, rfl, rfl, Nat.zero_le _, Below.refl _ _, rfl⟩
          case round =>
            obtain ⟨i, z, rfl, rfl, hi, HBr, HT⟩ := hrel
            have HBW := Lib.hid (HB.out.trans (HBr.out.mono HB.out.size))
            have htb := total_bd hq s (os.take i)
            rw [← HT.out, List.length_take, Nat.min_eq_left hi] at htb
            obtain ⟨hz1, hz2⟩ : -40000000000000 ≤ z ∧ z ≤ 40000000000000 := by omega
            clear htb
            by_cases hlt : i < os.length
            · have hltc : (i : Int) < (os.length : Int) := by omega
              obtain ⟨ob, oo, rfl, u0⟩ := (HS.out.ext HBr.out).rd.int hlt
              have hwb := worth_bd hq os[i] s
              have HT2 := Lib.hid (show totalF q s (os.take (i + 1)) = totalF q s (os.take i) + q.worth os[i] s by
                unfold totalF
                rw [List.take_succ_eq_append_getElem hlt, List.map_append, List.sum_append]
                simp)
              obtain ⟨FA2, fc2, hf⟩ := (HL.out.ext HBW.out).fr
              have HV := Lib.hid (pvalue_any q.l hq.len hq.oks fb FA2 fc2 os[i] s q.on q.kn wr hf)
              generalize os[i] = ox at u0 hwb HT2 HV
              obtain ⟨vz, hvz⟩ : ∃ vz, (valF (bestF ox s q.on q.kn (-1) q.l)).1 = vz := ⟨_, rfl⟩
              have HVz := Lib.hid (show q.worth ox s = vz from hvz)
              have HVe := Lib.hid hvz
              rw [show q.worth ox s = vz from hvz] at hwb
              clear hf hvz
              have p0 := cell_ext HBW.out (HBk.out.cell 0 rfl)
              have p1 := cell_ext HBW.out (HBk.out.cell 1 rfl)
              have p2 := cell_ext HBW.out (HBk.out.cell 2 rfl)
              have p3 := cell_ext HBW.out (HBk.out.cell 3 rfl)
              have p4 := cell_ext HBW.out (HBk.out.cell 4 rfl)
              have p5 := cell_ext HBW.out (HBk.out.cell 5 rfl)
              have r0 := cell_ext HBW.out (HBn.out.cell 0 rfl)
              have r1 := cell_ext HBW.out (HBn.out.cell 1 rfl)
              have r2 := cell_ext HBW.out (HBn.out.cell 2 rfl)
              have r3 := cell_ext HBW.out (HBn.out.cell 3 rfl)
              go_wp2_with fail
              refine HV.out.mono ?_
              rintro e w2 ⟨rfl, hb⟩
              have HB2 := Lib.hid (HBr.out.trans (hb.mono HBr.out.size))
              rw [HVe.out]
              clear hb HV p0 p1 p2 p3 p4 p5 r0 r1 r2 r3
              go_wp2_with fail
              go_roundw
              case rel => exact ⟨i + 1, z + vz, by go_num, by go_num, by omega, HB2.out, by show z + vz = _; rw [HT2.out, HT.out, HVz.out]⟩
              case measure => simp [intOf]; omega
            · obtain rfl : os.length = i := by omega
              have hlc : ¬ (os.length : Int) < (os.length : Int) := by omega
              have HTa := Lib.hid (show z = totalF q s os by have := HT.out; rwa [List.take_length] at this)
              go_wp2_with fail
              refine (pgood_any E z wr (HL.out.ext HBW.out).er).mono ?_
              rintro e w2 ⟨rfl, hb⟩
              have HB2 := Lib.hid (HBW.out.trans (hb.mono HBW.out.size))
              have HP2 := Lib.hid (show (totR q who s xk xs m : Int × Nat) = goodF z by rw [HP.out, HTa.out])
              clear hb
              rcases sum_cases E (good_ok z) with ⟨_, e2⟩ | ⟨_, a, e2⟩
              all_goals
                have HE2 := Lib.hid e2
                rw [e2]
                clear e2
                generalize hgz : (goodF z).1 = gz
                have HGz := Lib.hid hgz
                clear hgz
                go_wp2_with fail
                go_ret2
                exact ⟨by rw [HP2.out, HE2.out, HGz.out] <;> rfl, ext_trans HX.out HB2.out⟩
      · have h2c : (0 : Int) < (m : Int) := by omega
        have HP := Lib.hid (show (totR q who s xk xs m : Int × Nat) = (0, 9) by unfold totR; rw [if_neg]; exact fun h => h2 h.2.2.1)
        have hk8 := HLz.out.er.v8
        unfold sentV at hk8
        clear h2
        go_wp2_with fail
        go_quiet (fail)
        go_wp2_with fail
        go_ret2
        exact ⟨by rw [HP.out]; rfl, ext_trans (ext_trans HX.out HZ.out) (ext_drewN _ _)⟩
    · have hk1 : (xk == [110, 97, 109, 101]) = false := by simpa using h1
      have hk2 : (xk != [110, 97, 109, 101]) = true := by simpa using h1
      have HP := Lib.hid (show (totR q who s xk xs m : Int × Nat) = (0, 9) by unfold totR; rw [if_neg]; exact fun h => h1 h.2.1)
      have hk8 := HLz.out.er.v8
      unfold sentV at hk8
      clear h1
      go_wp2_with fail
      go_quiet (fail)
      go_wp2_with fail
      go_ret2
      exact ⟨by rw [HP.out]; rfl, ext_trans (ext_trans HX.out HZ.out) (ext_drewN _ _)⟩
end Go.Proofs.YtnchlnfenebomaaGreatDoor.Hd
namespace Go.Proofs.YtnchlnfenebomaaGreatDoor.Hd
open Go.RowKit Mem Nest Fk Coin Err Msi

def IHS (q : Ask) (E : Nat → Addr) (fb : Nat) (X : Nat → Prop) (d : Nat) : Prop := ∀ (x : Nd) (who : Int) (w : World), InW w X d x → Lk E 149 q fb w → Calls Tryz.prog 48 #[lkV fb who q.on q.kn, ndV x] w (SPost E (evS d q x who) w)
theorem kids_which {k : List UInt8} {v : Int} (h : kidsG k = some v) : (v = 0 ∧ (k = kNumber ∨ k = kName ∨ k = kCount)) ∨ (v = 1 ∧ (k = kTotal ∨ k = [42])) ∨ (v = 2 ∧ (k = [43] ∨ k = [45] ∨ k = kMax ∨ k = kMin)) := by
  unfold kidsG at h
  repeat' split at h
  all_goals simp_all
theorem evS_bad {d : Nat} {q : Ask} {k s : List UInt8} {n : Int} {A : Option Addr} {c : Nat} {l : List Nd} {who : Int} (h : kidsG k ≠ some (l.length : Int)) : evS (d + 1) q (.mk k s n A c l) who = (0, 9) := by
  unfold evS
  by_cases h1 : k = kNumber
  · rw [if_pos h1, if_neg]
    rintro ⟨e, _⟩
    exact h (by rw [h1, e]; rfl)
  rw [if_neg h1]
  by_cases h2 : k = kName
  · rw [if_pos h2, if_neg]
    rintro ⟨e, _⟩
    exact h (by rw [h2, e]; rfl)
  rw [if_neg h2]
  by_cases h3 : k = kCount
  · rw [if_pos h3, if_neg]
    rintro ⟨e, _⟩
    exact h (by rw [h3, e]; rfl)
  rw [if_neg h3]
  by_cases h4 : k = kTotal
  · rw [if_pos h4]
    match l, h with
    | [], _ => rfl
    | [x], h => exact absurd (by rw [h4]; rfl) h
    | _ :: _ :: _, _ => rfl
  rw [if_neg h4]
  by_cases h5 : k = [42]
  · rw [if_pos h5]
    match l, h with
    | [], _ => rfl
    | [x], h => exact absurd (by rw [h5]; rfl) h
    | _ :: _ :: _, _ => rfl
  rw [if_neg h5]
  match l, h with
  | [], _ => rfl
  | [x], _ => rfl
  | [x, y], h =>
    simp only
    rw [if_neg (fun e => h (by rw [e]; rfl)), if_neg (fun e => h (by rw [e]; rfl)), if_neg (fun e => h (by rw [e]; rfl)), if_neg (fun e => h (by rw [e]; rfl))]
  | _ :: _ :: _ :: _, _ => rfl
set_option maxRecDepth 100000 in
set_option maxHeartbeats 8000000 in
theorem sum0 {q : Ask} (hq : Okq q) (E : Nat → Addr) (fb : Nat) (who : Int) (X : Nat → Prop) (d : Nat) (IH : IHS q E fb X d) (k s : List UInt8) (n : Int) (A : Option Addr) (c : Nat)  (w : World) (hN : InW w X (d + 1) (.mk k s n A c [])) (hLk : Lk E 149 q fb w) :
    Calls Tryz.prog 48 #[lkV fb who q.on q.kn, ndV (.mk k s n A c [])] w (SPost E (evS (d + 1) q (.mk k s n A c []) who) w) := by
    unfold ndV lkV
    have HIH := Lib.hid IH
    clear IH
    have HN := Lib.hid hN
    have HKl := Lib.hid hN.2.2.1.2.2.1
    have HLk := Lib.hid hLk
    obtain ⟨W, hW, hx, hbk, hbn⟩ := boxed w fb who q.on q.kn k s n A c (0)
    have HX := Lib.hid hx
    have HBk := Lib.hid hbk
    have HBn := Lib.hid hbn
    have HNW := Lib.hid (hN.ext hx)
    have HL := Lib.hid (hLk.ext hx)
    have a0 := hbk.cell 0 rfl
    have a1 := hbk.cell 1 rfl
    have a2 := hbk.cell 2 rfl
    have a3 := hbk.cell 3 rfl
    have a4 := hbk.cell 4 rfl
    have a5 := hbk.cell 5 rfl
    have m0 := hbn.cell 0 rfl
    have m1 := hbn.cell 1 rfl
    have m2 := hbn.cell 2 rfl
    have m3 := hbn.cell 3 rfl
    clear hN hLk hx hbk hbn
    go_enter Tryz.func48, Tryz.ntmps48
    go_upto_region 1 with fail
    rw [show (w.alloc (.cells #[.pointer (some ⟨fb, 0, none⟩), .int .i64 who, .int .i64 q.on, .int .i64 q.kn, .nilFunc, .int .i64 4] 107)).alloc (.cells #[.string ⟨k.toArray⟩, .string ⟨s.toArray⟩, .int .i64 n, .slice A 0 c] 44) = W from hW.symm]
    clear hW
    have hmm := @run_makeMap Tryz.prog
    have HS := Lib.hid (SI.made W)
    have HBm := Lib.hid (ext_alloc W (.map #[] 0))
    go_upto_region 2 with (refine wpList_ins _ rfl _ _ _ rfl _ _ _ rfl HS.out (by simp [maxLen]) _ _ rfl rfl (by simp) ?_; intro wm hs hg; replace HBm := Lib.hid (HBm.out.grown hg HBm.out.size (fun g hg' => by cases hg'; exact Nat.le_refl _)); replace HS := Lib.hid hs; clear hs hg)
    have HSk := Lib.hid (show SI wm W.heap.size _ kidsG from HS.out)
    have hlk := SI.look_ok HSk.out (s := k) HKl.out
    have HLm := Lib.hid (HL.out.ext HBm.out)
    have HNm := Lib.hid (HNW.out.ext HBm.out)
    have HBX := Lib.hid (ext_trans HX.out HBm.out)
    clear hmm HS HSk a0 a1 a2 a3 a4 a5 m0 m1 m2 m3
    have p0 := cell_ext HBm.out (HBk.out.cell 0 rfl)
    have p1 := cell_ext HBm.out (HBk.out.cell 1 rfl)
    have p2 := cell_ext HBm.out (HBk.out.cell 2 rfl)
    have p3 := cell_ext HBm.out (HBk.out.cell 3 rfl)
    have p4 := cell_ext HBm.out (HBk.out.cell 4 rfl)
    have p5 := cell_ext HBm.out (HBk.out.cell 5 rfl)
    have r0 := cell_ext HBm.out (HBn.out.cell 0 rfl)
    have r1 := cell_ext HBm.out (HBn.out.cell 1 rfl)
    have r2 := cell_ext HBm.out (HBn.out.cell 2 rfl)
    have r3 := cell_ext HBm.out (HBn.out.cell 3 rfl)
    by_cases hbad : kidsG k = some 0
    rotate_left
    · have HE := Lib.hid (evS_bad (d := d) (q := q) (s := s) (n := n) (A := A) (c := c) (l := []) (who := who) (k := k) hbad)
      cases hg : kidsG k with
      | none =>
        rw [hg] at hlk
        simp only [Option.getD_none, Option.isSome_none] at hlk
        clear hbad hg
        have hk8 := HLm.out.er.v8
        unfold sentV at hk8
        go_wp2_with fail
        go_quiet (fail)
        go_wp2_with fail
        go_ret2
        exact ⟨by rw [HE.out]; rfl, ext_trans HBX.out (ext_drewN _ _)⟩
      | some v =>
        rw [hg] at hlk hbad
        simp only [Option.getD_some, Option.isSome_some] at hlk
        have hv : v ≠ 0 := fun e => hbad (by rw [e])
        have hv1 : (((0 : Int)) != v) = true := by simpa using Ne.symm hv
        have hv2 : (((0 : Int)) == v) = false := by simpa using Ne.symm hv
        clear hbad hg hv
        have hk8 := HLm.out.er.v8
        unfold sentV at hk8
        go_wp2_with fail
        go_quiet (fail)
        go_wp2_with fail
        go_ret2
        exact ⟨by rw [HE.out]; rfl, ext_trans HBX.out (ext_drewN _ _)⟩
    · rcases kids_which hbad with ⟨_, h3⟩ | ⟨h0, _⟩ | ⟨h0, _⟩
      rotate_left
      · exact absurd h0 (by decide)
      · exact absurd h0 (by decide)
      rw [hbad] at hlk
      simp only [Option.getD_some, Option.isSome_some] at hlk
      clear hbad
      rcases h3 with hk | hk | hk
      · have HE := Lib.hid (show evS (d + 1) q (.mk k s n A c []) who = if 0 ≤ n ∧ coinB n = true then (n, 0) else (0, 9) by (conv => lhs; unfold evS); rw [if_pos hk]; simp)
        have kb0 : (k == [110, 117, 109, 98, 101, 114]) = true := by rw [hk]; decide
        have kb1 : (k == [110, 97, 109, 101]) = false := by rw [hk]; decide
        have kb2 : (k == [99, 111, 117, 110, 116]) = false := by rw [hk]; decide
        have kb3 : (k == [116, 111, 116, 97, 108]) = false := by rw [hk]; decide
        have kb4 : (k == [42]) = false := by rw [hk]; decide
        have kb5 : (k == [43]) = false := by rw [hk]; decide
        have kb6 : (k == [45]) = false := by rw [hk]; decide
        have kb7 : (k == [109, 97, 120]) = false := by rw [hk]; decide
        have kb8 : (k == [109, 105, 110]) = false := by rw [hk]; decide
        clear hk
        have HG := Lib.hid (fun w => coin_any n w)
        by_cases h1 : n < 0
        · have HP := Lib.hid (show (if 0 ≤ n ∧ coinB n = true then (n, 0) else (0, 9) : Int × Nat) = (0, 9) by rw [if_neg]; omega)
          have hk8 := HLm.out.er.v8
          unfold sentV at hk8
          go_wp2_with fail
          go_quiet (fail)
          go_wp2_with fail
          go_ret2
          exact ⟨by rw [HE.out, HP.out]; rfl, ext_trans HBX.out (ext_drewN _ _)⟩
        · obtain ⟨bc, hbc⟩ : ∃ bc, coinB n = bc := ⟨_, rfl⟩
          rw [hbc] at HG
          have HBc := Lib.hid hbc
          clear hbc
          cases bc with
          | false =>
            have HP := Lib.hid (show (if 0 ≤ n ∧ coinB n = true then (n, 0) else (0, 9) : Int × Nat) = (0, 9) by rw [if_neg]; rw [HBc.out]; simp)
            have hk8 := HLm.out.er.v8
            unfold sentV at hk8
            go_wp2_with fail
            refine (HG.out _).mono ?_
            rintro e w1 ⟨rfl, rfl⟩
            go_wp2_with fail
            go_quiet (fail)
            go_wp2_with fail
            go_ret2
            exact ⟨by rw [HE.out, HP.out]; rfl, ext_trans HBX.out (ext_drewN _ _)⟩
          | true =>
            have HP := Lib.hid (show (if 0 ≤ n ∧ coinB n = true then (n, 0) else (0, 9) : Int × Nat) = (n, 0) by rw [if_pos ⟨by omega, HBc.out⟩])
            go_wp2_with fail
            refine (HG.out _).mono ?_
            rintro e w1 ⟨rfl, rfl⟩
            go_wp2_with fail
            go_ret2
            exact ⟨by rw [HE.out, HP.out]; rfl, HBX.out⟩
      · have HE := Lib.hid (show evS (d + 1) q (.mk k s n A c []) who = (nameR q who s) by (conv => lhs; unfold evS); rw [hk]; unfold nameR; simp [kNumber, kName])
        have kb0 : (k == [110, 117, 109, 98, 101, 114]) = false := by rw [hk]; decide
        have kb1 : (k == [110, 97, 109, 101]) = true := by rw [hk]; decide
        have kb2 : (k == [99, 111, 117, 110, 116]) = false := by rw [hk]; decide
        have kb3 : (k == [116, 111, 116, 97, 108]) = false := by rw [hk]; decide
        have kb4 : (k == [42]) = false := by rw [hk]; decide
        have kb5 : (k == [43]) = false := by rw [hk]; decide
        have kb6 : (k == [45]) = false := by rw [hk]; decide
        have kb7 : (k == [109, 97, 120]) = false := by rw [hk]; decide
        have kb8 : (k == [109, 105, 110]) = false := by rw [hk]; decide
        have HC := Lib.hid (fun (h2 : k = [110, 97, 109, 101]) => (by subst h2; have h := named_name hq E fb who X d s n A c [] wm HNm.out HLm.out; unfold ndV lkV at h; exact h : Calls Tryz.prog 88 #[.agg #[.pointer (some ⟨fb, 0, none⟩), .int .i64 who, .int .i64 q.on, .int .i64 q.kn, .nilFunc, .int .i64 4], .agg #[.string ⟨k.toArray⟩, .string ⟨s.toArray⟩, .int .i64 n, .slice A 0 c]] wm (SPost E (nameR q who s) wm)))
        have HC2 := Lib.hid (HC.out hk)
        obtain ⟨rr, hrr⟩ : ∃ rr : Int × Nat, rr = (nameR q who s) := ⟨_, rfl⟩
        rw [← hrr] at HC2 HE
        clear hk HC hrr
        obtain ⟨rz, rc⟩ := rr
        unfold SPost at HC2
        simp only at HC2
        go_wp2_with fail
        refine HC2.out.mono ?_
        rintro e w2 ⟨rfl, hb⟩
        have HB := Lib.hid (ext_trans HBX.out hb)
        clear hb HC2
        obtain ⟨ev, hev⟩ : ∃ ev, ev = partE rc (sentV (E 2)) (sentV (E 8)) := ⟨_, rfl⟩
        rw [← hev]
        have HEv := Lib.hid hev
        clear hev
        go_wp2_with fail
        go_ret2
        exact ⟨by rw [HE.out, HEv.out] <;> rfl, HB.out⟩
      · have HE := Lib.hid (show evS (d + 1) q (.mk k s n A c []) who = (cntR q who s) by (conv => lhs; unfold evS); rw [hk]; unfold cntR; simp [kNumber, kName, kCount])
        have kb0 : (k == [110, 117, 109, 98, 101, 114]) = false := by rw [hk]; decide
        have kb1 : (k == [110, 97, 109, 101]) = false := by rw [hk]; decide
        have kb2 : (k == [99, 111, 117, 110, 116]) = true := by rw [hk]; decide
        have kb3 : (k == [116, 111, 116, 97, 108]) = false := by rw [hk]; decide
        have kb4 : (k == [42]) = false := by rw [hk]; decide
        have kb5 : (k == [43]) = false := by rw [hk]; decide
        have kb6 : (k == [45]) = false := by rw [hk]; decide
        have kb7 : (k == [109, 97, 120]) = false := by rw [hk]; decide
        have kb8 : (k == [109, 105, 110]) = false := by rw [hk]; decide
        have HC := Lib.hid (fun (h2 : k = [99, 111, 117, 110, 116]) => (by subst h2; have h := named_count hq E fb who X d s n A c [] wm HNm.out HLm.out; unfold ndV lkV at h; exact h : Calls Tryz.prog 88 #[.agg #[.pointer (some ⟨fb, 0, none⟩), .int .i64 who, .int .i64 q.on, .int .i64 q.kn, .nilFunc, .int .i64 4], .agg #[.string ⟨k.toArray⟩, .string ⟨s.toArray⟩, .int .i64 n, .slice A 0 c]] wm (SPost E (cntR q who s) wm)))
        have HC2 := Lib.hid (HC.out hk)
        obtain ⟨rr, hrr⟩ : ∃ rr : Int × Nat, rr = (cntR q who s) := ⟨_, rfl⟩
        rw [← hrr] at HC2 HE
        clear hk HC hrr
        obtain ⟨rz, rc⟩ := rr
        unfold SPost at HC2
        simp only at HC2
        go_wp2_with fail
        refine HC2.out.mono ?_
        rintro e w2 ⟨rfl, hb⟩
        have HB := Lib.hid (ext_trans HBX.out hb)
        clear hb HC2
        obtain ⟨ev, hev⟩ : ∃ ev, ev = partE rc (sentV (E 2)) (sentV (E 8)) := ⟨_, rfl⟩
        rw [← hev]
        have HEv := Lib.hid hev
        clear hev
        go_wp2_with fail
        go_ret2
        exact ⟨by rw [HE.out, HEv.out] <;> rfl, HB.out⟩
set_option maxRecDepth 100000 in
set_option maxHeartbeats 8000000 in
theorem sum1 {q : Ask} (hq : Okq q) (E : Nat → Addr) (fb : Nat) (who : Int) (X : Nat → Prop) (d : Nat) (IH : IHS q E fb X d) (k s : List UInt8) (n : Int) (A : Option Addr) (c : Nat) (xk xs : List UInt8) (xn : Int) (xA : Option Addr) (xc : Nat) (xl : List Nd) (w : World) (hN : InW w X (d + 1) (.mk k s n A c [.mk xk xs xn xA xc xl])) (hLk : Lk E 149 q fb w) :
    Calls Tryz.prog 48 #[lkV fb who q.on q.kn, ndV (.mk k s n A c [.mk xk xs xn xA xc xl])] w (SPost E (evS (d + 1) q (.mk k s n A c [.mk xk xs xn xA xc xl]) who) w) := by
    unfold ndV lkV
    have HIH := Lib.hid IH
    clear IH
    have HN := Lib.hid hN
    have HKl := Lib.hid hN.2.2.1.2.2.1
    have HLk := Lib.hid hLk
    obtain ⟨W, hW, hx, hbk, hbn⟩ := boxed w fb who q.on q.kn k s n A c (1)
    have HX := Lib.hid hx
    have HBk := Lib.hid hbk
    have HBn := Lib.hid hbn
    have HNW := Lib.hid (hN.ext hx)
    have HL := Lib.hid (hLk.ext hx)
    have a0 := hbk.cell 0 rfl
    have a1 := hbk.cell 1 rfl
    have a2 := hbk.cell 2 rfl
    have a3 := hbk.cell 3 rfl
    have a4 := hbk.cell 4 rfl
    have a5 := hbk.cell 5 rfl
    have m0 := hbn.cell 0 rfl
    have m1 := hbn.cell 1 rfl
    have m2 := hbn.cell 2 rfl
    have m3 := hbn.cell 3 rfl
    clear hN hLk hx hbk hbn
    go_enter Tryz.func48, Tryz.ntmps48
    go_upto_region 1 with fail
    rw [show (w.alloc (.cells #[.pointer (some ⟨fb, 0, none⟩), .int .i64 who, .int .i64 q.on, .int .i64 q.kn, .nilFunc, .int .i64 4] 107)).alloc (.cells #[.string ⟨k.toArray⟩, .string ⟨s.toArray⟩, .int .i64 n, .slice A 1 c] 44) = W from hW.symm]
    clear hW
    have hmm := @run_makeMap Tryz.prog
    have HS := Lib.hid (SI.made W)
    have HBm := Lib.hid (ext_alloc W (.map #[] 0))
    go_upto_region 2 with (refine wpList_ins _ rfl _ _ _ rfl _ _ _ rfl HS.out (by simp [maxLen]) _ _ rfl rfl (by simp) ?_; intro wm hs hg; replace HBm := Lib.hid (HBm.out.grown hg HBm.out.size (fun g hg' => by cases hg'; exact Nat.le_refl _)); replace HS := Lib.hid hs; clear hs hg)
    have HSk := Lib.hid (show SI wm W.heap.size _ kidsG from HS.out)
    have hlk := SI.look_ok HSk.out (s := k) HKl.out
    have HLm := Lib.hid (HL.out.ext HBm.out)
    have HNm := Lib.hid (HNW.out.ext HBm.out)
    have HBX := Lib.hid (ext_trans HX.out HBm.out)
    clear hmm HS HSk a0 a1 a2 a3 a4 a5 m0 m1 m2 m3
    have p0 := cell_ext HBm.out (HBk.out.cell 0 rfl)
    have p1 := cell_ext HBm.out (HBk.out.cell 1 rfl)
    have p2 := cell_ext HBm.out (HBk.out.cell 2 rfl)
    have p3 := cell_ext HBm.out (HBk.out.cell 3 rfl)
    have p4 := cell_ext HBm.out (HBk.out.cell 4 rfl)
    have p5 := cell_ext HBm.out (HBk.out.cell 5 rfl)
    have r0 := cell_ext HBm.out (HBn.out.cell 0 rfl)
    have r1 := cell_ext HBm.out (HBn.out.cell 1 rfl)
    have r2 := cell_ext HBm.out (HBn.out.cell 2 rfl)
    have r3 := cell_ext HBm.out (HBn.out.cell 3 rfl)
    by_cases hbad : kidsG k = some 1
    rotate_left
    · have HE := Lib.hid (evS_bad (d := d) (q := q) (s := s) (n := n) (A := A) (c := c) (l := [.mk xk xs xn xA xc xl]) (who := who) (k := k) hbad)
      cases hg : kidsG k with
      | none =>
        rw [hg] at hlk
        simp only [Option.getD_none, Option.isSome_none] at hlk
        clear hbad hg
        have hk8 := HLm.out.er.v8
        unfold sentV at hk8
        go_wp2_with fail
        go_quiet (fail)
        go_wp2_with fail
        go_ret2
        exact ⟨by rw [HE.out]; rfl, ext_trans HBX.out (ext_drewN _ _)⟩
      | some v =>
        rw [hg] at hlk hbad
        simp only [Option.getD_some, Option.isSome_some] at hlk
        have hv : v ≠ 1 := fun e => hbad (by rw [e])
        have hv1 : (((1 : Int)) != v) = true := by simpa using Ne.symm hv
        have hv2 : (((1 : Int)) == v) = false := by simpa using Ne.symm hv
        clear hbad hg hv
        have hk8 := HLm.out.er.v8
        unfold sentV at hk8
        go_wp2_with fail
        go_quiet (fail)
        go_wp2_with fail
        go_ret2
        exact ⟨by rw [HE.out]; rfl, ext_trans HBX.out (ext_drewN _ _)⟩
    · rcases kids_which hbad with ⟨h0, _⟩ | ⟨_, h3⟩ | ⟨h0, _⟩
      · exact absurd h0 (by decide)
      rotate_left
      · exact absurd h0 (by decide)
      rw [hbad] at hlk
      simp only [Option.getD_some, Option.isSome_some] at hlk
      clear hbad
      rcases h3 with hk | hk
      · have HE := Lib.hid (show evS (d + 1) q (.mk k s n A c [.mk xk xs xn xA xc xl]) who = (totR q who s xk xs xl.length) by (conv => lhs; unfold evS); rw [hk]; unfold totR; simp [kNumber, kName, kCount, kTotal, Nd.kind, Nd.kids, Nd.word])
        have kb0 : (k == [110, 117, 109, 98, 101, 114]) = false := by rw [hk]; decide
        have kb1 : (k == [110, 97, 109, 101]) = false := by rw [hk]; decide
        have kb2 : (k == [99, 111, 117, 110, 116]) = false := by rw [hk]; decide
        have kb3 : (k == [116, 111, 116, 97, 108]) = true := by rw [hk]; decide
        have kb4 : (k == [42]) = false := by rw [hk]; decide
        have kb5 : (k == [43]) = false := by rw [hk]; decide
        have kb6 : (k == [45]) = false := by rw [hk]; decide
        have kb7 : (k == [109, 97, 120]) = false := by rw [hk]; decide
        have kb8 : (k == [109, 105, 110]) = false := by rw [hk]; decide
        obtain ⟨d, rfl⟩ : ∃ d', d = d' + 1 := by
          cases d with
          | zero => exact (HNm.out.2.2.2 _ (List.mem_singleton.2 rfl)).elim
          | succ d' => exact ⟨d', rfl⟩
        have HC := Lib.hid (fun (h2 : k = [116, 111, 116, 97, 108]) => (by subst h2; have h := named_total hq E fb who X d s n A c xk xs xn xA xc xl wm HNm.out HLm.out; unfold ndV lkV at h; exact h : Calls Tryz.prog 88 #[.agg #[.pointer (some ⟨fb, 0, none⟩), .int .i64 who, .int .i64 q.on, .int .i64 q.kn, .nilFunc, .int .i64 4], .agg #[.string ⟨k.toArray⟩, .string ⟨s.toArray⟩, .int .i64 n, .slice A 1 c]] wm (SPost E (totR q who s xk xs xl.length) wm)))
        have HC2 := Lib.hid (HC.out hk)
        obtain ⟨rr, hrr⟩ : ∃ rr : Int × Nat, rr = (totR q who s xk xs xl.length) := ⟨_, rfl⟩
        rw [← hrr] at HC2 HE
        clear hk HC hrr
        obtain ⟨rz, rc⟩ := rr
        unfold SPost at HC2
        simp only at HC2
        go_wp2_with fail
        refine HC2.out.mono ?_
        rintro e w2 ⟨rfl, hb⟩
        have HB := Lib.hid (ext_trans HBX.out hb)
        clear hb HC2
        obtain ⟨ev, hev⟩ : ∃ ev, ev = partE rc (sentV (E 2)) (sentV (E 8)) := ⟨_, rfl⟩
        rw [← hev]
        have HEv := Lib.hid hev
        clear hev
        go_wp2_with fail
        go_ret2
        exact ⟨by rw [HE.out, HEv.out] <;> rfl, HB.out⟩
      · have HE := Lib.hid (show evS (d + 1) q (.mk k s n A c [.mk xk xs xn xA xc xl]) who = if 0 < (evS d q (.mk xk xs xn xA xc xl) who).2 then (0, (evS d q (.mk xk xs xn xA xc xl) who).2) else if n < 0 ∨ 1000000 < n then (0, 9) else partV (evS d q (.mk xk xs xn xA xc xl) who).1 n 4 by (conv => lhs; unfold evS); rw [hk]; simp [kNumber, kName, kCount, kTotal])
        have kb0 : (k == [110, 117, 109, 98, 101, 114]) = false := by rw [hk]; decide
        have kb1 : (k == [110, 97, 109, 101]) = false := by rw [hk]; decide
        have kb2 : (k == [99, 111, 117, 110, 116]) = false := by rw [hk]; decide
        have kb3 : (k == [116, 111, 116, 97, 108]) = false := by rw [hk]; decide
        have kb4 : (k == [42]) = true := by rw [hk]; decide
        have kb5 : (k == [43]) = false := by rw [hk]; decide
        have kb6 : (k == [45]) = false := by rw [hk]; decide
        have kb7 : (k == [109, 97, 120]) = false := by rw [hk]; decide
        have kb8 : (k == [109, 105, 110]) = false := by rw [hk]; decide
        clear hk
        obtain ⟨b', o', hA, t0, t1, t2, t3, hkd⟩ := HNm.out.kid (i := 0) (by simp)
        simp only [List.getElem_cons_zero, Nd.kind, Nd.word, Nd.n, Nd.A, Nd.c, Nd.kids, Nat.zero_mul, Nat.add_zero] at t0 t1 t2 t3
        have HC := Lib.hid (fun wx (hb : Below wm.heap.size wm wx) => (by have h := HIH.out (.mk xk xs xn xA xc xl) who wx (hkd.ext hb) (HLm.out.ext hb); unfold ndV lkV at h; exact h : Calls Tryz.prog 48 #[.agg #[.pointer (some ⟨fb, 0, none⟩), .int .i64 who, .int .i64 q.on, .int .i64 q.kn, .nilFunc, .int .i64 4], .agg #[.string ⟨xk.toArray⟩, .string ⟨xs.toArray⟩, .int .i64 xn, .slice xA xl.length xc]] wx (SPost E (evS d q (.mk xk xs xn xA xc xl) who) wx)))
        have hok := evS_ok hq d (.mk xk xs xn xA xc xl) who
        obtain ⟨rr, hrr⟩ : ∃ rr : Int × Nat, rr = evS d q (.mk xk xs xn xA xc xl) who := ⟨_, rfl⟩
        rw [← hrr] at HC HE hok
        subst hA
        clear hrr hkd
        have hdr := ext_drewN wm 1
        go_wp2_with fail
        go_region_held3 (fun w' => w'.cell? ⟨w.heap.size, 0, none⟩ = some (.pointer (some ⟨fb, 0, none⟩)) ∧ w'.cell? ⟨w.heap.size, 1, none⟩ = some (.int .i64 who) ∧ w'.cell? ⟨w.heap.size, 2, none⟩ = some (.int .i64 q.on) ∧ w'.cell? ⟨w.heap.size, 3, none⟩ = some (.int .i64 q.kn) ∧ w'.cell? ⟨w.heap.size, 4, none⟩ = some .nilFunc ∧ w'.cell? ⟨w.heap.size, 5, none⟩ = some (.int .i64 4) ∧ w'.cell? ⟨w.heap.size + 1, 3, none⟩ = some (.slice (some ⟨b', o', none⟩) 1 c) ∧ w'.cell? ⟨b', o', none⟩ = some (.string ⟨xk.toArray⟩) ∧ w'.cell? ⟨b', o' + 1, none⟩ = some (.string ⟨xs.toArray⟩) ∧ w'.cell? ⟨b', o' + 2, none⟩ = some (.int .i64 xn) ∧ w'.cell? ⟨b', o' + 3, none⟩ = some (.slice xA xl.length xc))
          ((first | exact ⟨p0, p1, p2, p3, p4, p5, r3, t0, t1, t2, t3⟩ | exact ⟨cell_ext hdr p0, cell_ext hdr p1, cell_ext hdr p2, cell_ext hdr p3, cell_ext hdr p4, cell_ext hdr p5, cell_ext hdr r3, cell_ext hdr t0, cell_ext hdr t1, cell_ext hdr t2, cell_ext hdr t3⟩ | exact ⟨cell_ext HBs.out p0, cell_ext HBs.out p1, cell_ext HBs.out p2, cell_ext HBs.out p3, cell_ext HBs.out p4, cell_ext HBs.out p5, cell_ext HBs.out r3, cell_ext HBs.out t0, cell_ext HBs.out t1, cell_ext HBs.out t2, cell_ext HBs.out t3⟩))
          ((go_at_call 48; refine (HC.out _ hdr).mono ?_; rintro e w2 ⟨rfl, hb⟩; have HBs := Lib.hid (ext_trans hdr hb); clear hb))
        have HB := Lib.hid (ext_trans HBm.out HBs.out)
        have HLw := Lib.hid (HL.out.ext HB.out)
        clear HC HBs hdr t0 t1 t2 t3 p0 p1 p2 p3 p4 p5 r0 r1 r2 r3
        rcases sum_cases E hok with ⟨e1, e2⟩ | ⟨e1, a, e2⟩
        · have HE2 := Lib.hid (HE.out.trans (by rw [if_neg (by omega)]))
          rw [e2]
          clear e1 e2 hok
          obtain ⟨z1, hz1⟩ : ∃ z1, rr.1 = z1 := ⟨_, rfl⟩
          rw [hz1] at HE2 ⊢
          clear hz1
          have p0 := cell_ext HB.out (HBk.out.cell 0 rfl)
          have p1 := cell_ext HB.out (HBk.out.cell 1 rfl)
          have p2 := cell_ext HB.out (HBk.out.cell 2 rfl)
          have p3 := cell_ext HB.out (HBk.out.cell 3 rfl)
          have p4 := cell_ext HB.out (HBk.out.cell 4 rfl)
          have p5 := cell_ext HB.out (HBk.out.cell 5 rfl)
          have r0 := cell_ext HB.out (HBn.out.cell 0 rfl)
          have r1 := cell_ext HB.out (HBn.out.cell 1 rfl)
          have r2 := cell_ext HB.out (HBn.out.cell 2 rfl)
          have r3 := cell_ext HB.out (HBn.out.cell 3 rfl)
          by_cases h1 : n < 0
          · have HP := Lib.hid (HE2.out.trans (if_pos (.inl h1)))
            have HXB := Lib.hid (ext_trans HX.out HB.out)
            have hk8 := HLw.out.er.v8
            unfold sentV at hk8
            go_wp2_with fail
            go_quiet (fail)
            go_wp2_with fail
            go_ret2
            exact ⟨by rw [HP.out]; rfl, ext_trans HXB.out (ext_drewN _ _)⟩
          · by_cases h2 : 1000000 < n
            · have HP := Lib.hid (HE2.out.trans (if_pos (.inr h2)))
              have HXB := Lib.hid (ext_trans HX.out HB.out)
              have hk8 := HLw.out.er.v8
              unfold sentV at hk8
              go_wp2_with fail
              go_quiet (fail)
              go_wp2_with fail
              go_ret2
              exact ⟨by rw [HP.out]; rfl, ext_trans HXB.out (ext_drewN _ _)⟩
            · have HP := Lib.hid (HE2.out.trans (if_neg (by omega)))
              have HPt := Lib.hid (part_any z1 n 4 (sentV (E 2)) (sentV (E 8)) w2 HLw.out.er.v2 HLw.out.er.v8)
              obtain ⟨rp, hrp⟩ : ∃ rp : Int × Nat, rp = partV z1 n 4 := ⟨_, rfl⟩
              rw [← hrp] at HPt HP
              clear hrp
              obtain ⟨pz, pc⟩ := rp
              simp only at HPt
              go_wp2_with fail
              refine HPt.out.mono ?_
              rintro e w3 ⟨rfl, nn, rfl⟩
              obtain ⟨ev, hev⟩ : ∃ ev, ev = partE pc (sentV (E 2)) (sentV (E 8)) := ⟨_, rfl⟩
              rw [← hev]
              have HEv := Lib.hid hev
              clear hev
              go_wp2_with fail
              go_ret2
              exact ⟨by rw [HP.out, HEv.out] <;> rfl, ext_trans (ext_trans HX.out HB.out) (ext_drewN _ _)⟩
        · have HE2 := Lib.hid (HE.out.trans (by rw [if_pos e1]))
          have HEv := Lib.hid e2
          rw [e2]
          clear e1 e2 hok
          go_wp2_with fail
          go_ret2
          exact ⟨by rw [HE2.out, HEv.out] <;> rfl, ext_trans HX.out HB.out⟩
set_option maxRecDepth 100000 in
set_option maxHeartbeats 8000000 in
theorem sum2 {q : Ask} (hq : Okq q) (E : Nat → Addr) (fb : Nat) (who : Int) (X : Nat → Prop) (d : Nat) (IH : IHS q E fb X d) (k s : List UInt8) (n : Int) (A : Option Addr) (c : Nat) (xk xs : List UInt8) (xn : Int) (xA : Option Addr) (xc : Nat) (xl : List Nd) (yk ys : List UInt8) (yn : Int) (yA : Option Addr) (yc : Nat) (yl : List Nd) (w : World) (hN : InW w X (d + 1) (.mk k s n A c [.mk xk xs xn xA xc xl, .mk yk ys yn yA yc yl])) (hLk : Lk E 149 q fb w) :
    Calls Tryz.prog 48 #[lkV fb who q.on q.kn, ndV (.mk k s n A c [.mk xk xs xn xA xc xl, .mk yk ys yn yA yc yl])] w (SPost E (evS (d + 1) q (.mk k s n A c [.mk xk xs xn xA xc xl, .mk yk ys yn yA yc yl]) who) w) := by
    unfold ndV lkV
    have HIH := Lib.hid IH
    clear IH
    have HN := Lib.hid hN
    have HKl := Lib.hid hN.2.2.1.2.2.1
    have HLk := Lib.hid hLk
    obtain ⟨W, hW, hx, hbk, hbn⟩ := boxed w fb who q.on q.kn k s n A c (2)
    have HX := Lib.hid hx
    have HBk := Lib.hid hbk
    have HBn := Lib.hid hbn
    have HNW := Lib.hid (hN.ext hx)
    have HL := Lib.hid (hLk.ext hx)
    have a0 := hbk.cell 0 rfl
    have a1 := hbk.cell 1 rfl
    have a2 := hbk.cell 2 rfl
    have a3 := hbk.cell 3 rfl
    have a4 := hbk.cell 4 rfl
    have a5 := hbk.cell 5 rfl
    have m0 := hbn.cell 0 rfl
    have m1 := hbn.cell 1 rfl
    have m2 := hbn.cell 2 rfl
    have m3 := hbn.cell 3 rfl
    clear hN hLk hx hbk hbn
    go_enter Tryz.func48, Tryz.ntmps48
    go_upto_region 1 with fail
    rw [show (w.alloc (.cells #[.pointer (some ⟨fb, 0, none⟩), .int .i64 who, .int .i64 q.on, .int .i64 q.kn, .nilFunc, .int .i64 4] 107)).alloc (.cells #[.string ⟨k.toArray⟩, .string ⟨s.toArray⟩, .int .i64 n, .slice A 2 c] 44) = W from hW.symm]
    clear hW
    have hmm := @run_makeMap Tryz.prog
    have HS := Lib.hid (SI.made W)
    have HBm := Lib.hid (ext_alloc W (.map #[] 0))
    go_upto_region 2 with (refine wpList_ins _ rfl _ _ _ rfl _ _ _ rfl HS.out (by simp [maxLen]) _ _ rfl rfl (by simp) ?_; intro wm hs hg; replace HBm := Lib.hid (HBm.out.grown hg HBm.out.size (fun g hg' => by cases hg'; exact Nat.le_refl _)); replace HS := Lib.hid hs; clear hs hg)
    have HSk := Lib.hid (show SI wm W.heap.size _ kidsG from HS.out)
    have hlk := SI.look_ok HSk.out (s := k) HKl.out
    have HLm := Lib.hid (HL.out.ext HBm.out)
    have HNm := Lib.hid (HNW.out.ext HBm.out)
    have HBX := Lib.hid (ext_trans HX.out HBm.out)
    clear hmm HS HSk a0 a1 a2 a3 a4 a5 m0 m1 m2 m3
    have p0 := cell_ext HBm.out (HBk.out.cell 0 rfl)
    have p1 := cell_ext HBm.out (HBk.out.cell 1 rfl)
    have p2 := cell_ext HBm.out (HBk.out.cell 2 rfl)
    have p3 := cell_ext HBm.out (HBk.out.cell 3 rfl)
    have p4 := cell_ext HBm.out (HBk.out.cell 4 rfl)
    have p5 := cell_ext HBm.out (HBk.out.cell 5 rfl)
    have r0 := cell_ext HBm.out (HBn.out.cell 0 rfl)
    have r1 := cell_ext HBm.out (HBn.out.cell 1 rfl)
    have r2 := cell_ext HBm.out (HBn.out.cell 2 rfl)
    have r3 := cell_ext HBm.out (HBn.out.cell 3 rfl)
    by_cases hbad : kidsG k = some 2
    rotate_left
    · have HE := Lib.hid (evS_bad (d := d) (q := q) (s := s) (n := n) (A := A) (c := c) (l := [.mk xk xs xn xA xc xl, .mk yk ys yn yA yc yl]) (who := who) (k := k) hbad)
      cases hg : kidsG k with
      | none =>
        rw [hg] at hlk
        simp only [Option.getD_none, Option.isSome_none] at hlk
        clear hbad hg
        have hk8 := HLm.out.er.v8
        unfold sentV at hk8
        go_wp2_with fail
        go_quiet (fail)
        go_wp2_with fail
        go_ret2
        exact ⟨by rw [HE.out]; rfl, ext_trans HBX.out (ext_drewN _ _)⟩
      | some v =>
        rw [hg] at hlk hbad
        simp only [Option.getD_some, Option.isSome_some] at hlk
        have hv : v ≠ 2 := fun e => hbad (by rw [e])
        have hv1 : (((2 : Int)) != v) = true := by simpa using Ne.symm hv
        have hv2 : (((2 : Int)) == v) = false := by simpa using Ne.symm hv
        clear hbad hg hv
        have hk8 := HLm.out.er.v8
        unfold sentV at hk8
        go_wp2_with fail
        go_quiet (fail)
        go_wp2_with fail
        go_ret2
        exact ⟨by rw [HE.out]; rfl, ext_trans HBX.out (ext_drewN _ _)⟩
    · rcases kids_which hbad with ⟨h0, _⟩ | ⟨h0, _⟩ | ⟨_, h3⟩
      · exact absurd h0 (by decide)
      · exact absurd h0 (by decide)
      rw [hbad] at hlk
      simp only [Option.getD_some, Option.isSome_some] at hlk
      clear hbad
      obtain ⟨f, HE, kb0, kb1, kb2, kb3, kb4, HF⟩ : ∃ f : Int → Int → Int × Nat, Hid (evS (d + 1) q (.mk k s n A c [.mk xk xs xn xA xc xl, .mk yk ys yn yA yc yl]) who = twoF f (evS d q (.mk xk xs xn xA xc xl) who) (evS d q (.mk yk ys yn yA yc yl) who)) ∧ (k == [110, 117, 109, 98, 101, 114]) = false ∧ (k == [110, 97, 109, 101]) = false ∧ (k == [99, 111, 117, 110, 116]) = false ∧ (k == [116, 111, 116, 97, 108]) = false ∧ (k == [42]) = false ∧ Hid ((k = [43] ∧ f = fun a b => goodF (a + b)) ∨ (k = [45] ∧ f = fun a b => goodF (a - b)) ∨ (k = kMax ∧ f = fun a b => (max a b, 0)) ∨ (k = kMin ∧ f = fun a b => (min a b, 0))) := by
        rcases h3 with hk | hk | hk | hk
        · exact ⟨_, Lib.hid (by (conv => lhs; unfold evS); rw [hk]; simp [kNumber, kName, kCount, kTotal]), by rw [hk]; decide, by rw [hk]; decide, by rw [hk]; decide, by rw [hk]; decide, by rw [hk]; decide, Lib.hid (.inl ⟨hk, rfl⟩)⟩
        · exact ⟨_, Lib.hid (by (conv => lhs; unfold evS); rw [hk]; simp [kNumber, kName, kCount, kTotal]), by rw [hk]; decide, by rw [hk]; decide, by rw [hk]; decide, by rw [hk]; decide, by rw [hk]; decide, Lib.hid (.inr (.inl ⟨hk, rfl⟩))⟩
        · exact ⟨_, Lib.hid (by (conv => lhs; unfold evS); rw [hk]; simp [kNumber, kName, kCount, kTotal, kMax]), by rw [hk]; decide, by rw [hk]; decide, by rw [hk]; decide, by rw [hk]; decide, by rw [hk]; decide, Lib.hid (.inr (.inr (.inl ⟨hk, rfl⟩)))⟩
        · exact ⟨_, Lib.hid (by (conv => lhs; unfold evS); rw [hk]; simp [kNumber, kName, kCount, kTotal, kMax, kMin]), by rw [hk]; decide, by rw [hk]; decide, by rw [hk]; decide, by rw [hk]; decide, by rw [hk]; decide, Lib.hid (.inr (.inr (.inr ⟨hk, rfl⟩)))⟩
      clear h3
      obtain ⟨b', o', hA, t0, t1, t2, t3, hkd⟩ := HNm.out.kid (i := 0) (by simp)
      simp only [List.getElem_cons_zero, Nd.kind, Nd.word, Nd.n, Nd.A, Nd.c, Nd.kids, Nat.zero_mul, Nat.add_zero] at t0 t1 t2 t3
      have HC := Lib.hid (fun wx (hb : Below wm.heap.size wm wx) => (by have h := HIH.out (.mk xk xs xn xA xc xl) who wx (hkd.ext hb) (HLm.out.ext hb); unfold ndV lkV at h; exact h : Calls Tryz.prog 48 #[.agg #[.pointer (some ⟨fb, 0, none⟩), .int .i64 who, .int .i64 q.on, .int .i64 q.kn, .nilFunc, .int .i64 4], .agg #[.string ⟨xk.toArray⟩, .string ⟨xs.toArray⟩, .int .i64 xn, .slice xA xl.length xc]] wx (SPost E (evS d q (.mk xk xs xn xA xc xl) who) wx)))
      have hok := evS_ok hq d (.mk xk xs xn xA xc xl) who
      obtain ⟨rr, hrr⟩ : ∃ rr : Int × Nat, rr = evS d q (.mk xk xs xn xA xc xl) who := ⟨_, rfl⟩
      rw [← hrr] at HC HE hok
      subst hA
      clear hrr hkd
      have hdr := ext_drewN wm 1
      go_wp2_with fail
      go_region_held3 (fun w' => w'.cell? ⟨w.heap.size, 0, none⟩ = some (.pointer (some ⟨fb, 0, none⟩)) ∧ w'.cell? ⟨w.heap.size, 1, none⟩ = some (.int .i64 who) ∧ w'.cell? ⟨w.heap.size, 2, none⟩ = some (.int .i64 q.on) ∧ w'.cell? ⟨w.heap.size, 3, none⟩ = some (.int .i64 q.kn) ∧ w'.cell? ⟨w.heap.size, 4, none⟩ = some .nilFunc ∧ w'.cell? ⟨w.heap.size, 5, none⟩ = some (.int .i64 4) ∧ w'.cell? ⟨w.heap.size + 1, 3, none⟩ = some (.slice (some ⟨b', o', none⟩) 2 c) ∧ w'.cell? ⟨b', o', none⟩ = some (.string ⟨xk.toArray⟩) ∧ w'.cell? ⟨b', o' + 1, none⟩ = some (.string ⟨xs.toArray⟩) ∧ w'.cell? ⟨b', o' + 2, none⟩ = some (.int .i64 xn) ∧ w'.cell? ⟨b', o' + 3, none⟩ = some (.slice xA xl.length xc))
        ((first | exact ⟨p0, p1, p2, p3, p4, p5, r3, t0, t1, t2, t3⟩ | exact ⟨cell_ext hdr p0, cell_ext hdr p1, cell_ext hdr p2, cell_ext hdr p3, cell_ext hdr p4, cell_ext hdr p5, cell_ext hdr r3, cell_ext hdr t0, cell_ext hdr t1, cell_ext hdr t2, cell_ext hdr t3⟩ | exact ⟨cell_ext HBs.out p0, cell_ext HBs.out p1, cell_ext HBs.out p2, cell_ext HBs.out p3, cell_ext HBs.out p4, cell_ext HBs.out p5, cell_ext HBs.out r3, cell_ext HBs.out t0, cell_ext HBs.out t1, cell_ext HBs.out t2, cell_ext HBs.out t3⟩))
        ((go_at_call 48; refine (HC.out _ hdr).mono ?_; rintro e w2 ⟨rfl, hb⟩; have HBs := Lib.hid (ext_trans hdr hb); clear hb))
      have HB := Lib.hid (ext_trans HBm.out HBs.out)
      have HLw := Lib.hid (HL.out.ext HB.out)
      clear HC HBs hdr t0 t1 t2 t3 p0 p1 p2 p3 p4 p5 r0 r1 r2 r3
      rcases sum_cases E hok with ⟨e1, e2⟩ | ⟨e1, a, e2⟩
      rotate_left
      · have HE2 := Lib.hid (HE.out.trans (show twoF f rr (evS d q (.mk yk ys yn yA yc yl) who) = (0, rr.2) by unfold twoF; rw [if_pos e1]))
        have HEv := Lib.hid e2
        rw [e2]
        clear e1 e2 hok
        go_wp2_with fail
        go_ret2
        exact ⟨by rw [HE2.out, HEv.out] <;> rfl, ext_trans HX.out HB.out⟩
      rw [e2]
      have HR0 := Lib.hid e1
      obtain ⟨z1, hz1⟩ : ∃ z1, rr.1 = z1 := ⟨_, rfl⟩
      obtain ⟨hb1, hb2⟩ := hok.1
      rw [hz1] at hb1 hb2 ⊢
      have HZ1 := Lib.hid hz1
      clear e1 e2 hok hz1
      obtain ⟨b2, o2, hA2, t0, t1, t2, t3, hkd⟩ := (HNW.out.ext HB.out).kid (i := 1) (by simp)
      cases hA2
      simp only [List.getElem_cons_zero, List.getElem_cons_succ, Nd.kind, Nd.word, Nd.n, Nd.A, Nd.c, Nd.kids, Nat.one_mul] at t0 t1 t2 t3
      have HC := Lib.hid (fun wx (hb : Below w2.heap.size w2 wx) => (by have h := HIH.out (.mk yk ys yn yA yc yl) who wx (hkd.ext hb) (HLw.out.ext hb); unfold ndV lkV at h; exact h : Calls Tryz.prog 48 #[.agg #[.pointer (some ⟨fb, 0, none⟩), .int .i64 who, .int .i64 q.on, .int .i64 q.kn, .nilFunc, .int .i64 4], .agg #[.string ⟨yk.toArray⟩, .string ⟨ys.toArray⟩, .int .i64 yn, .slice yA yl.length yc]] wx (SPost E (evS d q (.mk yk ys yn yA yc yl) who) wx)))
      have hok := evS_ok hq d (.mk yk ys yn yA yc yl) who
      obtain ⟨r2, hrr⟩ : ∃ r2 : Int × Nat, r2 = evS d q (.mk yk ys yn yA yc yl) who := ⟨_, rfl⟩
      rw [← hrr] at HC HE hok
      clear hrr hkd
      have p0 := cell_ext HB.out (HBk.out.cell 0 rfl)
      have p1 := cell_ext HB.out (HBk.out.cell 1 rfl)
      have p2 := cell_ext HB.out (HBk.out.cell 2 rfl)
      have p3 := cell_ext HB.out (HBk.out.cell 3 rfl)
      have p4 := cell_ext HB.out (HBk.out.cell 4 rfl)
      have p5 := cell_ext HB.out (HBk.out.cell 5 rfl)
      have v0 := cell_ext HB.out (HBn.out.cell 0 rfl)
      have v1 := cell_ext HB.out (HBn.out.cell 1 rfl)
      have v2 := cell_ext HB.out (HBn.out.cell 2 rfl)
      have v3 := cell_ext HB.out (HBn.out.cell 3 rfl)
      have hdr := ext_drewN w2 1
      go_wp2_with fail
      go_region_held3 (fun w' => w'.cell? ⟨w.heap.size, 0, none⟩ = some (.pointer (some ⟨fb, 0, none⟩)) ∧ w'.cell? ⟨w.heap.size, 1, none⟩ = some (.int .i64 who) ∧ w'.cell? ⟨w.heap.size, 2, none⟩ = some (.int .i64 q.on) ∧ w'.cell? ⟨w.heap.size, 3, none⟩ = some (.int .i64 q.kn) ∧ w'.cell? ⟨w.heap.size, 4, none⟩ = some .nilFunc ∧ w'.cell? ⟨w.heap.size, 5, none⟩ = some (.int .i64 4) ∧ w'.cell? ⟨w.heap.size + 1, 3, none⟩ = some (.slice (some ⟨b', o', none⟩) 2 c) ∧ w'.cell? ⟨b', o' + 4, none⟩ = some (.string ⟨yk.toArray⟩) ∧ w'.cell? ⟨b', o' + 5, none⟩ = some (.string ⟨ys.toArray⟩) ∧ w'.cell? ⟨b', o' + 6, none⟩ = some (.int .i64 yn) ∧ w'.cell? ⟨b', o' + 7, none⟩ = some (.slice yA yl.length yc))
        ((first | exact ⟨p0, p1, p2, p3, p4, p5, v3, t0, t1, t2, t3⟩ | exact ⟨cell_ext hdr p0, cell_ext hdr p1, cell_ext hdr p2, cell_ext hdr p3, cell_ext hdr p4, cell_ext hdr p5, cell_ext hdr v3, cell_ext hdr t0, cell_ext hdr t1, cell_ext hdr t2, cell_ext hdr t3⟩ | exact ⟨cell_ext HBs.out p0, cell_ext HBs.out p1, cell_ext HBs.out p2, cell_ext HBs.out p3, cell_ext HBs.out p4, cell_ext HBs.out p5, cell_ext HBs.out v3, cell_ext HBs.out t0, cell_ext HBs.out t1, cell_ext HBs.out t2, cell_ext HBs.out t3⟩))
        ((go_at_call 48; refine (HC.out _ hdr).mono ?_; rintro e w3 ⟨rfl, hb⟩; have HBs := Lib.hid (ext_trans hdr hb); clear hb))
      have HB3 := Lib.hid (ext_trans HB.out HBs.out)
      have HLw3 := Lib.hid (HL.out.ext HB3.out)
      clear HC HBs hdr t0 t1 t2 t3 p0 p1 p2 p3 p4 p5 v0 v1 v2 v3
      rcases sum_cases E hok with ⟨e1, e2⟩ | ⟨e1, a, e2⟩
      rotate_left
      · have HE2 := Lib.hid (HE.out.trans (show twoF f rr r2 = (0, r2.2) by unfold twoF; rw [if_neg (by have := HR0.out; omega), if_pos e1]))
        have HEv := Lib.hid e2
        rw [e2]
        clear e1 e2 hok
        go_wp2_with fail
        go_ret2
        exact ⟨by rw [HE2.out, HEv.out] <;> rfl, ext_trans HX.out HB3.out⟩
      rw [e2]
      have HE2 := Lib.hid (HE.out.trans (show twoF f rr r2 = f rr.1 r2.1 by unfold twoF; rw [if_neg (by have := HR0.out; omega), if_neg (by omega)]))
      rw [HZ1.out] at HE2
      obtain ⟨z2, hz2⟩ : ∃ z2, r2.1 = z2 := ⟨_, rfl⟩
      obtain ⟨hb3, hb4⟩ := hok.1
      rw [hz2] at hb3 hb4 HE2 ⊢
      clear e1 e2 hok hz2 HZ1
      have p0 := cell_ext HB3.out (HBk.out.cell 0 rfl)
      have p1 := cell_ext HB3.out (HBk.out.cell 1 rfl)
      have p2 := cell_ext HB3.out (HBk.out.cell 2 rfl)
      have p3 := cell_ext HB3.out (HBk.out.cell 3 rfl)
      have p4 := cell_ext HB3.out (HBk.out.cell 4 rfl)
      have p5 := cell_ext HB3.out (HBk.out.cell 5 rfl)
      have v0 := cell_ext HB3.out (HBn.out.cell 0 rfl)
      have v1 := cell_ext HB3.out (HBn.out.cell 1 rfl)
      have v2 := cell_ext HB3.out (HBn.out.cell 2 rfl)
      have v3 := cell_ext HB3.out (HBn.out.cell 3 rfl)
      rcases HF.out with ⟨hk, hf⟩ | ⟨hk, hf⟩ | ⟨hk, hf⟩ | ⟨hk, hf⟩
      · have HP := Lib.hid (HE2.out.trans (by rw [hf]) : _ = goodF (z1 + z2))
        have kc0 : (k == [43]) = true := by rw [hk]; decide
        have kc1 : (k == [45]) = false := by rw [hk]; decide
        have kc2 : (k == [109, 97, 120]) = false := by rw [hk]; decide
        have kc3 : (k == [109, 105, 110]) = false := by rw [hk]; decide
        clear hk hf HF HE2
        have HGd := Lib.hid (pgood_any E (z1 + z2) w3 HLw3.out.er)
        go_wp2_with fail
        refine HGd.out.mono ?_
        rintro e w4 ⟨rfl, hb⟩
        have HB4 := Lib.hid (ext_trans HB3.out hb)
        clear hb HGd
        obtain ⟨rg, hrg⟩ : ∃ rg : Int × Nat, rg = goodF (z1 + z2) := ⟨_, rfl⟩
        rw [← hrg] at HP ⊢
        clear hrg
        obtain ⟨gz, gc⟩ := rg
        simp only
        obtain ⟨ev, hev⟩ : ∃ ev, ev = partE gc (sentV (E 2)) (sentV (E 8)) := ⟨_, rfl⟩
        rw [← hev]
        have HEv := Lib.hid hev
        clear hev
        go_wp2_with fail
        go_ret2
        exact ⟨by rw [HP.out, HEv.out] <;> rfl, ext_trans HX.out HB4.out⟩
      · have HP := Lib.hid (HE2.out.trans (by rw [hf]) : _ = goodF (z1 - z2))
        have kc0 : (k == [43]) = false := by rw [hk]; decide
        have kc1 : (k == [45]) = true := by rw [hk]; decide
        have kc2 : (k == [109, 97, 120]) = false := by rw [hk]; decide
        have kc3 : (k == [109, 105, 110]) = false := by rw [hk]; decide
        clear hk hf HF HE2
        have HGd := Lib.hid (pgood_any E (z1 - z2) w3 HLw3.out.er)
        go_wp2_with fail
        refine HGd.out.mono ?_
        rintro e w4 ⟨rfl, hb⟩
        have HB4 := Lib.hid (ext_trans HB3.out hb)
        clear hb HGd
        obtain ⟨rg, hrg⟩ : ∃ rg : Int × Nat, rg = goodF (z1 - z2) := ⟨_, rfl⟩
        rw [← hrg] at HP ⊢
        clear hrg
        obtain ⟨gz, gc⟩ := rg
        simp only
        obtain ⟨ev, hev⟩ : ∃ ev, ev = partE gc (sentV (E 2)) (sentV (E 8)) := ⟨_, rfl⟩
        rw [← hev]
        have HEv := Lib.hid hev
        clear hev
        go_wp2_with fail
        go_ret2
        exact ⟨by rw [HP.out, HEv.out] <;> rfl, ext_trans HX.out HB4.out⟩
      · have HP := Lib.hid (HE2.out.trans (by rw [hf]) : _ = (max z1 z2, 0))
        have kc0 : (k == [43]) = false := by rw [hk]; decide
        have kc1 : (k == [45]) = false := by rw [hk]; decide
        have kc2 : (k == [109, 97, 120]) = true := by rw [hk]; decide
        have kc3 : (k == [109, 105, 110]) = false := by rw [hk]; decide
        clear hk hf HF HE2
        by_cases hlt : z1 < z2
        · have hnl : ¬ z2 < z1 := by omega
          have HM := Lib.hid (show max z1 z2 = z2 by omega)
          go_wp2_with fail
          go_ret2
          exact ⟨by rw [HP.out, HM.out]; rfl, ext_trans HX.out HB3.out⟩
        · by_cases hgt : z2 < z1
          · have HM := Lib.hid (show max z1 z2 = z1 by omega)
            go_wp2_with fail
            go_ret2
            exact ⟨by rw [HP.out, HM.out]; rfl, ext_trans HX.out HB3.out⟩
          · obtain rfl : z1 = z2 := by omega
            have HM := Lib.hid (show max z1 z1 = z1 by omega)
            go_wp2_with fail
            go_ret2
            exact ⟨by rw [HP.out, HM.out]; rfl, ext_trans HX.out HB3.out⟩
      · have HP := Lib.hid (HE2.out.trans (by rw [hf]) : _ = (min z1 z2, 0))
        have kc0 : (k == [43]) = false := by rw [hk]; decide
        have kc1 : (k == [45]) = false := by rw [hk]; decide
        have kc2 : (k == [109, 97, 120]) = false := by rw [hk]; decide
        have kc3 : (k == [109, 105, 110]) = true := by rw [hk]; decide
        clear hk hf HF HE2
        by_cases hlt : z1 < z2
        · have hnl : ¬ z2 < z1 := by omega
          have HM := Lib.hid (show min z1 z2 = z1 by omega)
          go_wp2_with fail
          go_ret2
          exact ⟨by rw [HP.out, HM.out]; rfl, ext_trans HX.out HB3.out⟩
        · by_cases hgt : z2 < z1
          · have HM := Lib.hid (show min z1 z2 = z2 by omega)
            go_wp2_with fail
            go_ret2
            exact ⟨by rw [HP.out, HM.out]; rfl, ext_trans HX.out HB3.out⟩
          · obtain rfl : z1 = z2 := by omega
            have HM := Lib.hid (show min z1 z1 = z1 by omega)
            go_wp2_with fail
            go_ret2
            exact ⟨by rw [HP.out, HM.out]; rfl, ext_trans HX.out HB3.out⟩
set_option maxRecDepth 100000 in
set_option maxHeartbeats 8000000 in
theorem sum3 {q : Ask} (_ : Okq q) (E : Nat → Addr) (fb : Nat) (who : Int) (X : Nat → Prop) (d : Nat) (IH : IHS q E fb X d) (k s : List UInt8) (n : Int) (A : Option Addr) (c : Nat) (x y z : Nd) (t : List Nd) (w : World) (hN : InW w X (d + 1) (.mk k s n A c (x :: y :: z :: t))) (hLk : Lk E 149 q fb w) :
    Calls Tryz.prog 48 #[lkV fb who q.on q.kn, ndV (.mk k s n A c (x :: y :: z :: t))] w (SPost E (evS (d + 1) q (.mk k s n A c (x :: y :: z :: t)) who) w) := by
    unfold ndV lkV
    have HIH := Lib.hid IH
    clear IH
    have hlen : (x :: y :: z :: t).length ≤ 9223372036854775807 := by
      have h1 := hN.2.2.1.1
      have h2 := hN.2.2.1.2.1
      unfold maxLen at h2
      omega
    obtain ⟨m, hm⟩ : ∃ m, (x :: y :: z :: t).length = m := ⟨_, rfl⟩
    have hm3 : 3 ≤ m := by simp at hm; omega
    have HE := Lib.hid (show evS (d + 1) q (.mk k s n A c (x :: y :: z :: t)) who = (0, 9) from evS_bad (by rw [hm]; intro h; rcases kids_which h with ⟨h, _⟩ | ⟨h, _⟩ | ⟨h, _⟩ <;> omega))
    rw [hm] at hlen
    dsimp only
    rw [hm]
    have HM := Lib.hid hm
    clear hm
    have HN := Lib.hid hN
    have HKl := Lib.hid hN.2.2.1.2.2.1
    have HLk := Lib.hid hLk
    obtain ⟨W, hW, hx, hbk, hbn⟩ := boxed w fb who q.on q.kn k s n A c (m)
    have HX := Lib.hid hx
    have HBk := Lib.hid hbk
    have HBn := Lib.hid hbn
    have HNW := Lib.hid (hN.ext hx)
    have HL := Lib.hid (hLk.ext hx)
    have a0 := hbk.cell 0 rfl
    have a1 := hbk.cell 1 rfl
    have a2 := hbk.cell 2 rfl
    have a3 := hbk.cell 3 rfl
    have a4 := hbk.cell 4 rfl
    have a5 := hbk.cell 5 rfl
    have m0 := hbn.cell 0 rfl
    have m1 := hbn.cell 1 rfl
    have m2 := hbn.cell 2 rfl
    have m3 := hbn.cell 3 rfl
    clear hN hLk hx hbk hbn
    go_enter Tryz.func48, Tryz.ntmps48
    go_upto_region 1 with fail
    rw [show (w.alloc (.cells #[.pointer (some ⟨fb, 0, none⟩), .int .i64 who, .int .i64 q.on, .int .i64 q.kn, .nilFunc, .int .i64 4] 107)).alloc (.cells #[.string ⟨k.toArray⟩, .string ⟨s.toArray⟩, .int .i64 n, .slice A m c] 44) = W from hW.symm]
    clear hW
    have hmm := @run_makeMap Tryz.prog
    have HS := Lib.hid (SI.made W)
    have HBm := Lib.hid (ext_alloc W (.map #[] 0))
    go_upto_region 2 with (refine wpList_ins _ rfl _ _ _ rfl _ _ _ rfl HS.out (by simp [maxLen]) _ _ rfl rfl (by simp) ?_; intro wm hs hg; replace HBm := Lib.hid (HBm.out.grown hg HBm.out.size (fun g hg' => by cases hg'; exact Nat.le_refl _)); replace HS := Lib.hid hs; clear hs hg)
    have HSk := Lib.hid (show SI wm W.heap.size _ kidsG from HS.out)
    have hlk := SI.look_ok HSk.out (s := k) HKl.out
    have HLm := Lib.hid (HL.out.ext HBm.out)
    have HNm := Lib.hid (HNW.out.ext HBm.out)
    have HBX := Lib.hid (ext_trans HX.out HBm.out)
    clear hmm HS HSk a0 a1 a2 a3 a4 a5 m0 m1 m2 m3
    have p0 := cell_ext HBm.out (HBk.out.cell 0 rfl)
    have p1 := cell_ext HBm.out (HBk.out.cell 1 rfl)
    have p2 := cell_ext HBm.out (HBk.out.cell 2 rfl)
    have p3 := cell_ext HBm.out (HBk.out.cell 3 rfl)
    have p4 := cell_ext HBm.out (HBk.out.cell 4 rfl)
    have p5 := cell_ext HBm.out (HBk.out.cell 5 rfl)
    have r0 := cell_ext HBm.out (HBn.out.cell 0 rfl)
    have r1 := cell_ext HBm.out (HBn.out.cell 1 rfl)
    have r2 := cell_ext HBm.out (HBn.out.cell 2 rfl)
    have r3 := cell_ext HBm.out (HBn.out.cell 3 rfl)
    cases hg : kidsG k with
    | none =>
      rw [hg] at hlk
      simp only [Option.getD_none, Option.isSome_none] at hlk
      clear hg
      have hk8 := HLm.out.er.v8
      unfold sentV at hk8
      go_wp2_with fail
      go_quiet (fail)
      go_wp2_with fail
      go_ret2
      exact ⟨by rw [HE.out]; rfl, ext_trans HBX.out (ext_drewN _ _)⟩
    | some v =>
      have hv : v ≠ (m : Int) := by rcases kids_which hg with ⟨h, _⟩ | ⟨h, _⟩ | ⟨h, _⟩ <;> omega
      rw [hg] at hlk
      simp only [Option.getD_some, Option.isSome_some] at hlk
      have hv1 : ((m : Int) != v) = true := by simpa using Ne.symm hv
      have hv2 : ((m : Int) == v) = false := by simpa using Ne.symm hv
      clear hg hv
      have hk8 := HLm.out.er.v8
      unfold sentV at hk8
      go_wp2_with fail
      go_quiet (fail)
      go_wp2_with fail
      go_ret2
      exact ⟨by rw [HE.out]; rfl, ext_trans HBX.out (ext_drewN _ _)⟩
theorem psum_any {q : Ask} (hq : Okq q) (E : Nat → Addr) (fb : Nat) (X : Nat → Prop) : ∀ d, IHS q E fb X d
  | 0 => fun _ _ _ h _ => h.elim
  | d + 1 => fun x who w hN hLk => by
    have IH := psum_any hq E fb X d
    obtain ⟨k, s, n, A, c, l⟩ := x
    match l, hN with
    | [], hN => exact sum0 hq E fb who X d IH k s n A c w hN hLk
    | [.mk xk xs xn xA xc xl], hN => exact sum1 hq E fb who X d IH k s n A c xk xs xn xA xc xl w hN hLk
    | [.mk xk xs xn xA xc xl, .mk yk ys yn yA yc yl], hN => exact sum2 hq E fb who X d IH k s n A c xk xs xn xA xc xl yk ys yn yA yc yl w hN hLk
    | x :: y :: z :: t, hN => exact sum3 hq E fb who X d IH k s n A c x y z t w hN hLk
end Go.Proofs.YtnchlnfenebomaaGreatDoor.Hd

/- Gaps: the rows left behind an answer, all rows, as bits. -/
import Derived.Test.YtednlkchbjpabaaDoorGpM
namespace Go.Proofs.YtednlkchbjpabaaDoor.Gp
open Go.RowKit Mem Nest Fk

theorem wrap_u64 (n : Nat) (h : n < 2 ^ 64) : IntKind.u64.wrap (n : Int) = n := by
  have : n < 18446744073709551616 := h
  clear h
  simp [IntKind.wrap, IntKind.bits, IntKind.signed]
  omega
theorem shlN (k : Nat) (hk : k < 64) : IntKind.u64.wrap (2 ^ k) = ((2 ^ k : Nat) : Int) := by
  rw [← wrap_u64 (2 ^ k) (Nat.pow_lt_pow_right (by omega) hk)]
  congr 1
theorem ofInt_nat (n : Nat) : BitVec.ofInt 64 (n : Int) = BitVec.ofNat 64 n := by
  apply BitVec.eq_of_toNat_eq
  simp
theorem andN (m k : Nat) (hk : k < 64) : bits .and .u64 (m : Int) ((2 ^ k : Nat) : Int) = ((if m.testBit k = true then 2 ^ k else 0 : Nat) : Int) := by
  have hp : 2 ^ k < 2 ^ 64 := Nat.pow_lt_pow_right (by omega) hk
  have h1 : (BitVec.ofInt 64 (m : Int) &&& BitVec.ofInt 64 ((2 ^ k : Nat) : Int)).toNat = if m.testBit k = true then 2 ^ k else 0 := by
    rw [ofInt_nat, ofInt_nat]
    apply Nat.eq_of_testBit_eq
    intro i
    rw [← BitVec.getLsbD, BitVec.getLsbD_and, BitVec.getLsbD_ofNat, BitVec.getLsbD_ofNat]
    by_cases hik : i = k
    · subst hik
      cases h : m.testBit i <;> simp [hk, Nat.testBit_two_pow_self]
    · have : (2 ^ k).testBit i = false := Nat.testBit_two_pow_of_ne (Ne.symm hik)
      split <;> simp [this]
  show IntKind.u64.wrap ((BitVec.ofInt 64 (m : Int) &&& BitVec.ofInt 64 ((2 ^ k : Nat) : Int)).toNat : Int) = _
  rw [h1]
  apply wrap_u64
  split
  · exact hp
  · exact Nat.two_pow_pos 64
theorem andNotN (m k : Nat) (hm : m < 2 ^ 64) (hk : k < 64) : bits .andNot .u64 (m : Int) ((2 ^ k : Nat) : Int) = ((if m.testBit k = true then m ^^^ 2 ^ k else m : Nat) : Int) := by
  have hp : 2 ^ k < 2 ^ 64 := Nat.pow_lt_pow_right (by omega) hk
  have h1 : (BitVec.ofInt 64 (m : Int) &&& ~~~BitVec.ofInt 64 ((2 ^ k : Nat) : Int)).toNat = if m.testBit k = true then m ^^^ 2 ^ k else m := by
    rw [ofInt_nat, ofInt_nat]
    apply Nat.eq_of_testBit_eq
    intro i
    rw [← BitVec.getLsbD, BitVec.getLsbD_and, BitVec.getLsbD_not, BitVec.getLsbD_ofNat, BitVec.getLsbD_ofNat]
    by_cases hi : i < 64
    · by_cases hik : i = k
      · subst hik
        cases h : m.testBit i <;> simp [h, hi, Nat.testBit_xor, Nat.testBit_two_pow_self]
      · have : (2 ^ k).testBit i = false := Nat.testBit_two_pow_of_ne (Ne.symm hik)
        split <;> simp [hi, Nat.testBit_xor, this]
    · have h2 : m.testBit i = false := Nat.testBit_lt_two_pow (Nat.lt_of_lt_of_le hm (Nat.pow_le_pow_right (by omega) (by omega)))
      have h3 : (2 ^ k).testBit i = false := Nat.testBit_two_pow_of_ne (by omega)
      split <;> simp [hi, Nat.testBit_xor, h2, h3]
  show IntKind.u64.wrap ((BitVec.ofInt 64 (m : Int) &&& ~~~BitVec.ofInt 64 ((2 ^ k : Nat) : Int)).toNat : Int) = _
  rw [h1]
  apply wrap_u64
  split
  · exact Nat.xor_lt_two_pow hm hp
  · exact hm
theorem cellOf_map (ms : List RwM) (k q : Nat) (hk : k < ms.length) (hq : q < ms[k].cells.length) : cellOf (ms.map RwM.rw) k q = ms[k].cells[q].l := by
  simp [cellOf, RwM.rw, hk, hq]
/-- what left tells -/
def LeftPost (m : Nat) (w : World) (e : Ending) (w' : World) : Prop := e = .returned (.int .u64 (m : Int)) ∧ Below w.heap.size w w'
set_option maxRecDepth 20000 in
set_option maxHeartbeats 1000000 in
theorem left_any (qv : Value) (ms : List RwM) (A : Option Addr) (c : Nat) (m q : Nat) (a : Int) (hm : m < 2 ^ 64) (h64 : ms.length ≤ 63) (hq : ∀ r ∈ ms, q < r.cells.length) (w : World) (h : RowsP w A ms) :
    Calls Tryd.prog 67 #[.agg #[qv, .slice A ms.length c], .int .u64 m, .int .i64 q, .int .i64 a] w (LeftPost (lft (ms.map RwM.rw) q a m ms.length) w) := by
  have hbk := Blk.new w 31 [qv, .slice A ms.length c]
  have hx := ext_alloc w (.cells (List.toArray [qv, .slice A ms.length c]) 31)
  obtain ⟨W, hW⟩ : ∃ W, W = w.alloc (.cells (List.toArray [qv, .slice A ms.length c]) 31) := ⟨_, rfl⟩
  rw [← hW] at hx hbk
  have HX := Lib.hid hx
  have HR := Lib.hid (h.ext hx)
  have HW := Lib.hid hW
  have HQ := Lib.hid hq
  have r1 := hbk.cell 1 rfl
  have HM0 := Lib.hid hm
  clear hbk hx hW h hq hm
  go_enter Tryd.func67, Tryd.ntmps67
  go_upto_region 1 with fail
  rw [show w.alloc (.cells #[qv, .slice A ms.length c] 31) = W from HW.out.symm]
  clear HW
  go_wp2_with fail
  go_loopw [1, 14] (fun t1 t14 wr => ∃ (j z : Nat), t1 = .int .u64 z ∧ Hid (z = lft (ms.map RwM.rw) q a m j) ∧ t14 = .int .i64 j ∧ j ≤ ms.length ∧ Hid (Below W.heap.size W wr)) (fun _ t14 _ => ms.length - (intOf t14).toNat)
  case atStart => exact ⟨0, m, rfl, rfl, rfl, by omega, Below.refl _ _⟩
  case round =>
    obtain ⟨j, z, rfl, HZ, rfl, hj, HB⟩ := hrel
    by_cases hlt : j < ms.length
    · have HR2 := Lib.hid (HR.out.ext HB.out)
      obtain ⟨b, o, rfl, c0, c1⟩ := HR2.out.row hlt
      have hcl : (j : Int) < ms.length := by omega
      have hz : z < 2 ^ 64 := by rw [HZ.out]; exact lft_lt _ _ _ _ HM0.out _ (by omega)
      obtain ⟨P, hP⟩ : ∃ P : Int, P = ((2 ^ j : Nat) : Int) := ⟨_, rfl⟩
      have e1 := shlN j (by omega)
      have e2 := andN z j (by omega)
      have e3 := andNotN z j hz (by omega)
      have hP0 : 0 < P := by rw [hP]; exact_mod_cast Nat.two_pow_pos j
      rw [← hP] at e1 e2 e3
      have HP := Lib.hid hP
      clear hP hz
      have hq0 := HQ.out _ (List.getElem_mem hlt)
      obtain ⟨f, hf⟩ : ∃ f, f = fitC ms[j].cells[q].l a := ⟨_, rfl⟩
      have HF := Lib.hid (show ∀ w : World, CellsP w ms[j].A ms[j].cells → Calls Tryd.prog 42 #[.agg #[.slice ms[j].A ms[j].cells.length ms[j].c, .string ⟨ms[j].out.toArray⟩], .int .i64 q, .int .i64 a] w (RetA f w) from fun w h => by
        rw [hf]
        exact fits_any ms[j].cells ms[j].A ms[j].c ⟨ms[j].out.toArray⟩ q a hq0 w h)
      have HCs := Lib.hid (HR2.out.cells _ (List.getElem_mem hlt))
      have HS := Lib.hid (show lft (ms.map RwM.rw) q a m (j + 1) = if z.testBit j = true ∧ f = false then z ^^^ 2 ^ j else z by
        rw [lft, cellOf_map ms j q hlt hq0, ← HZ.out, hf])
      clear hf hq0
      generalize ms[j] = r at *
      obtain ⟨cs, rA, rc, ro⟩ := r
      simp only at c0 c1 HF HCs
      have b0 := cell_ext (ext_alloc wr (.cells #[.slice rA cs.length rc, .string ⟨ro.toArray⟩] 95)) c0
      cases hb : z.testBit j with
      | false =>
        simp only [hb] at e2 e3 HS
        simp only [Bool.false_eq_true, if_false, false_and] at e2 e3 HS
        rw [show ((0 : Nat) : Int) = 0 from rfl] at e2
        go_wp2_with fail
        go_roundw
        case rel => exact ⟨j + 1, z, rfl, HS.out.symm, by go_num, by omega, (ext_trans HB.out (ext_alloc wr _))⟩
        case measure => simp [intOf]; omega
      | true =>
        simp only [hb, if_true, true_and] at e2 e3 HS
        rw [show ((2 ^ j : Nat) : Int) = P from HP.out.symm] at e2
        have hPb : (P != 0) = true := by simp; omega
        have HFt := Lib.hid (HF.out _ (HCs.out.ext (ext_alloc wr (.cells #[.slice rA cs.length rc, .string ⟨ro.toArray⟩] 95))))
        go_wp2_with fail
        refine HFt.out.mono ?_
        rintro e w' ⟨rfl, hb2⟩
        have HB2 := Lib.hid (ext_trans (ext_trans HB.out (ext_alloc wr _)) hb2)
        clear hb2
        cases f with
        | true =>
          go_wp2_with fail
          go_roundw
          case rel => exact ⟨j + 1, z, rfl, (show z = lft (ms.map RwM.rw) q a m (j + 1) by rw [HS.out]; simp), by go_num, by omega, HB2.out⟩
          case measure => simp [intOf]; omega
        | false =>
          go_wp2_with fail
          go_roundw
          case rel => exact ⟨j + 1, z ^^^ 2 ^ j, rfl, (show z ^^^ 2 ^ j = lft (ms.map RwM.rw) q a m (j + 1) by rw [HS.out]; simp), by go_num, by omega, HB2.out⟩
          case measure => simp [intOf]; omega
    · obtain rfl : ms.length = j := by omega
      go_wp2_with fail
      go_ret
      exact ⟨by rw [HZ.out]; rfl, ext_trans HX.out HB.out⟩
/-- all rows -/
theorem all_any (qv : Value) (A : Option Addr) (n c : Nat) (h64 : n ≤ 63) (w : World) :
    Calls Tryd.prog 40 #[.agg #[qv, .slice A n c]] w (LeftPost (2 ^ n - 1) w) := by
  have hbk := Blk.new w 31 [qv, .slice A n c]
  have hx := ext_alloc w (.cells (List.toArray [qv, .slice A n c]) 31)
  obtain ⟨W, hW⟩ : ∃ W, W = w.alloc (.cells (List.toArray [qv, .slice A n c]) 31) := ⟨_, rfl⟩
  rw [← hW] at hx hbk
  have HX := Lib.hid hx
  have HW := Lib.hid hW
  have r1 := hbk.cell 1 rfl
  have e1 := shlN n (by omega)
  have hp : 0 < 2 ^ n := Nat.two_pow_pos n
  have hp2 : 2 ^ n < 2 ^ 64 := Nat.pow_lt_pow_right (by omega) (by omega)
  obtain ⟨P, hP⟩ : ∃ P, P = 2 ^ n := ⟨_, rfl⟩
  rw [← hP] at e1 hp hp2 ⊢
  have hp3 : P < 18446744073709551616 := hp2
  clear hp2 hP hbk hx hW
  go_enter Tryd.func40, Tryd.ntmps40
  go_upto_region 1 with fail
  rw [show w.alloc (.cells #[qv, .slice A n c] 31) = W from HW.out.symm]
  clear HW
  go_wp2_with fail
  go_ret
  refine ⟨?_, HX.out⟩
  rw [show ((P - 1 : Nat) : Int) = (P : Int) - 1 by omega]
  rfl
end Go.Proofs.YtednlkchbjpabaaDoor.Gp

/- Counting working days: the program's before and Count, the document's CountDays. -/
import Derived.Test.YtnbpdknmbjkfeaaDoorCdRoll
namespace Go.Proofs.YtnbpdknmbjkfeaaDoor.CdM
open Go.RowKit Mem CdP MapSet Solve CdR Day Nest RefDay

theorem cnt_le (off : List Bool) (hol : List Int) (a : Int) : ∀ k, cnt off hol a k ≤ k
  | 0 => Nat.le_refl _
  | k + 1 => by
    have := cnt_le off hol a k
    simp only [cnt]
    split <;> omega
theorem bef_drop (l : List Bool) (j : Nat) (d : Int) (h : j < l.length) : bef (l.drop j) j d = (if l[j] then 0 else (d - 1 - j + 6) / 7) + bef (l.drop (j + 1)) (j + 1) d := by
  rw [List.drop_eq_getElem_cons h]
  rfl
set_option maxRecDepth 100000 in
set_option maxHeartbeats 2000000 in
theorem before_any (c : Cd) (b o : Nat) (A : Option Addr) (hc : Nat) (d : Int) (d0 : 1 ≤ d) (d1 : d ≤ 3652060) (w : World) (h : CdA w b o c A hc) :
    Calls Tryd.prog 70 #[.pointer (some ⟨b, o, none⟩), .int .i64 d] w fun e w' => e = .returned (.int .i64 (bef c.off 0 d)) ∧ w = w' := by
  obtain ⟨b0, b1, b2, b3, b4, b5, b6, hof⟩ : ∃ b0 b1 b2 b3 b4 b5 b6, c.off = [b0, b1, b2, b3, b4, b5, b6] := by
    obtain ⟨off, hol, len⟩ := c
    match off, len with
    | [b0, b1, b2, b3, b4, b5, b6], _ => exact ⟨b0, b1, b2, b3, b4, b5, b6, rfl⟩
  have cc : ∀ (j : Nat) (hj : j < 7), w.cell? ⟨b, o + j, none⟩ = some (.bool ([b0, b1, b2, b3, b4, b5, b6][j]'(by simpa using hj))) := fun j hj => by
    rw [h.off j hj]
    simp only [hof]
  have c0 := cc 0 (by omega)
  have c1 := cc 1 (by omega)
  have c2 := cc 2 (by omega)
  have c3 := cc 3 (by omega)
  have c4 := cc 4 (by omega)
  have c5 := cc 5 (by omega)
  have c6 := cc 6 (by omega)
  simp only [Nat.add_zero, List.getElem_cons_zero, List.getElem_cons_succ] at c0 c1 c2 c3 c4 c5 c6
  rw [hof]
  have HD := Lib.hid (fun j (hj : j < 7) => bef_drop [b0, b1, b2, b3, b4, b5, b6] j d (by simpa using hj))
  have i0 : ∀ w, (Instr.index 47 (.agg #[.bool b0, .bool b1, .bool b2, .bool b3, .bool b4, .bool b5, .bool b6]) (.int .i64 0)).run Tryd.prog w = .ok (.bool b0) w := fun _ => by kernel_rfl
  have i1 : ∀ w, (Instr.index 47 (.agg #[.bool b0, .bool b1, .bool b2, .bool b3, .bool b4, .bool b5, .bool b6]) (.int .i64 1)).run Tryd.prog w = .ok (.bool b1) w := fun _ => by kernel_rfl
  have i2 : ∀ w, (Instr.index 47 (.agg #[.bool b0, .bool b1, .bool b2, .bool b3, .bool b4, .bool b5, .bool b6]) (.int .i64 2)).run Tryd.prog w = .ok (.bool b2) w := fun _ => by kernel_rfl
  have i3 : ∀ w, (Instr.index 47 (.agg #[.bool b0, .bool b1, .bool b2, .bool b3, .bool b4, .bool b5, .bool b6]) (.int .i64 3)).run Tryd.prog w = .ok (.bool b3) w := fun _ => by kernel_rfl
  have i4 : ∀ w, (Instr.index 47 (.agg #[.bool b0, .bool b1, .bool b2, .bool b3, .bool b4, .bool b5, .bool b6]) (.int .i64 4)).run Tryd.prog w = .ok (.bool b4) w := fun _ => by kernel_rfl
  have i5 : ∀ w, (Instr.index 47 (.agg #[.bool b0, .bool b1, .bool b2, .bool b3, .bool b4, .bool b5, .bool b6]) (.int .i64 5)).run Tryd.prog w = .ok (.bool b5) w := fun _ => by kernel_rfl
  have i6 : ∀ w, (Instr.index 47 (.agg #[.bool b0, .bool b1, .bool b2, .bool b3, .bool b4, .bool b5, .bool b6]) (.int .i64 6)).run Tryd.prog w = .ok (.bool b6) w := fun _ => by kernel_rfl
  clear h cc hof
  go_enter Tryd.func70, Tryd.ntmps70
  go_wp2_with fail
  clear c0 c1 c2 c3 c4 c5 c6
  go_loop [5, 12] (fun t5 t12 => ∃ (n : Int) (j : Nat), t5 = .int .i64 n ∧ t12 = .int .i64 j ∧ j ≤ 7 ∧ 0 ≤ n ∧ n ≤ 600000 * j ∧ Hid (n + bef ([b0, b1, b2, b3, b4, b5, b6].drop j) j d = bef [b0, b1, b2, b3, b4, b5, b6] 0 d)) (fun _ t12 => 7 - (intOf t12).toNat)
  case atStart => exact ⟨0, 0, rfl, rfl, by omega, by omega, by omega, by show _ = _; simp⟩
  case round =>
    obtain ⟨n, j, rfl, rfl, hj, hn0, hn1, HN⟩ := hrel
    have hcase : j = 0 ∨ j = 1 ∨ j = 2 ∨ j = 3 ∨ j = 4 ∨ j = 5 ∨ j = 6 ∨ j = 7 := by omega
    rcases hcase with rfl | rfl | rfl | rfl | rfl | rfl | rfl | rfl
    · have HE := Lib.hid (HN.out.symm.trans (congrArg (fun x => n + x) (HD.out 0 (by omega))))
      cases b0
      · have HE2 := Lib.hid (show n + (d - 1 - 0 + 6) / 7 + bef ([false, b1, b2, b3, b4, b5, b6].drop 1) 1 d = bef [false, b1, b2, b3, b4, b5, b6] 0 d by have := HE.out; simp at this; simp; omega)
        go_wp2_with fail
        go_round
        case rel => exact ⟨n + (d - 1 - 0 + 6) / 7, 1, by first | rfl | (congr 1; omega) | go_num, by go_num, by omega, by omega, by omega, HE2.out⟩
        case measure => simp [intOf]
      · have HE2 := Lib.hid (show n + bef ([true, b1, b2, b3, b4, b5, b6].drop 1) 1 d = bef [true, b1, b2, b3, b4, b5, b6] 0 d by have := HE.out; simp at this; simp; omega)
        go_wp2_with fail
        go_round
        case rel => exact ⟨n, 1, rfl, by go_num, by omega, by omega, by omega, HE2.out⟩
        case measure => simp [intOf]
    · have HE := Lib.hid (HN.out.symm.trans (congrArg (fun x => n + x) (HD.out 1 (by omega))))
      cases b1
      · have HE2 := Lib.hid (show n + (d - 1 - 1 + 6) / 7 + bef ([b0, false, b2, b3, b4, b5, b6].drop 2) 2 d = bef [b0, false, b2, b3, b4, b5, b6] 0 d by have := HE.out; simp at this; simp; omega)
        go_wp2_with fail
        go_round
        case rel => exact ⟨n + (d - 1 - 1 + 6) / 7, 2, by first | rfl | (congr 1; omega) | go_num, by go_num, by omega, by omega, by omega, HE2.out⟩
        case measure => simp [intOf]
      · have HE2 := Lib.hid (show n + bef ([b0, true, b2, b3, b4, b5, b6].drop 2) 2 d = bef [b0, true, b2, b3, b4, b5, b6] 0 d by have := HE.out; simp at this; simp; omega)
        go_wp2_with fail
        go_round
        case rel => exact ⟨n, 2, rfl, by go_num, by omega, by omega, by omega, HE2.out⟩
        case measure => simp [intOf]
    · have HE := Lib.hid (HN.out.symm.trans (congrArg (fun x => n + x) (HD.out 2 (by omega))))
      cases b2
      · have HE2 := Lib.hid (show n + (d - 1 - 2 + 6) / 7 + bef ([b0, b1, false, b3, b4, b5, b6].drop 3) 3 d = bef [b0, b1, false, b3, b4, b5, b6] 0 d by have := HE.out; simp at this; simp; omega)
        go_wp2_with fail
        go_round
        case rel => exact ⟨n + (d - 1 - 2 + 6) / 7, 3, by first | rfl | (congr 1; omega) | go_num, by go_num, by omega, by omega, by omega, HE2.out⟩
        case measure => simp [intOf]
      · have HE2 := Lib.hid (show n + bef ([b0, b1, true, b3, b4, b5, b6].drop 3) 3 d = bef [b0, b1, true, b3, b4, b5, b6] 0 d by have := HE.out; simp at this; simp; omega)
        go_wp2_with fail
        go_round
        case rel => exact ⟨n, 3, rfl, by go_num, by omega, by omega, by omega, HE2.out⟩
        case measure => simp [intOf]
    · have HE := Lib.hid (HN.out.symm.trans (congrArg (fun x => n + x) (HD.out 3 (by omega))))
      cases b3
      · have HE2 := Lib.hid (show n + (d - 1 - 3 + 6) / 7 + bef ([b0, b1, b2, false, b4, b5, b6].drop 4) 4 d = bef [b0, b1, b2, false, b4, b5, b6] 0 d by have := HE.out; simp at this; simp; omega)
        go_wp2_with fail
        go_round
        case rel => exact ⟨n + (d - 1 - 3 + 6) / 7, 4, by first | rfl | (congr 1; omega) | go_num, by go_num, by omega, by omega, by omega, HE2.out⟩
        case measure => simp [intOf]
      · have HE2 := Lib.hid (show n + bef ([b0, b1, b2, true, b4, b5, b6].drop 4) 4 d = bef [b0, b1, b2, true, b4, b5, b6] 0 d by have := HE.out; simp at this; simp; omega)
        go_wp2_with fail
        go_round
        case rel => exact ⟨n, 4, rfl, by go_num, by omega, by omega, by omega, HE2.out⟩
        case measure => simp [intOf]
    · have HE := Lib.hid (HN.out.symm.trans (congrArg (fun x => n + x) (HD.out 4 (by omega))))
      cases b4
      · have HE2 := Lib.hid (show n + (d - 1 - 4 + 6) / 7 + bef ([b0, b1, b2, b3, false, b5, b6].drop 5) 5 d = bef [b0, b1, b2, b3, false, b5, b6] 0 d by have := HE.out; simp at this; simp; omega)
        go_wp2_with fail
        go_round
        case rel => exact ⟨n + (d - 1 - 4 + 6) / 7, 5, by first | rfl | (congr 1; omega) | go_num, by go_num, by omega, by omega, by omega, HE2.out⟩
        case measure => simp [intOf]
      · have HE2 := Lib.hid (show n + bef ([b0, b1, b2, b3, true, b5, b6].drop 5) 5 d = bef [b0, b1, b2, b3, true, b5, b6] 0 d by have := HE.out; simp at this; simp; omega)
        go_wp2_with fail
        go_round
        case rel => exact ⟨n, 5, rfl, by go_num, by omega, by omega, by omega, HE2.out⟩
        case measure => simp [intOf]
    · have HE := Lib.hid (HN.out.symm.trans (congrArg (fun x => n + x) (HD.out 5 (by omega))))
      cases b5
      · have HE2 := Lib.hid (show n + (d - 1 - 5 + 6) / 7 + bef ([b0, b1, b2, b3, b4, false, b6].drop 6) 6 d = bef [b0, b1, b2, b3, b4, false, b6] 0 d by have := HE.out; simp at this; simp; omega)
        go_wp2_with fail
        go_round
        case rel => exact ⟨n + (d - 1 - 5 + 6) / 7, 6, by first | rfl | (congr 1; omega) | go_num, by go_num, by omega, by omega, by omega, HE2.out⟩
        case measure => simp [intOf]
      · have HE2 := Lib.hid (show n + bef ([b0, b1, b2, b3, b4, true, b6].drop 6) 6 d = bef [b0, b1, b2, b3, b4, true, b6] 0 d by have := HE.out; simp at this; simp; omega)
        go_wp2_with fail
        go_round
        case rel => exact ⟨n, 6, rfl, by go_num, by omega, by omega, by omega, HE2.out⟩
        case measure => simp [intOf]
    · have HE := Lib.hid (HN.out.symm.trans (congrArg (fun x => n + x) (HD.out 6 (by omega))))
      cases b6
      · have HE2 := Lib.hid (show n + (d - 1 - 6 + 6) / 7 + bef ([b0, b1, b2, b3, b4, b5, false].drop 7) 7 d = bef [b0, b1, b2, b3, b4, b5, false] 0 d by have := HE.out; simp at this; simp; omega)
        go_wp2_with fail
        go_round
        case rel => exact ⟨n + (d - 1 - 6 + 6) / 7, 7, by first | rfl | (congr 1; omega) | go_num, by go_num, by omega, by omega, by omega, HE2.out⟩
        case measure => simp [intOf]
      · have HE2 := Lib.hid (show n + bef ([b0, b1, b2, b3, b4, b5, true].drop 7) 7 d = bef [b0, b1, b2, b3, b4, b5, true] 0 d by have := HE.out; simp at this; simp; omega)
        go_wp2_with fail
        go_round
        case rel => exact ⟨n, 7, rfl, by go_num, by omega, by omega, by omega, HE2.out⟩
        case measure => simp [intOf]
    · have HE := Lib.hid (show n = bef [b0, b1, b2, b3, b4, b5, b6] 0 d by have := HN.out; simp [bef] at this; simp [bef]; omega)
      go_wp2_with fail
      go_ret
      exact ⟨ret_int HE.out, rfl⟩
end Go.Proofs.YtnbpdknmbjkfeaaDoor.CdM

/- Walking working days: the program's Works and step. Walking working days: the program's step. -/
import Derived.Test.YtjfiodknjchngaaGreatDoorCdP
import Derived.Test.YtjfiodknjchngaaGreatDoorCdR
import Derived.Test.YtjfiodknjchngaaGreatDoorDay
import Derived.Test.YtjfiodknjchngaaGreatDoorSolve
namespace Go.Proofs.YtjfiodknjchngaaGreatDoor.CdM
open Go.RowKit Mem CdP MapSet Solve CdR Day Nest

end Go.Proofs.YtjfiodknjchngaaGreatDoor.CdM
namespace Go.Proofs.YtjfiodknjchngaaGreatDoor.CdM
open Go.RowKit Mem CdP MapSet Solve CdR Day Nest

/-- the error of a walk that leaves the days -/
def errR (eD : Value) : Option Int → Value
  | some _ => .nilIface
  | none => eD
def StepPost (c : Cd) (st d : Int) (n : Nat) (eD : Value) (w : World) (e : Ending) (w' : World) : Prop :=
  ∃ r, Walk c st d n r ∧ Below w.heap.size w w' ∧ e = .returned (.tuple #[.int .i64 (resOf r).1, errR eD r])
set_option maxHeartbeats 1000000 in
theorem seven_eq (b0 b1 b2 b3 b4 b5 b6 : Bool) (w : World) : (Op.equalIn 10000 97 (.agg #[.bool b0, .bool b1, .bool b2, .bool b3, .bool b4, .bool b5, .bool b6]) (.agg #[.bool true, .bool true, .bool true, .bool true, .bool true, .bool true, .bool true])).run Tryz.prog w = .ok (b0 && b1 && b2 && b3 && b4 && b5 && b6) w := by
  cases b0 <;> cases b1 <;> cases b2 <;> cases b3 <;> cases b4 <;> cases b5 <;> cases b6 <;> kernel_rfl
theorem all_seven (b0 b1 b2 b3 b4 b5 b6 : Bool) (hol : List Int) (len : [b0, b1, b2, b3, b4, b5, b6].length = 7) : allB ⟨[b0, b1, b2, b3, b4, b5, b6], hol, len⟩ = (b0 && b1 && b2 && b3 && b4 && b5 && b6) := by
  unfold allB
  simp [Bool.and_assoc]
set_option maxRecDepth 100000 in
set_option maxHeartbeats 2000000 in
theorem step_any (c : Cd) (hh : c.hol.length ≤ 1048576) (hwf : ∀ x ∈ c.hol, (Lit.int .i64 x).wf = true) (b o : Nat) (A : Option Addr) (hc : Nat) (st : Int) (hst : st = 1 ∨ st = -1) (d : Int) (d0 : 0 ≤ d) (d1 : d ≤ 3652060) (n : Nat) (hn0 : 0 < n) (hn : n ≤ 1000000) (aD : Addr) (w : World) (h : CdA w b o c A hc) (hE : w.cell? ⟨0, 0, none⟩ = some (errV aD)) :
    Calls Tryz.prog 104 #[.pointer (some ⟨b, o, none⟩), .int .i64 d, .int .i64 st, .int .i64 n] w (StepPost c st d n (errV aD) w) := by
  have H := Lib.hid h
  have HWF := Lib.hid hwf
  have HE := Lib.hid hE
  have h7 := h.hol
  obtain ⟨b0, b1, b2, b3, b4, b5, b6, hof⟩ : ∃ b0 b1 b2 b3 b4 b5 b6, c.off = [b0, b1, b2, b3, b4, b5, b6] := by
    obtain ⟨off, hol, len⟩ := c
    match off, len with
    | [b0, b1, b2, b3, b4, b5, b6], _ => exact ⟨b0, b1, b2, b3, b4, b5, b6, rfl⟩
  have cc : ∀ (j : Nat) (hj : j < 7), w.cell? ⟨b, o + j, none⟩ = some (.bool ([b0, b1, b2, b3, b4, b5, b6][j]'(by simpa using hj))) := fun j hj => by
    rw [h.off j hj]
    simp only [hof]
  have c0 := cc 0 (by omega)
  have c1 := cc 1 (by omega)
  have c2 := cc 2 (by omega)
  have c3 := cc 3 (by omega)
  have c4 := cc 4 (by omega)
  have c5 := cc 5 (by omega)
  have c6 := cc 6 (by omega)
  simp only [Nat.add_zero, List.getElem_cons_zero, List.getElem_cons_succ] at c0 c1 c2 c3 c4 c5 c6
  have hall0 : allB c = (b0 && b1 && b2 && b3 && b4 && b5 && b6) := by
    unfold allB
    rw [hof]
    simp [Bool.and_assoc]
  have h7e := seven_eq b0 b1 b2 b3 b4 b5 b6
  rw [← hall0] at h7e
  obtain ⟨ab, hab⟩ : ∃ ab, ab = allB c := ⟨_, rfl⟩
  have HAb := Lib.hid hab
  rw [← hab] at h7e
  have hmm := @run_makeMap Tryz.prog
  unfold errV at hE
  clear h hwf cc hof hall0 hab
  cases ab
  · clear hE
    have hX0 := ext_alloc w (.map #[] 0)
    have HX0 := Lib.hid hX0
    have h7x := cell_ext hX0 h7
    have HF0 := Lib.hid (show FreeM (w.alloc (.map #[] 0)) w.heap.size 0 (c.hol.take 0) from (SetM.made w).congr fun v => by simp)
    have HAf := Lib.hid HAb.out
    clear hX0 h7 HAb
    go_enter Tryz.func104, Tryz.ntmps104
    go_wp2_with fail
    clear c0 c1 c2 c3 c4 c5 c6 h7x h7e hmm
    go_loopw [26] (fun t26 wr => ∃ j : Nat, t26 = .int .i64 j ∧ j ≤ c.hol.length ∧ Hid (Below w.heap.size w wr) ∧ Hid (FreeM wr w.heap.size j (c.hol.take j))) (fun t26 _ => c.hol.length - (intOf t26).toNat)
    case atStart => exact ⟨0, rfl, Nat.zero_le _, HX0.out, HF0.out⟩
    case round =>
      clear HX0 HF0
      obtain ⟨j, rfl, hj, HB, HF⟩ := hrel
      by_cases hlt : j < c.hol.length
      · obtain ⟨b', o', rfl, hx⟩ := (H.out.ext HB.out).rd.int hlt
        obtain ⟨w1, hrun, hs, hg⟩ := SetM.update HF.out int_law Tryz.underlying209 Tryz.underlying4 (by unfold maxLen; omega) (int_key c.hol[j] (HWF.out _ (List.getElem_mem hlt)))
        have HB1 := Lib.hid (HB.out.trans (grown_keep hg (Nat.le_refl _) HB.out.size))
        have HF1 := Lib.hid (show FreeM w1 w.heap.size (j + 1) (c.hol.take (j + 1)) from hs.congr fun v => by
          rw [List.take_succ_eq_append_getElem hlt]
          constructor
          · rintro (rfl | ⟨y, hy, rfl⟩)
            · exact ⟨_, List.mem_append_right _ (List.mem_singleton.2 rfl), rfl⟩
            · exact ⟨y, List.mem_append_left _ hy, rfl⟩
          · rintro ⟨y, hy, rfl⟩
            rcases List.mem_append.1 hy with hy | hy
            · exact .inr ⟨y, hy, rfl⟩
            · rw [List.mem_singleton] at hy; subst hy; exact .inl rfl)
        clear hs hg
        generalize c.hol[j] = x at *
        go_wp2_with fail
        go_roundw
        case rel => exact ⟨j + 1, by go_num, by omega, HB1.out, HF1.out⟩
        case measure => simp [intOf]; omega
      · obtain rfl : c.hol.length = j := by omega
        have HF2 := Lib.hid (show FreeM wr w.heap.size c.hol.length c.hol by have := HF.out; rwa [List.take_length] at this)
        obtain ⟨w0, hw0⟩ : ∃ w0, w0 = wr := ⟨_, rfl⟩
        go_wp2_with fail
        go_loopw [1, 3] (fun t1 t3 wq => ∃ (x : Int) (m : Nat), t1 = .int .i64 x ∧ t3 = .int .i64 m ∧ 0 ≤ x ∧ x ≤ 3652060 ∧ m ≤ n ∧ Hid (∀ r, Walk c st x m r → Walk c st d n r) ∧ Hid (Below w0.heap.size w0 wq)) (fun t1 _ _ => if st = 1 then (3652060 - intOf t1).toNat else (intOf t1).toNat)
        case atStart => exact ⟨d, n, rfl, rfl, d0, d1, Nat.le_refl _, fun r hr => hr, by rw [hw0]; exact Below.refl _ _⟩
        case round =>
          rw [← hw0] at HB HF2
          clear hw0
          obtain ⟨x, m, rfl, rfl, hx0, hx1, hm, HW, HBq⟩ := hrel
          have HBw := Lib.hid (ext_trans HB.out HBq.out)
          by_cases hm0 : 0 < m
          · have hm0' : decide (0 < (m : Int)) = true := by simp; omega
            obtain ⟨s1, s2⟩ : -1 ≤ st ∧ st ≤ 1 := by omega
            by_cases hgd : Gd (x + st)
            · have HGd := Lib.hid hgd
              obtain ⟨g1, g2⟩ := hgd
              have HWk := Lib.hid (fun w => week_yes (x + st) g1 g2 w)
              have hf := (H.out.ext HBw.out).flag (x + st)
              have hlk : ∀ q, (Instr.lookup 209 (.map (some w.heap.size)) (.int .i64 (x + st)) false).run Tryz.prog (wr.drewN q) = .ok (.bool (c.hol.contains (x + st))) (wr.drewN q) := fun q => FreeM.look (SetM.ext (SetM.ext HF2.out HBq.out) (ext_drewN wr q)) _ (Go.WalkArith.wf_i64 (by omega))
              have hmo0 : (0 : Int) ≤ (x + st - 1) % 7 := by omega
              have hmo1 : (x + st - 1) % 7 < 7 := by omega
              have HOn := Lib.hid (fun (k : Nat) (hk : m = k + 1) (hw : wk c.off c.hol (x + st) = true) r (hr : Walk c st (x + st) k r) => HW.out r (hk ▸ .on _ _ _ HGd.out hw hr))
              have HOff := Lib.hid (fun (hw : wk c.off c.hol (x + st) = false) r (hr : Walk c st (x + st) m r) => HW.out r (by obtain ⟨k, rfl⟩ : ∃ k, m = k + 1 := ⟨m - 1, by omega⟩; exact .off _ _ _ HGd.out hw hr))
              have HWv := Lib.hid (show wk c.off c.hol (x + st) = (!offAt c.off (x + st) && !c.hol.contains (x + st)) from rfl)
              generalize offAt c.off (x + st) = f at *
              generalize c.hol.contains (x + st) = g at *
              generalize (x + st - 1) % 7 = mo at *
              cases f
              · cases g
                · have HWn := Lib.hid (HOn.out (m - 1) (by omega) (by rw [HWv.out]; rfl))
                  clear HOn HOff HWv
                  go_wp2_with fail
                  refine (good_yes (x + st) g1 g2 _).mono ?_
                  rintro e w' ⟨rfl, rfl⟩
                  go_wp2_with fail
                  go_quiet ((go_at_call 135; exact Calls.quiet_of_same ((HWk.out _).mono fun e w' h => ⟨h.1, h.2.symm⟩)))
                  go_wp2_with fail
                  go_roundw
                  case rel => exact ⟨x + st, m - 1, rfl, by go_num, by omega, by omega, by omega, HWn.out, ext_trans HBq.out (ext_drewN _ _)⟩
                  case measure => rcases hst with rfl | rfl <;> simp [intOf] <;> omega
                · have HWn := Lib.hid (HOff.out (by rw [HWv.out]; rfl))
                  clear HOn HOff HWv
                  go_wp2_with fail
                  refine (good_yes (x + st) g1 g2 _).mono ?_
                  rintro e w' ⟨rfl, rfl⟩
                  go_wp2_with fail
                  go_quiet ((go_at_call 135; exact Calls.quiet_of_same ((HWk.out _).mono fun e w' h => ⟨h.1, h.2.symm⟩)))
                  go_wp2_with fail
                  go_roundw
                  case rel => exact ⟨x + st, m, rfl, rfl, by omega, by omega, by omega, HWn.out, ext_trans HBq.out (ext_drewN _ _)⟩
                  case measure => rcases hst with rfl | rfl <;> simp [intOf] <;> omega
              · have HWn := Lib.hid (HOff.out (by rw [HWv.out]; rfl))
                clear HOn HOff HWv hlk
                go_wp2_with fail
                refine (good_yes (x + st) g1 g2 _).mono ?_
                rintro e w' ⟨rfl, rfl⟩
                go_wp2_with fail
                go_quiet ((go_at_call 135; exact Calls.quiet_of_same ((HWk.out _).mono fun e w' h => ⟨h.1, h.2.symm⟩)))
                go_wp2_with fail
                go_roundw
                case rel => exact ⟨x + st, m, rfl, rfl, by omega, by omega, by omega, HWn.out, ext_trans HBq.out (ext_drewN _ _)⟩
                case measure => rcases hst with rfl | rfl <;> simp [intOf] <;> omega
            · have HNg := Lib.hid hgd
              have HI := Lib.hid (fun w => good_no (x + st) (by unfold Gd at hgd; omega) w)
              have hE2 := cell_ext HBw.out HE.out
              unfold errV at hE2
              clear hgd
              go_wp2_with fail
              refine (HI.out _).mono ?_
              rintro e w' ⟨rfl, rfl⟩
              go_wp2_with fail
              go_quiet (fail)
              go_wp2_with fail
              go_ret2
              obtain ⟨k, rfl⟩ : ∃ k, m = k + 1 := ⟨m - 1, by omega⟩
              exact ⟨none, HW.out _ (.out _ _ HNg.out), ext_trans HBw.out (ext_drewN _ _), rfl⟩
          · obtain rfl : m = 0 := by omega
            go_wp2_with fail
            go_ret2
            exact ⟨some x, HW.out _ (.done x), HBw.out, rfl⟩
  · go_enter Tryz.func104, Tryz.ntmps104
    go_wp2_with fail
    go_quiet (fail)
    go_wp2_with fail
    go_ret2
    obtain ⟨m, rfl⟩ : ∃ m, n = m + 1 := ⟨n - 1, by omega⟩
    exact ⟨none, Walk.none_of_off (all_true HAb.out.symm) st hst m 3652060 d (fun _ => by omega) (fun _ => by omega), ext_drewN _ _, rfl⟩
end Go.Proofs.YtjfiodknjchngaaGreatDoor.CdM

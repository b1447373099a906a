/- The document's calendar of working days: Works, allOff, walk, Roll, Add. -/
import Derived.Test.YtjfiodknjchngaaGreatDoorCdP
import Derived.Test.YtjfiodknjchngaaGreatDoorRefDay
import Derived.Test.YtjfiodknjchngaaGreatDoorNest
import Derived.Test.YtjfiodknjchngaaGreatDoorDay
namespace Go.Proofs.YtjfiodknjchngaaGreatDoor.CdR
open Go.RowKit Mem CdP CdM RefDay Nest

def worksB (c : Cd) (d : Int) : Bool := decide (Gd d) && wk c.off c.hol d
theorem contains_iff (hol : List Int) (d : Int) : hol.contains d = true ↔ ∃ (j : Nat) (h : j < hol.length), hol[j] = d := by
  rw [List.contains_iff_mem]
  exact ⟨fun h => by obtain ⟨j, hj, e⟩ := List.mem_iff_getElem.1 h; exact ⟨j, hj, e⟩, fun ⟨j, hj, e⟩ => e ▸ List.getElem_mem hj⟩
set_option maxHeartbeats 1000000 in
theorem works_any (c : Cd) (hh : c.hol.length ≤ 1048576) (b o : Nat) (A : Option Addr) (hc : Nat) (d : Int) (w : World) (h : CdA w b o c A hc) :
    Calls Tryz.prog 103 #[.pointer (some ⟨b, o, none⟩), .int .i64 d] w fun e w' => e = .returned (.bool (worksB c d)) ∧ ∃ n, w' = w.drewN n := by
  by_cases hg : Gd d
  · have HG := Lib.hid hg
    obtain ⟨g1, g2⟩ := hg
    have hf := h.flag d
    have h7 := h.hol
    have HR := Lib.hid h.rd
    have HW := Lib.hid (fun n => weekof_yes d g1 g2 (w.drewN n))
    have HI := Lib.hid (fun w => isday_yes d g1 g2 w)
    have hm0 : (0 : Int) ≤ (d - 1) % 7 := by omega
    have hm1 : (d - 1) % 7 < 7 := by omega
    obtain ⟨f, hff⟩ : ∃ f, f = offAt c.off d := ⟨_, rfl⟩
    have HF := Lib.hid hff
    rw [← hff] at hf
    clear h hff
    generalize (d - 1) % 7 = m at *
    go_enter Tryz.func103, Tryz.ntmps103
    go_wp2_with fail
    refine (HI.out _).mono ?_
    rintro e w' ⟨rfl, rfl⟩
    go_wp2_with fail
    go_quiet ((go_at_call 134; exact Calls.quiet_of_same ((HW.out _).mono fun e w' h => ⟨h.1, h.2.symm⟩)))
    cases f
    · go_wp2_with fail
      go_loop [6] (fun t6 => ∃ j : Nat, t6 = .int .i64 j ∧ j ≤ c.hol.length ∧ Hid (∀ k (h : k < c.hol.length), k < j → c.hol[k] ≠ d)) (fun t6 => c.hol.length - (intOf t6).toNat)
      case atStart => exact ⟨0, rfl, Nat.zero_le _, fun k _ hk => absurd hk (by omega)⟩
      case round =>
        obtain ⟨j, rfl, hj, HN⟩ := hrel
        by_cases hlt : j < c.hol.length
        · obtain ⟨b', o', hA, hx⟩ := (HR.out.ext (ext_drewN w nq)).int hlt
          have HX := Lib.hid (show c.hol[j] = d → c.hol.contains d = true from fun e => (contains_iff _ _).2 ⟨j, hlt, e⟩)
          have HN2 := Lib.hid (show c.hol[j] ≠ d → ∀ k (h : k < c.hol.length), k < j + 1 → c.hol[k] ≠ d from fun hne k h hk => by
            by_cases e : k = j
            · subst e; exact hne
            · exact HN.out k h (by omega))
          have hx2 : w.cell? ⟨b', o' + j, none⟩ = some (.int .i64 c.hol[j]) := hx
          rw [hA] at h7
          clear hA hx HN
          generalize c.hol[j] = x at *
          by_cases hxd : x = d
          · have HC := Lib.hid (HX.out hxd)
            have hxd' : (x == d) = true := by simp [hxd]
            clear hxd HN2
            go_wp2_with fail
            go_ret
            have hr : worksB c d = false := by unfold worksB wk; rw [HC.out]; simp
            exact ⟨Day.ret_bool hr.symm, _, rfl⟩
          · have HNe := Lib.hid (HN2.out hxd)
            have hxd' : (x == d) = false := by simp [hxd]
            clear hxd HN2
            go_wp2_with fail
            go_round
            case rel => exact ⟨j + 1, by go_num, by omega, HNe.out⟩
            case measure => simp [intOf]; omega
        · obtain rfl : c.hol.length = j := by omega
          go_wp2_with fail
          go_ret
          have hr : worksB c d = true := by
            have hc : c.hol.contains d = false := by
              rw [Bool.eq_false_iff]
              intro e
              obtain ⟨k, hk, e⟩ := (contains_iff _ _).1 e
              exact HN.out k hk hk e
            unfold worksB wk
            rw [hc, ← HF.out]
            simp [HG.out]
          exact ⟨Day.ret_bool hr.symm, _, rfl⟩
    · go_wp2_with fail
      go_ret
      have hr : worksB c d = false := by unfold worksB wk; rw [← HF.out]; simp
      exact ⟨Day.ret_bool hr.symm, _, rfl⟩
  · have HG := Lib.hid hg
    have HI := Lib.hid (fun w => isday_no d (by unfold Gd at hg; omega) w)
    clear hg h
    go_enter Tryz.func103, Tryz.ntmps103
    go_wp2_with fail
    refine (HI.out _).mono ?_
    rintro e w' ⟨rfl, rfl⟩
    go_wp2_with fail
    go_ret
    have hr : worksB c d = false := by unfold worksB; simp [HG.out]
    exact ⟨Day.ret_bool hr.symm, 0, rfl⟩
/-- is no day of the week a working day? -/
def allB (c : Cd) : Bool := c.off.all id
set_option maxHeartbeats 1000000 in
theorem alloff_any (c : Cd) (b o : Nat) (A : Option Addr) (hc : Nat) (w : World) (h : CdA w b o c A hc) :
    Calls Tryz.prog 131 #[.pointer (some ⟨b, o, none⟩)] w fun e w' => e = .returned (.bool (allB c)) ∧ w = w' := by
  have HO := Lib.hid h.off
  have HL := Lib.hid c.len
  clear h
  go_enter Tryz.func131, Tryz.ntmps131
  go_wp2_with fail
  go_loop [3] (fun t3 => ∃ j : Nat, t3 = .int .i64 j ∧ j ≤ 7 ∧ Hid (∀ k (h : k < c.off.length), k < j → c.off[k] = true)) (fun t3 => 7 - (intOf t3).toNat)
  case atStart => exact ⟨0, rfl, Nat.zero_le _, fun k _ hk => absurd hk (by omega)⟩
  case round =>
    obtain ⟨j, rfl, hj, HN⟩ := hrel
    by_cases hlt : j < 7
    · have hx := HO.out j hlt
      have hlt' : (j : Int) < 7 := by omega
      have HM := Lib.hid (List.getElem_mem (l := c.off) (by rw [HL.out]; exact hlt))
      have HN2 := Lib.hid (show c.off[j]'(by rw [HL.out]; exact hlt) = true → ∀ k (h : k < c.off.length), k < j + 1 → c.off[k] = true from fun hne k h hk => by
        by_cases e : k = j
        · subst e; exact hne
        · exact HN.out k h (by omega))
      generalize c.off[j]'_ = f at *
      cases f
      · go_wp2_with fail
        go_ret
        have hr : allB c = false := by
          unfold allB
          rw [List.all_eq_false]
          exact ⟨false, HM.out, by simp⟩
        exact ⟨Day.ret_bool hr.symm, rfl⟩
      · have HN3 := Lib.hid (HN2.out rfl)
        clear HN2
        go_wp2_with fail
        go_round
        case rel => exact ⟨j + 1, by go_num, by omega, HN3.out⟩
        case measure => simp [intOf]; omega
    · obtain rfl : j = 7 := by omega
      go_wp2_with fail
      go_ret
      have hr : allB c = true := by
        unfold allB
        rw [List.all_eq_true]
        intro x hx
        obtain ⟨k, hk, rfl⟩ := List.mem_iff_getElem.1 hx
        exact HN.out k hk (by have := HL.out; omega)
      exact ⟨Day.ret_bool hr.symm, rfl⟩
theorem all_true {c : Cd} (h : allB c = true) : ∀ b ∈ c.off, b = true := fun b hb => by
  unfold allB at h
  rw [List.all_eq_true] at h
  exact h b hb
/-- where a walk ends, as a result -/
def resOf : Option Int → Int × Int
  | some d => (d, 0)
  | none => (0, 4)
def WalkPost (c : Cd) (st d : Int) (n : Nat) (w : World) (e : Ending) (w' : World) : Prop :=
  ∃ r, Walk c st d n r ∧ e = .returned (.tuple #[.int .i64 (resOf r).1, .int .i64 (resOf r).2]) ∧ Below w.heap.size w w'
set_option maxRecDepth 100000 in
set_option maxHeartbeats 2000000 in
theorem walk_any (c : Cd) (hh : c.hol.length ≤ 1048576) (b o : Nat) (A : Option Addr) (hc : Nat) (st : Int) (hst : st = 1 ∨ st = -1) (d : Int) (d0 : 0 ≤ d) (d1 : d ≤ 3652060) (n : Nat) (hn0 : 0 < n) (hn : n ≤ 1000000) (w : World) (h : CdA w b o c A hc) :
    Calls Tryz.prog 99 #[.pointer (some ⟨b, o, none⟩), .int .i64 d, .int .i64 st, .int .i64 n] w (WalkPost c st d n w) := by
  have H := Lib.hid h
  have HA := Lib.hid (alloff_any c b o A hc w h)
  clear h
  go_enter Tryz.func99, Tryz.ntmps99
  go_wp2_with fail
  refine HA.out.mono ?_
  rintro e w' ⟨rfl, rfl⟩
  by_cases hall : allB c = true
  · have HAll := Lib.hid (all_true hall)
    rw [hall]
    clear hall
    go_wp2_with fail
    go_ret2
    obtain ⟨m, rfl⟩ : ∃ m, n = m + 1 := ⟨n - 1, by omega⟩
    exact ⟨none, Walk.none_of_off HAll.out st hst m 3652060 d (fun _ => by omega) (fun _ => by omega), rfl, Below.refl _ _⟩
  · have hall' : allB c = false := by simpa using hall
    rw [hall']
    clear hall hall' HA
    go_wp2_with fail
    go_loopw [1, 3] (fun t1 t3 wr => ∃ (x : Int) (m : Nat), t1 = .int .i64 x ∧ t3 = .int .i64 m ∧ 0 ≤ x ∧ x ≤ 3652060 ∧ m ≤ n ∧ Hid (∀ r, Walk c st x m r → Walk c st d n r) ∧ Hid (Below w.heap.size w wr)) (fun t1 _ _ => if st = 1 then (3652060 - intOf t1).toNat else (intOf t1).toNat)
    case atStart => exact ⟨d, n, rfl, rfl, d0, d1, Nat.le_refl _, fun r hr => hr, Below.refl _ _⟩
    case round =>
      obtain ⟨x, m, rfl, rfl, hx0, hx1, hm, HW, HB⟩ := hrel
      by_cases hm0 : 0 < m
      · have hm0' : decide (0 < (m : Int)) = true := by simp; omega
        obtain ⟨s1, s2⟩ : -1 ≤ st ∧ st ≤ 1 := by omega
        by_cases hg : Gd (x + st)
        · have HGd := Lib.hid hg
          obtain ⟨g1, g2⟩ := hg
          go_wp2_with fail
          refine (isday_yes (x + st) g1 g2 _).mono ?_
          rintro e w' ⟨rfl, rfl⟩
          go_wp2_with fail
          refine (works_any c hh b o A hc (x + st) _ (H.out.ext HB.out)).mono ?_
          rintro e w1 ⟨rfl, nq, rfl⟩
          have HB1 := Lib.hid (ext_trans HB.out (ext_drewN wr nq))
          obtain ⟨k, rfl⟩ : ∃ k, m = k + 1 := ⟨m - 1, by omega⟩
          by_cases hw : wk c.off c.hol (x + st) = true
          · have HWk := Lib.hid (fun r (hr : Walk c st (x + st) k r) => HW.out r (.on _ _ _ HGd.out hw hr))
            have hwb : worksB c (x + st) = true := by unfold worksB; rw [hw]; simp [HGd.out]
            rw [hwb]
            clear hw hwb
            go_wp2_with fail
            go_roundw
            case rel => exact ⟨x + st, k, rfl, by go_num, by omega, by omega, by omega, HWk.out, HB1.out⟩
            case measure => rcases hst with rfl | rfl <;> simp [intOf] <;> omega
          · have HWk := Lib.hid (fun r (hr : Walk c st (x + st) (k + 1) r) => HW.out r (.off _ _ _ HGd.out (by simpa using hw) hr))
            have hwb : worksB c (x + st) = false := by unfold worksB; simp [hw]
            rw [hwb]
            clear hw hwb
            go_wp2_with fail
            go_roundw
            case rel => exact ⟨x + st, k + 1, rfl, rfl, by omega, by omega, by omega, HWk.out, HB1.out⟩
            case measure => rcases hst with rfl | rfl <;> simp [intOf] <;> omega
        · have HNg := Lib.hid hg
          have HI := Lib.hid (fun w => isday_no (x + st) (by unfold Gd at hg; omega) w)
          clear hg
          go_wp2_with fail
          refine (HI.out _).mono ?_
          rintro e w' ⟨rfl, rfl⟩
          go_wp2_with fail
          go_ret2
          obtain ⟨k, rfl⟩ : ∃ k, m = k + 1 := ⟨m - 1, by omega⟩
          exact ⟨none, HW.out _ (.out _ _ HNg.out), rfl, HB.out⟩
      · obtain rfl : m = 0 := by omega
        go_wp2_with fail
        go_ret2
        exact ⟨some x, HW.out _ (.done x), rfl, HB.out⟩
end Go.Proofs.YtjfiodknjchngaaGreatDoor.CdR

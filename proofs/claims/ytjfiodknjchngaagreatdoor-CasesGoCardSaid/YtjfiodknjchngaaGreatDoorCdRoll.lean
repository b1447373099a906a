/- Rolling days and adding working days: the program's functions and the document's. -/
import Derived.Test.YtjfiodknjchngaaGreatDoorCdStep
import Derived.Test.YtjfiodknjchngaaGreatDoorCoded1
namespace Go.Proofs.YtjfiodknjchngaaGreatDoor.CdM
open Go.RowKit Mem CdP MapSet Solve CdR Day Nest RefDay Err

def RollP (c : Cd) (d how : Int) (o : Int × Int) : Prop :=
  ((how < 0 ∨ 2 < how) ∧ o = (0, 9)) ∨ ((0 ≤ how ∧ how ≤ 2) ∧ ¬ Gd d ∧ o = (0, 4)) ∨ (Gd d ∧ how = 0 ∧ o = (d, 0)) ∨ (Gd d ∧ how = 1 ∧ ∃ r, Walk c 1 (d - 1) 1 r ∧ o = resOf r) ∨ (Gd d ∧ how = 2 ∧ ∃ r, Walk c (-1) (d + 1) 1 r ∧ o = resOf r)
def AddP (c : Cd) (d n : Int) (o : Int × Int) : Prop :=
  ((100000 < n ∨ n < -100000) ∧ o = (0, 2)) ∨ ((n ≤ 100000 ∧ -100000 ≤ n) ∧ ¬ Gd d ∧ o = (0, 4)) ∨ (Gd d ∧ n = 0 ∧ o = (d, 0)) ∨ (Gd d ∧ (0 < n ∧ n ≤ 100000) ∧ ∃ r, Walk c 1 d n.toNat r ∧ o = resOf r) ∨ (Gd d ∧ (n < 0 ∧ -100000 ≤ n) ∧ ∃ r, Walk c (-1) d (-n).toNat r ∧ o = resOf r)
theorem RollP.same {c : Cd} {d how : Int} {o o' : Int × Int} (h : RollP c d how o) (h' : RollP c d how o') : o = o' := by
  rcases h with ⟨a, rfl⟩ | ⟨a, b, rfl⟩ | ⟨a, b, rfl⟩ | ⟨a, b, r, hr, rfl⟩ | ⟨a, b, r, hr, rfl⟩ <;> rcases h' with ⟨a', rfl⟩ | ⟨a', b', rfl⟩ | ⟨a', b', rfl⟩ | ⟨a', b', r', hr', rfl⟩ | ⟨a', b', r', hr', rfl⟩ <;>
    first | rfl | (exfalso; omega) | (exfalso; exact absurd a' b) | (exfalso; exact absurd a b') | rw [hr.same hr']
theorem AddP.same {c : Cd} {d n : Int} {o o' : Int × Int} (h : AddP c d n o) (h' : AddP c d n o') : o = o' := by
  rcases h with ⟨a, rfl⟩ | ⟨a, b, rfl⟩ | ⟨a, b, rfl⟩ | ⟨a, b, r, hr, rfl⟩ | ⟨a, b, r, hr, rfl⟩ <;> rcases h' with ⟨a', rfl⟩ | ⟨a', b', rfl⟩ | ⟨a', b', rfl⟩ | ⟨a', b', r', hr', rfl⟩ | ⟨a', b', r', hr', rfl⟩ <;>
    first | rfl | (exfalso; omega) | (exfalso; exact absurd a' b) | (exfalso; exact absurd a b') | rw [hr.same hr']
/-- a number that stands for an error, or none -/
def CodeOk (k : Int) : Prop := k = 0 ∨ k = 2 ∨ k = 4 ∨ k = 9
theorem res_code (r : Option Int) : CodeOk (resOf r).2 := by cases r <;> simp [resOf, CodeOk]
theorem RollP.code {c : Cd} {d how : Int} {o : Int × Int} (h : RollP c d how o) : CodeOk o.2 := by
  rcases h with ⟨a, rfl⟩ | ⟨a, b, rfl⟩ | ⟨a, b, rfl⟩ | ⟨a, b, r, hr, rfl⟩ | ⟨a, b, r, hr, rfl⟩
  · simp [CodeOk]
  · simp [CodeOk]
  · simp [CodeOk]
  · exact res_code r
  · exact res_code r
theorem AddP.code {c : Cd} {d n : Int} {o : Int × Int} (h : AddP c d n o) : CodeOk o.2 := by
  rcases h with ⟨a, rfl⟩ | ⟨a, b, rfl⟩ | ⟨a, b, rfl⟩ | ⟨a, b, r, hr, rfl⟩ | ⟨a, b, r, hr, rfl⟩
  · simp [CodeOk]
  · simp [CodeOk]
  · simp [CodeOk]
  · exact res_code r
  · exact res_code r
/-- the error of a number -/
def errC (A : Nat → Addr) (k : Int) : Value := if k = 0 then .nilIface else errV (A (k - 1).toNat)
theorem errC_zero (A : Nat → Addr) : errC A 0 = .nilIface := rfl
theorem errC_four (A : Nat → Addr) : errC A 4 = errV (A 3) := rfl
theorem errC_nine (A : Nat → Addr) : errC A 9 = errV (A 8) := rfl
theorem errC_two (A : Nat → Addr) : errC A 2 = errV (A 1) := rfl
def PPost (A : Nat → Addr) (P : Int × Int → Prop) (w : World) (e : Ending) (w' : World) : Prop := ∃ o, P o ∧ e = .returned (.tuple #[.int .i64 o.1, errC A o.2]) ∧ Below w.heap.size w w'
def RPost (P : Int × Int → Prop) (w : World) (e : Ending) (w' : World) : Prop := ∃ o, P o ∧ e = .returned (.tuple #[.int .i64 o.1, .int .i64 o.2]) ∧ Below w.heap.size w w'
theorem step_res (A : Nat → Addr) (r : Option Int) : errR (errV (A 3)) r = errC A (resOf r).2 := by cases r <;> rfl
/-- the three errors that the calendar hands on -/
structure E3 (w : World) (A : Nat → Addr) : Prop where
  v1 : w.cell? ⟨1, 0, none⟩ = some (sentV (A 1))
  v3 : w.cell? ⟨0, 0, none⟩ = some (sentV (A 3))
  v8 : w.cell? ⟨3, 0, none⟩ = some (sentV (A 8))
theorem E3.below {w w' : World} {A : Nat → Addr} (h : E3 w A) (hb : Below w.heap.size w w') : E3 w' A := ⟨cell_below hb h.v1, cell_below hb h.v3, cell_below hb h.v8⟩
theorem e3 {w : World} {A : Nat → Addr} (h : Errs w A) : E3 w A := ⟨h.v1, h.v3, h.v8⟩
/-- a calendar's arguments that the walks ask for -/
structure CdOk (c : Cd) : Prop where
  len : c.hol.length ≤ 1048576
  wf : ∀ x ∈ c.hol, (Lit.int .i64 x).wf = true
set_option maxHeartbeats 1000000 in
theorem proll_any (c : Cd) (ok : CdOk c) (b o : Nat) (H : Option Addr) (hc : Nat) (d how : Int) (A : Nat → Addr) (w : World) (h : CdA w b o c H hc) (hE : E3 w A) :
    Calls Tryz.prog 85 #[.pointer (some ⟨b, o, none⟩), .int .i64 d, .int .i64 how] w (PPost A (RollP c d how) w) := by
  have h3 := hE.v3
  have h8 := hE.v8
  have HC := Lib.hid h
  unfold sentV at h3 h8
  clear h
  by_cases c1 : how < 0 ∨ 2 < how
  · have C1 := Lib.hid c1
    by_cases c2 : how < 0
    · clear c1
      have c2' : decide (how < 0) = true := by simp [c2]
      go_enter Tryz.func85, Tryz.ntmps85
      go_wp2_with fail
      go_quiet (fail)
      go_wp2_with fail
      go_ret2
      exact ⟨(0, 9), .inl ⟨C1.out, rfl⟩, rfl, ext_drewN _ _⟩
    · have c2' : decide (how < 0) = false := by simp; omega
      have c3' : decide (2 < how) = true := by simp; omega
      clear c1
      go_enter Tryz.func85, Tryz.ntmps85
      go_wp2_with fail
      go_quiet (fail)
      go_wp2_with fail
      go_ret2
      exact ⟨(0, 9), .inl ⟨C1.out, rfl⟩, rfl, ext_drewN _ _⟩
  · have hb : 0 ≤ how ∧ how ≤ 2 := by omega
    have hb1 : decide (how < 0) = false := by simp; omega
    have hb2 : decide (2 < how) = false := by simp; omega
    have HBd := Lib.hid hb
    by_cases hg : Gd d
    · have HG := Lib.hid hg
      obtain ⟨g1, g2⟩ := hg
      have HGo := Lib.hid (fun w => good_yes d g1 g2 w)
      have hcase : how = 0 ∨ how = 1 ∨ how = 2 := by omega
      clear c1 hb
      rcases hcase with rfl | rfl | rfl
      · go_enter Tryz.func85, Tryz.ntmps85
        go_wp2_with fail
        refine (HGo.out _).mono ?_
        rintro e w' ⟨rfl, rfl⟩
        go_wp2_with fail
        go_ret2
        exact ⟨(d, 0), .inr (.inr (.inl ⟨HG.out, rfl, rfl⟩)), rfl, Below.refl _ _⟩
      · have HS := Lib.hid (step_any c ok.len ok.wf b o H hc 1 (.inl rfl) (d - 1) (by omega) (by omega) 1 (by omega) (by omega) (A 3) w HC.out hE.v3)
        go_enter Tryz.func85, Tryz.ntmps85
        go_wp2_with fail
        refine (HGo.out _).mono ?_
        rintro e w' ⟨rfl, rfl⟩
        go_wp2_with fail
        refine HS.out.mono ?_
        rintro e w' ⟨r, hr, hb, rfl⟩
        have HR := Lib.hid hr
        have HB := Lib.hid hb
        rw [step_res]
        clear hr hb
        go_wp2_with fail
        go_ret2
        exact ⟨resOf r, .inr (.inr (.inr (.inl ⟨HG.out, rfl, r, HR.out, rfl⟩))), rfl, HB.out⟩
      · have HS := Lib.hid (step_any c ok.len ok.wf b o H hc (-1) (.inr rfl) (d + 1) (by omega) (by omega) 1 (by omega) (by omega) (A 3) w HC.out hE.v3)
        go_enter Tryz.func85, Tryz.ntmps85
        go_wp2_with fail
        refine (HGo.out _).mono ?_
        rintro e w' ⟨rfl, rfl⟩
        go_wp2_with fail
        refine HS.out.mono ?_
        rintro e w' ⟨r, hr, hb, rfl⟩
        have HR := Lib.hid hr
        have HB := Lib.hid hb
        rw [step_res]
        clear hr hb
        go_wp2_with fail
        go_ret2
        exact ⟨resOf r, .inr (.inr (.inr (.inr ⟨HG.out, rfl, r, HR.out, rfl⟩))), rfl, HB.out⟩
    · have HG := Lib.hid hg
      have HGo := Lib.hid (fun w => good_no d (by unfold Gd at hg; omega) w)
      clear hg c1 hb
      go_enter Tryz.func85, Tryz.ntmps85
      go_wp2_with fail
      refine (HGo.out _).mono ?_
      rintro e w' ⟨rfl, rfl⟩
      go_wp2_with fail
      go_quiet (fail)
      go_wp2_with fail
      go_ret2
      exact ⟨(0, 4), .inr (.inl ⟨HBd.out, HG.out, rfl⟩), rfl, ext_drewN _ _⟩
set_option maxHeartbeats 1000000 in
theorem padd_any (c : Cd) (ok : CdOk c) (b o : Nat) (H : Option Addr) (hc : Nat) (d n : Int) (A : Nat → Addr) (w : World) (h : CdA w b o c H hc) (hE : E3 w A) :
    Calls Tryz.prog 83 #[.pointer (some ⟨b, o, none⟩), .int .i64 d, .int .i64 n] w (PPost A (AddP c d n) w) := by
  have h3 := hE.v3
  have h1 := hE.v1
  have HC := Lib.hid h
  unfold sentV at h3 h1
  clear h
  by_cases c1 : 100000 < n
  · have C1 := Lib.hid c1
    have c1' : decide (100000 < n) = true := by simp [c1]
    clear c1
    go_enter Tryz.func83, Tryz.ntmps83
    go_wp2_with fail
    go_quiet (fail)
    go_wp2_with fail
    go_ret2
    exact ⟨(0, 2), .inl ⟨.inl C1.out, rfl⟩, rfl, ext_drewN _ _⟩
  have c1' : decide (100000 < n) = false := by simp; omega
  by_cases c2 : n < -100000
  · have C2 := Lib.hid c2
    have c2' : decide (n < -100000) = true := by simp [c2]
    clear c2
    go_enter Tryz.func83, Tryz.ntmps83
    go_wp2_with fail
    go_quiet (fail)
    go_wp2_with fail
    go_ret2
    exact ⟨(0, 2), .inl ⟨.inr C2.out, rfl⟩, rfl, ext_drewN _ _⟩
  have c2' : decide (n < -100000) = false := by simp; omega
  have hn1 : n ≤ 100000 := by omega
  have hn2 : -100000 ≤ n := by omega
  clear c1 c2
  by_cases hg : Gd d
  · have HG := Lib.hid hg
    obtain ⟨g1, g2⟩ := hg
    have HGo := Lib.hid (fun w => good_yes d g1 g2 w)
    by_cases n0 : n < 0
    · have hs := step_any c ok.len ok.wf b o H hc (-1) (.inr rfl) d (by omega) (by omega) (-n).toNat (by omega) (by omega) (A 3) w HC.out hE.v3
      rw [show (((-n).toNat : Nat) : Int) = -n by omega] at hs
      have HS := Lib.hid hs
      have n0' : decide (n < 0) = true := by simp [n0]
      clear hs
      go_enter Tryz.func83, Tryz.ntmps83
      go_wp2_with fail
      refine (HGo.out _).mono ?_
      rintro e w' ⟨rfl, rfl⟩
      go_wp2_with fail
      refine HS.out.mono ?_
      rintro e w' ⟨r, hr, hb, rfl⟩
      have HR := Lib.hid hr
      have HB := Lib.hid hb
      rw [step_res]
      clear hr hb
      go_wp2_with fail
      go_ret2
      exact ⟨resOf r, .inr (.inr (.inr (.inr ⟨HG.out, ⟨n0, hn2⟩, r, HR.out, rfl⟩))), rfl, HB.out⟩
    · have n0' : decide (n < 0) = false := by simp; omega
      by_cases nz : n = 0
      · subst nz
        go_enter Tryz.func83, Tryz.ntmps83
        go_wp2_with fail
        refine (HGo.out _).mono ?_
        rintro e w' ⟨rfl, rfl⟩
        go_wp2_with fail
        go_ret2
        exact ⟨(d, 0), .inr (.inr (.inl ⟨HG.out, rfl, rfl⟩)), rfl, Below.refl _ _⟩
      · have hs := step_any c ok.len ok.wf b o H hc 1 (.inl rfl) d (by omega) (by omega) n.toNat (by omega) (by omega) (A 3) w HC.out hE.v3
        rw [show ((n.toNat : Nat) : Int) = n by omega] at hs
        have HS := Lib.hid hs
        have hnp : 0 < n := by omega
        have nz' : (n == 0) = false := by simp [nz]
        clear hs nz n0
        go_enter Tryz.func83, Tryz.ntmps83
        go_wp2_with fail
        refine (HGo.out _).mono ?_
        rintro e w' ⟨rfl, rfl⟩
        go_wp2_with fail
        refine HS.out.mono ?_
        rintro e w' ⟨r, hr, hb, rfl⟩
        have HR := Lib.hid hr
        have HB := Lib.hid hb
        rw [step_res]
        clear hr hb
        go_wp2_with fail
        go_ret2
        exact ⟨resOf r, .inr (.inr (.inr (.inl ⟨HG.out, ⟨hnp, hn1⟩, r, HR.out, rfl⟩))), rfl, HB.out⟩
  · have HG := Lib.hid hg
    have HGo := Lib.hid (fun w => good_no d (by unfold Gd at hg; omega) w)
    clear hg
    go_enter Tryz.func83, Tryz.ntmps83
    go_wp2_with fail
    refine (HGo.out _).mono ?_
    rintro e w' ⟨rfl, rfl⟩
    go_wp2_with fail
    go_quiet (fail)
    go_wp2_with fail
    go_ret2
    exact ⟨(0, 4), .inr (.inl ⟨⟨hn1, hn2⟩, HG.out, rfl⟩), rfl, ext_drewN _ _⟩
set_option maxHeartbeats 1000000 in
theorem rroll_any (c : Cd) (hh : c.hol.length ≤ 1048576) (b o : Nat) (H : Option Addr) (hc : Nat) (d how : Int) (w : World) (h : CdA w b o c H hc) :
    Calls Tryz.prog 76 #[.pointer (some ⟨b, o, none⟩), .int .i64 d, .int .i64 how] w (RPost (RollP c d how) w) := by
  have HC := Lib.hid h
  clear h
  by_cases c1 : how < 0 ∨ 2 < how
  · have C1 := Lib.hid c1
    have e0 : (how != 0) = true := by simp; omega
    have e1 : (how != 1) = true := by simp; omega
    have e2 : (how != 2) = true := by simp; omega
    clear c1
    go_enter Tryz.func76, Tryz.ntmps76
    go_wp2_with fail
    go_ret2
    exact ⟨(0, 9), .inl ⟨C1.out, rfl⟩, rfl, Below.refl _ _⟩
  · have hb : 0 ≤ how ∧ how ≤ 2 := by omega
    have HBd := Lib.hid hb
    have hcase : how = 0 ∨ how = 1 ∨ how = 2 := by omega
    by_cases hg : Gd d
    · have HG := Lib.hid hg
      obtain ⟨g1, g2⟩ := hg
      have HGo := Lib.hid (fun w => isday_yes d g1 g2 w)
      have HWo := Lib.hid (works_any c hh b o H hc d w HC.out)
      have HWv := Lib.hid (show worksB c d = wk c.off c.hol d by unfold worksB; simp [HG.out])
      rw [HWv.out] at HWo
      clear c1 hb
      rcases hcase with rfl | rfl | rfl
      · go_enter Tryz.func76, Tryz.ntmps76
        go_wp2_with fail
        refine (HGo.out _).mono ?_
        rintro e w' ⟨rfl, rfl⟩
        go_wp2_with fail
        refine HWo.out.mono ?_
        rintro e w' ⟨rfl, nq, rfl⟩
        go_wp2_with fail
        go_ret2
        exact ⟨(d, 0), .inr (.inr (.inl ⟨HG.out, rfl, rfl⟩)), rfl, ext_drewN _ _⟩
      · have HS := Lib.hid (fun n => CdR.walk_any c hh b o H hc 1 (.inl rfl) d (by omega) (by omega) 1 (by omega) (by omega) (w.drewN n) (HC.out.ext (ext_drewN w n)))
        have HOn := Lib.hid (show wk c.off c.hol d = true → Walk c 1 (d - 1) 1 (some d) from fun hw => by
          have e : d - 1 + 1 = d := by omega
          refine .on _ _ _ (by rw [e]; exact HG.out) (by rw [e]; exact hw) ?_
          rw [e]; exact .done d)
        have HOff := Lib.hid (show wk c.off c.hol d = false → ∀ r, Walk c 1 d 1 r → Walk c 1 (d - 1) 1 r from fun hw r hr => by
          have e : d - 1 + 1 = d := by omega
          refine .off _ _ _ (by rw [e]; exact HG.out) (by rw [e]; exact hw) ?_
          rw [e]; exact hr)
        generalize wk c.off c.hol d = g at *
        go_enter Tryz.func76, Tryz.ntmps76
        go_wp2_with fail
        refine (HGo.out _).mono ?_
        rintro e w' ⟨rfl, rfl⟩
        go_wp2_with fail
        refine HWo.out.mono ?_
        rintro e w' ⟨rfl, nq, rfl⟩
        cases g
        · have HF := Lib.hid (HOff.out rfl)
          clear HOn HOff
          go_wp2_with fail
          refine (HS.out nq).mono ?_
          rintro e w' ⟨r, hr, rfl, hb⟩
          have HR := Lib.hid (HF.out r hr)
          have HB := Lib.hid (ext_trans (ext_drewN w nq) hb)
          clear hr hb
          go_wp2_with fail
          go_ret2
          exact ⟨resOf r, .inr (.inr (.inr (.inl ⟨HG.out, rfl, r, HR.out, rfl⟩))), rfl, HB.out⟩
        · have HF := Lib.hid (HOn.out rfl)
          clear HOn HOff
          go_wp2_with fail
          go_ret2
          exact ⟨(d, 0), .inr (.inr (.inr (.inl ⟨HG.out, rfl, some d, HF.out, rfl⟩))), rfl, ext_drewN _ _⟩
      · have HS := Lib.hid (fun n => CdR.walk_any c hh b o H hc (-1) (.inr rfl) d (by omega) (by omega) 1 (by omega) (by omega) (w.drewN n) (HC.out.ext (ext_drewN w n)))
        have HOn := Lib.hid (show wk c.off c.hol d = true → Walk c (-1) (d + 1) 1 (some d) from fun hw => by
          have e : d + 1 + -1 = d := by omega
          refine .on _ _ _ (by rw [e]; exact HG.out) (by rw [e]; exact hw) ?_
          rw [e]; exact .done d)
        have HOff := Lib.hid (show wk c.off c.hol d = false → ∀ r, Walk c (-1) d 1 r → Walk c (-1) (d + 1) 1 r from fun hw r hr => by
          have e : d + 1 + -1 = d := by omega
          refine .off _ _ _ (by rw [e]; exact HG.out) (by rw [e]; exact hw) ?_
          rw [e]; exact hr)
        generalize wk c.off c.hol d = g at *
        go_enter Tryz.func76, Tryz.ntmps76
        go_wp2_with fail
        refine (HGo.out _).mono ?_
        rintro e w' ⟨rfl, rfl⟩
        go_wp2_with fail
        refine HWo.out.mono ?_
        rintro e w' ⟨rfl, nq, rfl⟩
        cases g
        · have HF := Lib.hid (HOff.out rfl)
          clear HOn HOff
          go_wp2_with fail
          refine (HS.out nq).mono ?_
          rintro e w' ⟨r, hr, rfl, hb⟩
          have HR := Lib.hid (HF.out r hr)
          have HB := Lib.hid (ext_trans (ext_drewN w nq) hb)
          clear hr hb
          go_wp2_with fail
          go_ret2
          exact ⟨resOf r, .inr (.inr (.inr (.inr ⟨HG.out, rfl, r, HR.out, rfl⟩))), rfl, HB.out⟩
        · have HF := Lib.hid (HOn.out rfl)
          clear HOn HOff
          go_wp2_with fail
          go_ret2
          exact ⟨(d, 0), .inr (.inr (.inr (.inr ⟨HG.out, rfl, some d, HF.out, rfl⟩))), rfl, ext_drewN _ _⟩
    · have HG := Lib.hid hg
      have HGo := Lib.hid (fun w => isday_no d (by unfold Gd at hg; omega) w)
      clear hg c1 hb
      rcases hcase with rfl | rfl | rfl
      all_goals
        go_enter Tryz.func76, Tryz.ntmps76
        go_wp2_with fail
        refine (HGo.out _).mono ?_
        rintro e w' ⟨rfl, rfl⟩
        go_wp2_with fail
        go_ret2
        exact ⟨(0, 4), .inr (.inl ⟨HBd.out, HG.out, rfl⟩), rfl, Below.refl _ _⟩
set_option maxHeartbeats 1000000 in
theorem radd_any (c : Cd) (hh : c.hol.length ≤ 1048576) (b o : Nat) (H : Option Addr) (hc : Nat) (d n : Int) (w : World) (h : CdA w b o c H hc) :
    Calls Tryz.prog 74 #[.pointer (some ⟨b, o, none⟩), .int .i64 d, .int .i64 n] w (RPost (AddP c d n) w) := by
  have HC := Lib.hid h
  clear h
  by_cases c1 : 100000 < n
  · have C1 := Lib.hid c1
    have c1' : decide (100000 < n) = true := by simp [c1]
    clear c1
    go_enter Tryz.func74, Tryz.ntmps74
    go_wp2_with fail
    go_ret2
    exact ⟨(0, 2), .inl ⟨.inl C1.out, rfl⟩, rfl, Below.refl _ _⟩
  have c1' : decide (100000 < n) = false := by simp; omega
  by_cases c2 : n < -100000
  · have C2 := Lib.hid c2
    have c2' : decide (n < -100000) = true := by simp [c2]
    clear c2
    go_enter Tryz.func74, Tryz.ntmps74
    go_wp2_with fail
    go_ret2
    exact ⟨(0, 2), .inl ⟨.inr C2.out, rfl⟩, rfl, Below.refl _ _⟩
  have c2' : decide (n < -100000) = false := by simp; omega
  have hn1 : n ≤ 100000 := by omega
  have hn2 : -100000 ≤ n := by omega
  clear c1 c2
  by_cases hg : Gd d
  · have HG := Lib.hid hg
    obtain ⟨g1, g2⟩ := hg
    have HGo := Lib.hid (fun w => isday_yes d g1 g2 w)
    by_cases nz : n = 0
    · subst nz
      go_enter Tryz.func74, Tryz.ntmps74
      go_wp2_with fail
      refine (HGo.out _).mono ?_
      rintro e w' ⟨rfl, rfl⟩
      go_wp2_with fail
      go_ret2
      exact ⟨(d, 0), .inr (.inr (.inl ⟨HG.out, rfl, rfl⟩)), rfl, Below.refl _ _⟩
    · have nz' : (n == 0) = false := by simp [nz]
      by_cases n0 : n < 0
      · have hs := CdR.walk_any c hh b o H hc (-1) (.inr rfl) d (by omega) (by omega) (-n).toNat (by omega) (by omega) w HC.out
        rw [show (((-n).toNat : Nat) : Int) = -n by omega] at hs
        have HS := Lib.hid hs
        have n0' : decide (0 < n) = false := by simp; omega
        clear hs nz
        go_enter Tryz.func74, Tryz.ntmps74
        go_wp2_with fail
        refine (HGo.out _).mono ?_
        rintro e w' ⟨rfl, rfl⟩
        go_wp2_with fail
        refine HS.out.mono ?_
        rintro e w' ⟨r, hr, rfl, hb⟩
        have HR := Lib.hid hr
        have HB := Lib.hid hb
        clear hr hb
        go_wp2_with fail
        go_ret2
        exact ⟨resOf r, .inr (.inr (.inr (.inr ⟨HG.out, ⟨n0, hn2⟩, r, HR.out, rfl⟩))), rfl, HB.out⟩
      · have hs := CdR.walk_any c hh b o H hc 1 (.inl rfl) d (by omega) (by omega) n.toNat (by omega) (by omega) w HC.out
        rw [show ((n.toNat : Nat) : Int) = n by omega] at hs
        have HS := Lib.hid hs
        have hnp : 0 < n := by omega
        have hnp' : decide (0 < n) = true := by simp [hnp]
        clear hs nz n0
        go_enter Tryz.func74, Tryz.ntmps74
        go_wp2_with fail
        refine (HGo.out _).mono ?_
        rintro e w' ⟨rfl, rfl⟩
        go_wp2_with fail
        refine HS.out.mono ?_
        rintro e w' ⟨r, hr, rfl, hb⟩
        have HR := Lib.hid hr
        have HB := Lib.hid hb
        clear hr hb
        go_wp2_with fail
        go_ret2
        exact ⟨resOf r, .inr (.inr (.inr (.inl ⟨HG.out, ⟨hnp, hn1⟩, r, HR.out, rfl⟩))), rfl, HB.out⟩
  · have HG := Lib.hid hg
    have HGo := Lib.hid (fun w => isday_no d (by unfold Gd at hg; omega) w)
    clear hg
    go_enter Tryz.func74, Tryz.ntmps74
    go_wp2_with fail
    refine (HGo.out _).mono ?_
    rintro e w' ⟨rfl, rfl⟩
    go_wp2_with fail
    go_ret2
    exact ⟨(0, 4), .inr (.inl ⟨⟨hn1, hn2⟩, HG.out, rfl⟩), rfl, Below.refl _ _⟩
end Go.Proofs.YtjfiodknjchngaaGreatDoor.CdM

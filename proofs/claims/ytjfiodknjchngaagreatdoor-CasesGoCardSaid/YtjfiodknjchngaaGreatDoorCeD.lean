/- Cases: what is read of a case: the last day, whether it is done, whether a move can be done, its stage and its steps. Cases: whether a move can be done: the walk of can. -/
import Derived.Test.YtjfiodknjchngaaGreatDoorCeO
import Derived.BigQuiet
import Derived.Deep.RegionHeld3
namespace Go.Proofs.YtjfiodknjchngaaGreatDoor.Ce
open Go.RowKit Mem Nest Srs Cf Fk Msi CdP CdM Err Solve Sol

def lastF (d : Kd) (s : Sd) : Int := match s.steps.getLast? with
  | some x => x.day
  | none => d.first
def doneB (d : Kd) (s : Sd) : Bool := d.fin.contains s.stage
def zeroT (m : Mv) : Bool := decide (m.n = 0) && decide (m.u = 0) && decide (m.r = 0)
/-- whether a move that was done u times can be done on a day: the error's number -/
def CanP (d : Kd) (s : Sd) (m : Mv) (u : Nat) (on : Int) (c : Int) : Prop :=
  ((0 < m.most ∧ m.most ≤ (u : Int)) ∧ c = 8) ∨ (¬ (0 < m.most ∧ m.most ≤ (u : Int)) ∧ ((zeroT m = true ∧ c = 0) ∨ (zeroT m = false ∧ ∃ o, DueP d.cd s.since m.n m.u m.r o ∧ (((o.2 ≠ 0 ∨ o.1 < on) ∧ c = 4) ∨ ((o.2 = 0 ∧ on ≤ o.1) ∧ c = 0)))))
def RetI (n : Int) (w : World) (e : Ending) (w' : World) : Prop := e = .returned (.int .i64 n) ∧ w = w'
theorem reti {a b : Int} (w : World) (h : a = b) : RetI b w (.returned (.int .i64 a)) w := ⟨by rw [h], rfl⟩
set_option maxRecDepth 100000 in
set_option maxHeartbeats 1000000 in
theorem clast (B : World) (d : Kd) (s : Sd) (w : World) (h : Cs B d s w) : Calls Tryz.prog 53 #[.pointer (some ⟨B.heap.size + 1, 0, none⟩)] w (RetI (lastF d s) w) := by
  obtain ⟨SA, sc, hk, ho⟩ := h.case_
  have c6 := hk.cell 6 rfl
  have c7 := hk.cell 7 rfl
  have HR := Lib.hid (Rd.of_own ho)
  have HL := Lib.hid (show s.steps.length ≤ maxLen by obtain ⟨_, _, e, h1, h2⟩ := own_slice ho; simp only [Value.slice.injEq] at e; omega)
  obtain ⟨K, hK⟩ : ∃ K, K = B.heap.size + 1 := ⟨_, rfl⟩
  rw [← hK] at c6 c7 ⊢
  clear h hk ho hK
  unfold lastF
  obtain ⟨stage, since, steps, used⟩ := s
  simp only at *
  rcases List.eq_nil_or_concat steps with e | ⟨l, x, e⟩
  · subst e
    simp only [List.getLast?_nil]
    go_enter Tryz.func53, Tryz.ntmps53
    go_wp2_with fail
    go_ret
    exact ⟨rfl, rfl⟩
  · rw [List.concat_eq_append] at e
    have hl : steps.length = l.length + 1 := by rw [e]; simp
    obtain ⟨b, o, e2, hx⟩ := HR.out.row stCells_len (k := l.length) (by omega) (by omega)
    subst e2
    have hg : steps[l.length]'(by omega) = x := by simp [e]
    have c2 := hx 2 (.int .i64 x.day) (by rw [hg]; rfl)
    rw [← Nat.add_assoc] at c2
    have hmx : (l.length : Int) ≤ 9223372036854775807 := by have h1 := HL.out; unfold maxLen at h1; omega
    rw [show steps.getLast? = some x by rw [e]; simp]
    simp only
    have hn0 : 0 < steps.length := by omega
    have hn1 : (0 : Int) < (steps.length : Int) := by omega
    have hn2 : (steps.length : Int) - 1 = (l.length : Int) := by omega
    have hn3 : l.length < steps.length := by omega
    have hn4 : (l.length : Int) < (steps.length : Int) := by omega
    obtain ⟨N, hN⟩ : ∃ N, N = steps.length := ⟨_, rfl⟩
    obtain ⟨M, hM⟩ : ∃ M, M = l.length := ⟨_, rfl⟩
    rw [← hN] at hn0 hn1 hn2 hn3 hn4 c7
    rw [← hM] at hn2 hn3 hn4 c2 hmx
    clear hl hg hx hM hN e HR HL
    go_enter Tryz.func53, Tryz.ntmps53
    go_wp2_with fail
    go_ret
    exact ⟨rfl, rfl⟩
set_option maxRecDepth 100000 in
theorem cstage (B : World) (d : Kd) (s : Sd) (w : World) (h : Cs B d s w) : Calls Tryz.prog 15 #[.pointer (some ⟨B.heap.size + 1, 0, none⟩)] w fun e w' => e = .returned (.string ⟨s.stage.toArray⟩) ∧ w = w' := by
  obtain ⟨SA, sc, hk, ho⟩ := h.case_
  have c4 := hk.cell 4 rfl
  clear h hk ho
  go_enter Tryz.func15, Tryz.ntmps15
  go_wp2_with fail
  go_ret
  exact ⟨rfl, rfl⟩
set_option maxRecDepth 100000 in
set_option maxHeartbeats 1000000 in
theorem cdone (B : World) (d : Kd) (s : Sd) (w : World) (h : Cs B d s w) : Calls Tryz.prog 23 #[.pointer (some ⟨B.heap.size + 1, 0, none⟩)] w (RetG (doneB d s) w) := by
  obtain ⟨SA, sc, hk, ho⟩ := h.case_
  have c1 := hk.cell 1 rfl
  have c4 := hk.cell 4 rfl
  have HC := Lib.hid (show ∀ n, Calls Tryz.prog 49 #[.slice d.FA d.fin.length d.fc, .string ⟨s.stage.toArray⟩] (w.drewN n) (fun e w' => e = .returned (.bool (doneB d s)) ∧ ∃ m, w' = w.drewN m) from fun n =>
    (hass_any d.fin (by have := h.fx.fl; omega) d.FA d.fc s.stage (w.drewN n) ((h.fx.f.rd.ext h.below).ext (ext_drewN w n))).mono fun e w' ⟨h1, h2⟩ => ⟨h1, n, h2.symm⟩)
  obtain ⟨q, hq⟩ : ∃ q, q = doneB d s := ⟨_, rfl⟩
  rw [← hq] at HC ⊢
  clear h hk ho hq
  go_enter Tryz.func23, Tryz.ntmps23
  go_upto_region 1 with fail
  go_quiet (exact HC.out _)
  go_wp2_with fail
  go_ret
  exact retg rfl (ext_drewN w nq)
set_option maxRecDepth 100000 in
set_option maxHeartbeats 1000000 in
theorem csteps (B : World) (d : Kd) (s : Sd) (w : World) (h : Cs B d s w) (hl : s.steps.length ≤ 10000) : Calls Tryz.prog 22 #[.pointer (some ⟨B.heap.size + 1, 0, none⟩)] w fun e w' => (∃ A c, e = .returned (.slice A s.steps.length c) ∧ Rd w' A (s.steps.flatMap stCells)) ∧ Below w.heap.size w w' := by
  obtain ⟨SA, sc, hk, ho⟩ := h.case_
  have c7 := hk.cell 7 rfl
  have HC := Lib.hid (cloneT_any s.steps hl SA sc w (Rd.of_own ho))
  clear h hk ho
  go_enter Tryz.func22, Tryz.ntmps22
  go_wp2_with fail
  refine HC.out.mono ?_
  rintro e w' ⟨⟨A', c', rfl, hr, _, _⟩, hb⟩
  have HR := Lib.hid hr
  have HB := Lib.hid hb
  clear hr hb HC
  go_wp2_with fail
  go_ret
  exact ⟨⟨A', c', rfl, HR.out.rd⟩, HB.out⟩
theorem term_eql (n u r : Int) (w : World) : (binOp .eql 104 (.agg #[.int .i64 n, .int .i64 u, .int .i64 r]) (.agg #[.int .i64 0, .int .i64 0, .int .i64 0])).run Tryz.prog w = .ok (.bool (decide (n = 0) && decide (u = 0) && decide (r = 0))) w := by
  have u3 := Tryz.underlying3
  have a3 := Tryz.isAgg3
  have z3 := Tryz.sizeOf3
  have hS : Tryz.prog.underlying 104 = some (.struct (Tryz.prog.fieldsOf 104)) := by kernel_rfl
  have hp : Tryz.prog.stoodInHeld 104 = false := by kernel_rfl
  rw [run_eql_struct, show (10000 : Nat) = 9999 + 1 from rfl, run_equalIn_agg w 9999 104 _ _ hS hp]
  simp only [Program.fieldsOf, Tryz.underlying104]
  go_simp
  by_cases h1 : n = 0 <;> by_cases h2 : u = 0 <;> by_cases h3 : r = 0 <;> simp [h1, h2, h3]
theorem term_guard (a b : Operand) (x y : Array Value) (w : World) : (eqGuard .eql 104 a b (.agg x) (.agg y)).run Tryz.prog w = .ok () w := run_eqGuard_agg w _ _ a b x y (by kernel_rfl)
end Go.Proofs.YtjfiodknjchngaaGreatDoor.Ce
namespace Go.Proofs.YtjfiodknjchngaaGreatDoor.Ce
open Go.RowKit Mem Nest Srs Cf Fk Msi CdP CdM Err Solve Sol

set_option maxRecDepth 100000 in
set_option maxHeartbeats 4000000 in
theorem ccan (B : World) (d : Kd) (s : Sd) (w : World) (A : Nat → Addr) (h : Cs B d s w) (hE : E6 w A) (i : Nat) (m : Mv) (u : Nat) (hm : d.ms[i]? = some m) (hu : s.used[i]? = some u) (on : Int) :
    Calls Tryz.prog 54 #[.pointer (some ⟨B.heap.size + 1, 0, none⟩), .int .i64 (i : Int), .int .i64 on] w (CPost A (CanP d s m u on) w) := by
  obtain ⟨SA, sc, hk, ho⟩ := h.case_
  have hi : i < d.ms.length := (List.getElem?_eq_some_iff.1 hm).1
  have hfx := h.fx.ext h.below
  obtain ⟨b, o, hMA, hx⟩ := mv_at hfx.m.rd hi
  rw [(List.getElem?_eq_some_iff.1 hm).2] at hx
  have hus := h.used.cell i (u := .int .i64 u) (by simp [nats, hu])
  have HOk := Lib.hid hfx.ok
  have HCa := Lib.hid hfx.c
  have HE := Lib.hid hE
  have HBl := Lib.hid h.below
  have hil : (i : Int) < (d.ms.length : Int) := by omega
  obtain ⟨U, hU⟩ : ∃ U, U = B.heap.size := ⟨_, rfl⟩
  obtain ⟨K, hK⟩ : ∃ K, K = U + 1 := ⟨_, rfl⟩
  rw [← hU, ← hK] at hk
  rw [← hU] at hus
  rw [← hU, ← hK]
  have HKd := Lib.hid hk
  have hKne : K ≠ U := by omega
  clear h ho hm hu hE hfx hk hU hK
  obtain ⟨st, fin, ms, FA, fc, MA, mc, cb, cd, H, hc, first⟩ := d
  obtain ⟨stage, since, steps, used⟩ := s
  obtain ⟨xn, xf, xt, xw, x1, x2, x3, x4⟩ := m
  simp only at *
  subst hMA
  obtain ⟨c0, c1, c2, c3, c4, c5, c6, c7⟩ := hx
  simp only at c0 c1 c2 c3 c4 c5 c6 c7
  have k2 := HKd.out.cell 2 rfl
  have hXa := ext_alloc w (.cells (List.toArray [.string ⟨xn.toArray⟩, .string ⟨xf.toArray⟩, .string ⟨xt.toArray⟩, .string ⟨xw.toArray⟩, .int .i64 x1, .int .i64 x2, .int .i64 x3, .int .i64 x4]) 106)
  have hBn := Blk.new w 106 [.string ⟨xn.toArray⟩, .string ⟨xf.toArray⟩, .string ⟨xt.toArray⟩, .string ⟨xw.toArray⟩, .int .i64 x1, .int .i64 x2, .int .i64 x3, .int .i64 x4]
  obtain ⟨V, hV⟩ : ∃ V, V = w.alloc (.cells (List.toArray [.string ⟨xn.toArray⟩, .string ⟨xf.toArray⟩, .string ⟨xt.toArray⟩, .string ⟨xw.toArray⟩, .int .i64 x1, .int .i64 x2, .int .i64 x3, .int .i64 x4]) 106) := ⟨_, rfl⟩
  obtain ⟨R, hR⟩ : ∃ R, R = w.heap.size := ⟨_, rfl⟩
  rw [← hV] at hXa hBn
  rw [← hR] at hBn
  have hw : w.heap.size ≤ V.heap.size := hXa.size
  have k3 := cell_ext hXa (HKd.out.cell 3 rfl)
  have k5 := cell_ext hXa (HKd.out.cell 5 rfl)
  have k8 := cell_ext hXa (HKd.out.cell 8 rfl)
  have hus := cell_ext hXa hus
  have m4 := hBn.cell 4 rfl
  have m5 := hBn.cell 5 rfl
  have m6 := hBn.cell 6 rfl
  have m7 := hBn.cell 7 rfl
  have HX := Lib.hid hXa
  have HCv := Lib.hid (HCa.out.ext hXa)
  have HEv := Lib.hid (HE.out.below hXa)
  have e7 := HEv.out.v7
  unfold sentV at e7
  clear hXa hBn HCa HE HKd hw
  go_enter Tryz.func54, Tryz.ntmps54
  go_upto_region 2 with fail
  rw [← hV, ← hR]
  clear hV hR c0 c1 c2 c3 c4 c5 c6 c7 k2
  obtain ⟨q, hq⟩ : ∃ q : Bool, q = decide (0 < x4 ∧ x4 ≤ (u : Int)) := ⟨_, rfl⟩
  have HQ := Lib.hid hq
  clear hq
  go_cut [32] (fun t w9 => t = .bool q ∧ Hid (∃ n, w9 = V.drewN n))
  case first =>
    by_cases g1 : 0 < x4
    · by_cases g2 : x4 ≤ (u : Int)
      · have hq := HQ.out
        rw [show decide (0 < x4 ∧ x4 ≤ (u : Int)) = true by simp [g1, g2]] at hq
        subst hq
        go_quiet (fail)
        go_wp2_with fail
        go_meet
        exact ⟨rfl, _, rfl⟩
      · have hq := HQ.out
        rw [show decide (0 < x4 ∧ x4 ≤ (u : Int)) = false by simp [g2]] at hq
        subst hq
        go_quiet (fail)
        go_wp2_with fail
        go_meet
        exact ⟨rfl, _, rfl⟩
    · have hq := HQ.out
      rw [show decide (0 < x4 ∧ x4 ≤ (u : Int)) = false by simp [g1]] at hq
      subst hq
      go_quiet (fail)
      go_wp2_with fail
      go_meet
      exact ⟨rfl, _, rfl⟩
  case rest =>
    obtain ⟨rfl, HW⟩ := hcut
    have HBw := Lib.hid (show Below V.heap.size V wc by obtain ⟨n, e⟩ := HW.out; rw [e]; exact ext_drewN V n)
    have e7 := cell_ext HBw.out e7
    have k3 := cell_ext HBw.out k3
    have k5 := cell_ext HBw.out k5
    have m4 := cell_ext HBw.out m4
    have m5 := cell_ext HBw.out m5
    have m6 := cell_ext HBw.out m6
    have HCw := Lib.hid (HCv.out.ext HBw.out)
    have HEw := Lib.hid (HEv.out.below HBw.out)
    have HXw := Lib.hid (ext_trans HX.out HBw.out)
    clear HCv HEv HX HW
    cases q with
    | true =>
      have HQt := Lib.hid (show 0 < x4 ∧ x4 ≤ (u : Int) from of_decide_eq_true HQ.out.symm)
      go_wp2_with fail
      go_ret
      exact ⟨8, .inl ⟨HQt.out, rfl⟩, rfl, HXw.out⟩
    | false =>
      have HQf := Lib.hid (show ¬ (0 < x4 ∧ x4 ≤ (u : Int)) from of_decide_eq_false HQ.out.symm)
      have hte := fun w => term_eql x1 x2 x3 w
      have htg := fun a b x y w => term_guard a b x y w
      obtain ⟨z, hz⟩ : ∃ z, z = (decide (x1 = 0) && decide (x2 = 0) && decide (x3 = 0)) := ⟨_, rfl⟩
      rw [← hz] at hte
      have HZ := Lib.hid (show zeroT ⟨xn, xf, xt, xw, x1, x2, x3, x4⟩ = z from hz.symm)
      clear hz e7
      cases z with
      | true =>
        go_wp2_with fail
        go_ret
        exact ⟨0, .inr ⟨HQf.out, .inl ⟨HZ.out, rfl⟩⟩, rfl, HXw.out⟩
      | false =>
        go_upto_region 6 with fail
        have hdr : Below wc.heap.size wc wc.drew := ext_drewN wc 1
        have HDr := Lib.hid hdr
        have q3 := cell_ext hdr k3
        have q5 := cell_ext hdr k5
        have r4 := cell_ext hdr m4
        have r5 := cell_ext hdr m5
        have r6 := cell_ext hdr m6
        clear hte htg hdr
        go_region_held3 (fun w' => w'.cell? ⟨K, 3, none⟩ = some (.pointer (some ⟨cb, 0, none⟩)) ∧ w'.cell? ⟨K, 5, none⟩ = some (.int .i64 since) ∧ w'.cell? ⟨R, 4, none⟩ = some (.int .i64 x1) ∧ w'.cell? ⟨R, 5, none⟩ = some (.int .i64 x2) ∧ w'.cell? ⟨R, 6, none⟩ = some (.int .i64 x3))
          ((first | exact ⟨q3, q5, r4, r5, r6⟩ | exact ⟨cell_ext hb5 q3, cell_ext hb5 q5, cell_ext hb5 r4, cell_ext hb5 r5, cell_ext hb5 r6⟩))
          ((first
            | (go_at_call 51; refine (pdue_any cd HOk.out cb 0 H hc since x1 x2 x3 A _ (HCw.out.ext HDr.out) (HEw.out.below HDr.out).e3).mono ?_; rintro e w5 ⟨⟨r1, r2⟩, hD, rfl, hb5⟩; have HDd := Lib.hid hD; clear hD)))
        have HW5 := Lib.hid (ext_trans HXw.out (ext_trans HDr.out hb5))
        have e3 := ((HEw.out.below HDr.out).below hb5).v3
        unfold sentV at e3
        clear hb5 q3 q5 r4 r5 r6 k3 k5 m4 m5 m6
        by_cases hr : r2 = 0
        · subst hr
          simp only [errC_zero]
          by_cases hg : r1 < on
          · have HG := Lib.hid hg
            go_wp2_with fail
            go_ret
            exact ⟨4, .inr ⟨HQf.out, .inr ⟨HZ.out, _, HDd.out, .inl ⟨.inr HG.out, rfl⟩⟩⟩, rfl, HW5.out⟩
          · have HG := Lib.hid (show on ≤ r1 by omega)
            go_wp2_with fail
            go_ret
            exact ⟨0, .inr ⟨HQf.out, .inr ⟨HZ.out, _, HDd.out, .inr ⟨⟨rfl, HG.out⟩, rfl⟩⟩⟩, rfl, HW5.out⟩
        · have HG := Lib.hid hr
          have HEc := Lib.hid (show errC A r2 = errV (A (r2 - 1).toNat) from if_neg hr)
          obtain ⟨ad, had⟩ : ∃ ad, ad = A (r2 - 1).toNat := ⟨_, rfl⟩
          rw [← had] at HEc
          rw [HEc.out]
          unfold errV
          clear had hr HEc
          go_wp2_with fail
          go_ret
          exact ⟨4, .inr ⟨HQf.out, .inr ⟨HZ.out, _, HDd.out, .inl ⟨.inl HG.out, rfl⟩⟩⟩, rfl, HW5.out⟩
end Go.Proofs.YtjfiodknjchngaaGreatDoor.Ce

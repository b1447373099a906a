/- Cases: what is read of a case: the last day, whether it is done, whether a move can be done, its stage and its steps. -/
import Derived.Test.YtjfiodknjchngaaDoorCeO
import Derived.BigQuiet
namespace Go.Proofs.YtjfiodknjchngaaDoor.Ce
open Go.RowKit Mem Nest Srs Cf Fk Msi CdP CdM Err Solve Sol

def lastF (d : Kd) (s : Sd) : Int := match s.steps.getLast? with
  | some x => x.day
  | none => d.first
def doneB (d : Kd) (s : Sd) : Bool := d.fin.contains s.stage
def zeroT (m : Mv) : Bool := decide (m.n = 0) && decide (m.u = 0) && decide (m.r = 0)
/-- whether a move that was done u times can be done on a day: the error's number -/
def CanP (d : Kd) (s : Sd) (m : Mv) (u : Nat) (on : Int) (c : Int) : Prop :=
  ((0 < m.most ∧ m.most ≤ (u : Int)) ∧ c = 8) ∨ (¬ (0 < m.most ∧ m.most ≤ (u : Int)) ∧ ((zeroT m = true ∧ c = 0) ∨ (zeroT m = false ∧ ∃ o, DueP d.cd s.since m.n m.u m.r o ∧ (((o.2 ≠ 0 ∨ o.1 < on) ∧ c = 4) ∨ ((o.2 = 0 ∧ on ≤ o.1) ∧ c = 0)))))
def RetI (n : Int) (w : World) (e : Ending) (w' : World) : Prop := e = .returned (.int .i64 n) ∧ w = w'
theorem reti {a b : Int} (w : World) (h : a = b) : RetI b w (.returned (.int .i64 a)) w := ⟨by rw [h], rfl⟩
set_option maxRecDepth 100000 in
set_option maxHeartbeats 1000000 in
theorem clast (B : World) (d : Kd) (s : Sd) (w : World) (h : Cs B d s w) : Calls Tryd.prog 39 #[.pointer (some ⟨B.heap.size + 1, 0, none⟩)] w (RetI (lastF d s) w) := by
  obtain ⟨SA, sc, hk, ho⟩ := h.case_
  have c6 := hk.cell 6 rfl
  have c7 := hk.cell 7 rfl
  have HR := Lib.hid (Rd.of_own ho)
  have HL := Lib.hid (show s.steps.length ≤ maxLen by obtain ⟨_, _, e, h1, h2⟩ := own_slice ho; simp only [Value.slice.injEq] at e; omega)
  obtain ⟨K, hK⟩ : ∃ K, K = B.heap.size + 1 := ⟨_, rfl⟩
  rw [← hK] at c6 c7 ⊢
  clear h hk ho hK
  unfold lastF
  obtain ⟨stage, since, steps, used⟩ := s
  simp only at *
  rcases List.eq_nil_or_concat steps with e | ⟨l, x, e⟩
  · subst e
    simp only [List.getLast?_nil]
    go_enter Tryd.func39, Tryd.ntmps39
    go_wp2_with fail
    go_ret
    exact ⟨rfl, rfl⟩
  · rw [List.concat_eq_append] at e
    have hl : steps.length = l.length + 1 := by rw [e]; simp
    obtain ⟨b, o, e2, hx⟩ := HR.out.row stCells_len (k := l.length) (by omega) (by omega)
    subst e2
    have hg : steps[l.length]'(by omega) = x := by simp [e]
    have c2 := hx 2 (.int .i64 x.day) (by rw [hg]; rfl)
    rw [← Nat.add_assoc] at c2
    have hmx : (l.length : Int) ≤ 9223372036854775807 := by have h1 := HL.out; unfold maxLen at h1; omega
    rw [show steps.getLast? = some x by rw [e]; simp]
    simp only
    have hn0 : 0 < steps.length := by omega
    have hn1 : (0 : Int) < (steps.length : Int) := by omega
    have hn2 : (steps.length : Int) - 1 = (l.length : Int) := by omega
    have hn3 : l.length < steps.length := by omega
    have hn4 : (l.length : Int) < (steps.length : Int) := by omega
    obtain ⟨N, hN⟩ : ∃ N, N = steps.length := ⟨_, rfl⟩
    obtain ⟨M, hM⟩ : ∃ M, M = l.length := ⟨_, rfl⟩
    rw [← hN] at hn0 hn1 hn2 hn3 hn4 c7
    rw [← hM] at hn2 hn3 hn4 c2 hmx
    clear hl hg hx hM hN e HR HL
    go_enter Tryd.func39, Tryd.ntmps39
    go_wp2_with fail
    go_ret
    exact ⟨rfl, rfl⟩
set_option maxRecDepth 100000 in
theorem cstage (B : World) (d : Kd) (s : Sd) (w : World) (h : Cs B d s w) : Calls Tryd.prog 21 #[.pointer (some ⟨B.heap.size + 1, 0, none⟩)] w fun e w' => e = .returned (.string ⟨s.stage.toArray⟩) ∧ w = w' := by
  obtain ⟨SA, sc, hk, ho⟩ := h.case_
  have c4 := hk.cell 4 rfl
  clear h hk ho
  go_enter Tryd.func21, Tryd.ntmps21
  go_wp2_with fail
  go_ret
  exact ⟨rfl, rfl⟩
set_option maxRecDepth 100000 in
set_option maxHeartbeats 1000000 in
theorem cdone (B : World) (d : Kd) (s : Sd) (w : World) (h : Cs B d s w) : Calls Tryd.prog 20 #[.pointer (some ⟨B.heap.size + 1, 0, none⟩)] w (RetG (doneB d s) w) := by
  obtain ⟨SA, sc, hk, ho⟩ := h.case_
  have c1 := hk.cell 1 rfl
  have c4 := hk.cell 4 rfl
  have HC := Lib.hid (show ∀ n, Calls Tryd.prog 38 #[.slice d.FA d.fin.length d.fc, .string ⟨s.stage.toArray⟩] (w.drewN n) (fun e w' => e = .returned (.bool (doneB d s)) ∧ ∃ m, w' = w.drewN m) from fun n =>
    (hass_any d.fin (by have := h.fx.fl; omega) d.FA d.fc s.stage (w.drewN n) ((h.fx.f.rd.ext h.below).ext (ext_drewN w n))).mono fun e w' ⟨h1, h2⟩ => ⟨h1, n, h2.symm⟩)
  obtain ⟨q, hq⟩ : ∃ q, q = doneB d s := ⟨_, rfl⟩
  rw [← hq] at HC ⊢
  clear h hk ho hq
  go_enter Tryd.func20, Tryd.ntmps20
  go_upto_region 1 with fail
  go_quiet (exact HC.out _)
  go_wp2_with fail
  go_ret
  exact retg rfl (ext_drewN w nq)
set_option maxRecDepth 100000 in
set_option maxHeartbeats 1000000 in
theorem csteps (B : World) (d : Kd) (s : Sd) (w : World) (h : Cs B d s w) (hl : s.steps.length ≤ 10000) : Calls Tryd.prog 23 #[.pointer (some ⟨B.heap.size + 1, 0, none⟩)] w fun e w' => (∃ A c, e = .returned (.slice A s.steps.length c) ∧ Rd w' A (s.steps.flatMap stCells)) ∧ Below w.heap.size w w' := by
  obtain ⟨SA, sc, hk, ho⟩ := h.case_
  have c7 := hk.cell 7 rfl
  have HC := Lib.hid (cloneT_any s.steps hl SA sc w (Rd.of_own ho))
  clear h hk ho
  go_enter Tryd.func23, Tryd.ntmps23
  go_wp2_with fail
  refine HC.out.mono ?_
  rintro e w' ⟨⟨A', c', rfl, hr, _, _⟩, hb⟩
  have HR := Lib.hid hr
  have HB := Lib.hid hb
  clear hr hb HC
  go_wp2_with fail
  go_ret
  exact ⟨⟨A', c', rfl, HR.out.rd⟩, HB.out⟩
theorem term_eql (n u r : Int) (w : World) : (binOp .eql 105 (.agg #[.int .i64 n, .int .i64 u, .int .i64 r]) (.agg #[.int .i64 0, .int .i64 0, .int .i64 0])).run Tryd.prog w = .ok (.bool (decide (n = 0) && decide (u = 0) && decide (r = 0))) w := by
  have u3 := Tryd.underlying3
  have a3 := Tryd.isAgg3
  have z3 := Tryd.sizeOf3
  have hS : Tryd.prog.underlying 105 = some (.struct (Tryd.prog.fieldsOf 105)) := by kernel_rfl
  have hp : Tryd.prog.stoodInHeld 105 = false := by kernel_rfl
  rw [run_eql_struct, show (10000 : Nat) = 9999 + 1 from rfl, run_equalIn_agg w 9999 105 _ _ hS hp]
  simp only [Program.fieldsOf, Tryd.underlying105]
  go_simp
  by_cases h1 : n = 0 <;> by_cases h2 : u = 0 <;> by_cases h3 : r = 0 <;> simp [h1, h2, h3]
theorem term_guard (a b : Operand) (x y : Array Value) (w : World) : (eqGuard .eql 105 a b (.agg x) (.agg y)).run Tryd.prog w = .ok () w := run_eqGuard_agg w _ _ a b x y (by kernel_rfl)
end Go.Proofs.YtjfiodknjchngaaDoor.Ce

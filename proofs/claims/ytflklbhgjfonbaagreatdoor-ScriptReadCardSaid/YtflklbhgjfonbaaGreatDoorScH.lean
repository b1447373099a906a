/- Laws as texts: both readings as one, and the law that every statement reads first. -/
import Derived.Test.YtflklbhgjfonbaaGreatDoorScU
import Derived.Test.YtflklbhgjfonbaaGreatDoorScE
import Derived.Test.YtflklbhgjfonbaaGreatDoorScS
import Derived.Test.YtflklbhgjfonbaaGreatDoorFlt
namespace Go.Proofs.YtflklbhgjfonbaaGreatDoor.Sc
open Go.RowKit Mem Nest Fk Err Lk Gp Flt

/-- a text's law, its error's number and place -/
noncomputable def outF (s : Tx) : It × Int × Int := match readF s with
  | .inl (c, k) => (⟨[], [], [], []⟩, c, (k : Int))
  | .inr t => (t, 0, -1)
theorem zero_tree (w : World) (R : Nat → Prop) (d : Nat) : TrM w R (d + 1) ⟨[], [], [], []⟩ (itC ⟨[], [], [], []⟩ none 0 none 0) :=
  ⟨none, 0, none, 0, [], rfl, RdR.nil, RdR.nil, ⟨rfl, by simp, by simp⟩, fun i k r hk => by simp at hk⟩
def PRead (E : Nat → Addr) (s : Tx) (w : World) (e : Ending) (w' : World) : Prop :=
  ∃ (LA KA : Option Addr) (lc kc : Nat) (v : Value), e = .returned (.tuple #[.agg (itC (outF s).1 LA lc KA kc).toArray, v]) ∧ TrM w' (fun _ => True) 10 (outF s).1 (itC (outF s).1 LA lc KA kc) ∧ PErr E w' (outF s).2.1 (outF s).2.2 v ∧ ((outF s).2.1 = 0 → v = .nilIface) ∧ Below w.heap.size w w'
theorem pread2 (E : Nat → Addr) (s : Tx) (hs : s.length ≤ 9223372036854775807) (mx : Int) (w : World) (hE : Errs w E) (hm : w.cell? ⟨14, 0, none⟩ = some (.int .i64 mx)) :
    Calls Tryz.prog 7 #[.string ⟨s.toArray⟩] w (PRead E s w) := by
  refine (pread E s hs mx w hE hm).mono fun e w' ⟨hb, h⟩ => ?_
  unfold PRead outF
  cases hr : readF s with
  | inl q =>
    obtain ⟨c, k⟩ := q
    rw [hr] at h
    obtain ⟨pb, he, h0, h1⟩ := h
    have hc := readF_in hr
    refine ⟨none, none, 0, 0, _, he, zero_tree _ _ _, .inr ⟨c.toNat - 1, by omega, by show c = _; omega, pb, rfl, h0, ?_⟩, fun h => by simp only at h; omega, hb⟩
    rw [h1]
    unfold errI
    rw [if_neg (by omega)]
  | inr t =>
    rw [hr] at h
    obtain ⟨V, he, hT⟩ := h
    obtain ⟨LA, lc, KA, kc, e⟩ := hT.form
    subst e
    exact ⟨LA, KA, lc, kc, _, he, hT, .inl ⟨rfl, rfl⟩, fun _ => rfl, hb⟩
def RRead (s : Tx) (w : World) (e : Ending) (w' : World) : Prop :=
  ∃ (LA KA : Option Addr) (lc kc : Nat), e = .returned (.tuple #[.agg (itC (outF s).1 LA lc KA kc).toArray, .agg #[.int .i64 (outF s).2.1, .int .i64 (outF s).2.2]]) ∧ TrM w' (fun _ => True) 10 (outF s).1 (itC (outF s).1 LA lc KA kc) ∧ Below w.heap.size w w'
theorem rread2 (s : Tx) (hs : s.length ≤ 9223372036854775807) (w : World) : Calls Tryz.prog 8 #[.string ⟨s.toArray⟩] w (RRead s w) := by
  refine (rread s hs w).mono fun e w' ⟨hb, h⟩ => ?_
  unfold RRead outF
  cases hr : readF s with
  | inl q =>
    obtain ⟨c, k⟩ := q
    rw [hr] at h
    exact ⟨none, none, 0, 0, h, zero_tree _ _ _, hb⟩
  | inr t =>
    rw [hr] at h
    obtain ⟨V, he, hT⟩ := h
    obtain ⟨LA, lc, KA, kc, e⟩ := hT.form
    subst e
    exact ⟨LA, KA, lc, kc, he, hT, hb⟩
def liveT : Tx := [108, 97, 119, 32, 97, 10, 49, 32, 98, 10, 32, 32, 124, 32, 99, 10]
theorem live_lab : (Lab.lab [49]).isSome = true := by
  have h : Lab.LabOf [49] (1, [], []) := ⟨[49], [], rfl, ⟨by simp, by simp, by simp, by simp⟩, .inl ⟨by simp [Lab.dig], by simp, rfl⟩⟩
  rw [Lab.lab_some h]
  rfl
theorem live_read : readF liveT = .inr ⟨[], [97], [], [⟨[49], [98], [[99]], []⟩]⟩ := by
  have h0 : ¬ 30000 < liveT.length := by decide
  have hr : Wt.rowsF liveT = [[108, 97, 119, 32, 97], [49, 32, 98], [32, 32, 124, 32, 99]] := by decide
  have a0 : At (Wt.rowsF liveT) 0 none := rfl
  rw [hr] at a0
  have a1 : At [[108, 97, 119, 32, 97], [49, 32, 98], [32, 32, 124, 32, 99]] 1 (some ⟨⟨[], [97], [], []⟩, 0, 0⟩) := a0.title (by simp) (by rfl) (by rfl)
  have e1 : rowF ⟨⟨[], [97], [], []⟩, 0, 0⟩ [49, 32, 98] = (0, ⟨⟨[], [97], [], [⟨[49], [98], [], []⟩]⟩, 1, 1⟩) := by
    unfold rowF
    rw [if_neg (by decide), if_neg (by decide)]
    show itemRow _ _ [49, 32, 98] = _
    unfold itemRow
    have hl := live_lab
    rw [if_neg (by
      rintro (h | h)
      · have e : nameF [49, 32, 98] = [49] := by decide
        rw [e] at h
        cases h2 : Lab.lab [49] with
        | none => rw [h2] at hl; cases hl
        | some k => rw [h2] at h; cases h
      · revert h; decide), if_neg (by decide), if_neg (by decide)]
    rfl
  have a2 := a1.row (by simp) (by rfl) e1
  have e2 : rowF ⟨⟨[], [97], [], [⟨[49], [98], [], []⟩]⟩, 1, 1⟩ [32, 32, 124, 32, 99] = (0, ⟨⟨[], [97], [], [⟨[49], [98], [[99]], []⟩]⟩, 1, 1⟩) := by
    unfold rowF
    rw [if_neg (by decide), if_neg (by decide)]
    show (if leadF [32, 32, 124, 32, 99] / 2 ≠ 1 then _ else lineRow _ [32, 99]) = _
    rw [if_neg (by decide)]
    unfold lineRow
    rw [if_neg (by simp [spn]), if_neg (by simp [spn]; decide), if_neg (by decide)]
    rfl
  have a3 := a2.row (by simp) (by rfl) e2
  rw [← hr] at a3
  exact read_done h0 a3
set_option maxRecDepth 100000 in
theorem live_any (E : Nat → Addr) (mx : Int) (w : World) (hE : Errs w E) (hm : w.cell? ⟨14, 0, none⟩ = some (.int .i64 mx)) :
    Calls Tryz.prog 6 #[] w (RetG true w) := by
  have HR := Lib.hid ((pread2 E liveT (by decide) mx w hE hm).mono fun e w' h => (show ∃ (b o : Nat) (LA : Option Addr) (lc kc : Nat) (LV KV : Value), e = .returned (.tuple #[.agg #[.string ⟨#[]⟩, .string ⟨#[97]⟩, LV, .slice (some ⟨b, o, none⟩) 1 kc], .nilIface]) ∧ w'.cell? ⟨b, o + 2, none⟩ = some (.slice LA 1 lc) ∧ (∃ A c, LV = .slice A 0 c) ∧ KV = KV ∧ Below w.heap.size w w' from by
    obtain ⟨LA, KA, lc, kc, v, he, hT, _, hv, hb⟩ := h
    have ho : outF liveT = (⟨[], [97], [], [⟨[49], [98], [[99]], []⟩]⟩, 0, -1) := by unfold outF; rw [live_read]
    have hv := hv (by rw [ho])
    rw [ho] at he hT
    subst hv
    obtain ⟨LA', lc', KA', kc', rows, e1, _, h3, ⟨h4, _⟩, h5⟩ := hT
    unfold itC at e1
    simp only [List.cons.injEq, Value.slice.injEq] at e1
    obtain ⟨_, _, ⟨rfl, _, rfl⟩, ⟨rfl, _, rfl⟩, _⟩ := e1
    cases hrw : rows with
    | nil => rw [hrw] at h4; cases h4
    | cons r rs =>
      have hT2 := h5 0 ⟨[49], [98], [[99]], []⟩ r rfl (by rw [hrw]; rfl)
      obtain ⟨LA2, lc2, KA2, kc2, e2⟩ := hT2.form
      obtain ⟨b, o, eA, _, hc⟩ := h3 2 (.slice LA2 1 lc2) (by rw [hrw, e2]; rfl)
      subst eA
      exact ⟨b, o, LA2, lc2, kc, _, .nilIface, he, hc, ⟨LA, lc, rfl⟩, rfl, hb⟩))
  go_enter Tryz.func6, Tryz.ntmps6
  go_wp2_with fail
  refine HR.out.mono ?_
  rintro e w2 ⟨b, o, LA, lc, kc, LV, _, rfl, hc, ⟨A, c, rfl⟩, _, hb⟩
  have hc1 := fun ob => cell_ext (ext_alloc w2 ob) hc
  have HB := Lib.hid hb
  clear hb
  go_wp2_with fail
  go_ret
  exact ⟨by simp, ext_trans HB.out (ext_alloc w2 _)⟩
end Go.Proofs.YtflklbhgjfonbaaGreatDoor.Sc

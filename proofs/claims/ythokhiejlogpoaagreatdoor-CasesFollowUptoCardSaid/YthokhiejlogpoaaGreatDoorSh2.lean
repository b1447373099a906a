/- The document's sentences, one by one: help, lost, canSure, canNotSure, canHold, canFail, Can. The document's sentences, one by one: canSure, canNotSure, canHold, canFail, Can. The document's Solved: everything is looked at again and again, until nothing more follows. The document's Solved: the walk. The document's Checked: whether each step follows from those ahead of it. -/
import Derived.Test.YthokhiejlogpoaaGreatDoorSh
import Derived.Laws.MakeOwn
import Derived.Deep.LoopGhost
import Derived.Test.YthokhiejlogpoaaGreatDoorWhySoundWalk
import Derived.Deep.RegionHeld3
namespace Go.Proofs.YthokhiejlogpoaaGreatDoor.Sh
open Go.RowKit Mem Thy Nest Day Thm Sol Val Solve LawT

def OverC (p : ShP) (ab : Int) (k : Nat) : Prop := ab < 0 ∨ ((k : Int), ab) ∈ p.ov
def HelpC (p : ShP) (H : List Int) (q ab : Int) (k : Nat) (r : Rw) : Prop := r.head = q ∧ r.kind ≠ 2 ∧ OverC p ab k ∧ AllY (stOf H) r.body
def LossC (p : ShP) (H : List Int) (q ab : Int) (k : Nat) (r : Rw) : Prop := r.head = q ∧ r.kind ≠ 2 ∧ OverC p ab k ∧ ¬ Fails (stOf H) r.body
def Some_ (p : ShP) (C : Nat → Rw → Prop) : Prop := ∃ (k : Nat) (hk : k < p.rs.length), C k p.rs[k]
def rlCells (r : Rw) : List Value := [.int .i64 r.kind, .int .i64 r.head, .slice r.A r.body.length r.c]
/-- no rule of the first ones does it -/
def NoneTo (p : ShP) (C : Nat → Rw → Prop) (k : Nat) : Prop := ∀ j (h : j < p.rs.length), j < k → ¬ C j p.rs[j]
theorem NoneTo.zero (p : ShP) (C : Nat → Rw → Prop) : NoneTo p C 0 := fun j _ hj => absurd hj (by omega)
theorem NoneTo.next {p : ShP} {C : Nat → Rw → Prop} {k : Nat} (h : NoneTo p C k) (hn : ∀ hk : k < p.rs.length, ¬ C k p.rs[k]) : NoneTo p C (k + 1) := fun j hj hjk => by
  by_cases e : j = k
  · subst e; exact hn hj
  · exact h j hj (by omega)
theorem NoneTo.all {p : ShP} {C : Nat → Rw → Prop} (h : NoneTo p C p.rs.length) : ¬ Some_ p C := fun ⟨j, hj, hc⟩ => h j hj hj hc
theorem pickF (S H : St) (l : List Int) : (∀ x ∈ l, pick false S H x = val true) ↔ AllY H l := Iff.rfl
theorem pickT (S H : St) (l : List Int) : (∀ x ∈ l, pick true S H x = val true) ↔ AllY S l := Iff.rfl
theorem pickFn (S H : St) (l : List Int) : (∃ x ∈ l, pick false S H x = val false) ↔ Fails H l := Iff.rfl
theorem pickTn (S H : St) (l : List Int) : (∃ x ∈ l, pick true S H x = val false) ↔ Fails S l := Iff.rfl
end Go.Proofs.YthokhiejlogpoaaGreatDoor.Sh
namespace Go.Proofs.YthokhiejlogpoaaGreatDoor.Sh
open Go.RowKit Mem Thy Nest Day Thm Sol Val Solve LawT

theorem some_iff {p : ShP} (P : Nat → Rl → Prop) : (∃ (k : Nat) (hk : k < p.th.rules.length), P k p.th.rules[k]) ↔ Some_ p (fun k r => P k r.rl) := by
  unfold Some_
  constructor
  · rintro ⟨k, hk, h⟩
    have hk' : k < p.rs.length := by simpa [ShP.th, thOf] using hk
    exact ⟨k, hk', by simpa [ShP.th, thOf] using h⟩
  · rintro ⟨k, hk, h⟩
    have hk' : k < p.th.rules.length := by simpa [ShP.th, thOf] using hk
    exact ⟨k, hk', by simpa [ShP.th, thOf] using h⟩
theorem mem_iff {p : ShP} (P : Rl → Prop) : (∃ r ∈ p.th.rules, P r) ↔ Some_ p (fun _ r => P r.rl) := by
  rw [← some_iff (fun _ r => P r)]
  constructor
  · rintro ⟨r, hr, h⟩
    obtain ⟨k, hk, rfl⟩ := List.mem_iff_getElem.1 hr
    exact ⟨k, hk, h⟩
  · rintro ⟨k, hk, h⟩
    exact ⟨_, List.getElem_mem hk, h⟩
def SureC (S : List Int) (q : Int) (_ : Nat) (r : Rw) : Prop := r.kind = 0 ∧ r.head = q ∧ AllY (stOf S) r.body
def NotC (S : List Int) (q : Int) (_ : Nat) (r : Rw) : Prop := r.kind = 0 ∧ r.head = q ∧ ¬ Fails (stOf S) r.body
def OppC (p : ShP) (H : List Int) (q : Int) (i : Nat) (r : Rw) : Prop := r.head = -q ∧ ¬ Fails (stOf H) r.body ∧ ¬ Some_ p (HelpC p H q i)
def BeatC (p : ShP) (H : List Int) (q : Int) (i : Nat) (r : Rw) : Prop := r.head = -q ∧ AllY (stOf H) r.body ∧ ¬ Some_ p (LossC p H q i)
theorem sureY_iff {p : ShP} {S : List Int} {q : Int} : SureY p.th (stOf S) q ↔ Some_ p (SureC S q) := mem_iff (fun r => r.kind = 0 ∧ r.head = q ∧ AllY (stOf S) r.body)
theorem sureN_iff {p : ShP} {S : List Int} {q : Int} : SureN p.th (stOf S) q ↔ ¬ Some_ p (NotC S q) := by
  have h := mem_iff (p := p) (fun r => r.kind = 0 ∧ r.head = q ∧ ¬ Fails (stOf S) r.body)
  have h2 : Some_ p (NotC S q) ↔ ∃ r ∈ p.th.rules, r.kind = 0 ∧ r.head = q ∧ ¬ Fails (stOf S) r.body := h.symm
  rw [h2]
  exact ⟨fun f ⟨r, hr, a, b, c⟩ => c (f r hr a b), fun f r hr a b => Classical.byContradiction fun c => f ⟨r, hr, a, b, c⟩⟩
theorem over_neg (p : ShP) (k : Nat) : OverC p (-1) k := .inl (by omega)
theorem over_iff {p : ShP} {i k : Nat} : OverC p i k ↔ Above p.th k i := ⟨fun h => h.elim (fun h => absurd h (by omega)) id, .inr⟩
theorem supp_iff {p : ShP} {H : List Int} {q : Int} : Supp p.th (stOf H) q ↔ Some_ p (HelpC p H q (-1)) := by
  have h := mem_iff (p := p) (fun r => r.kind ≠ 2 ∧ r.head = q ∧ AllY (stOf H) r.body)
  refine h.trans ?_
  exact ⟨fun ⟨k, hk, a, b, c⟩ => ⟨k, hk, b, a, over_neg p k, c⟩, fun ⟨k, hk, a, b, _, c⟩ => ⟨k, hk, b, a, c⟩⟩
theorem bare_iff {p : ShP} {H : List Int} {q : Int} : Bare p.th (stOf H) q ↔ ¬ Some_ p (LossC p H q (-1)) := by
  have h := mem_iff (p := p) (fun r => r.kind ≠ 2 ∧ r.head = q ∧ ¬ Fails (stOf H) r.body)
  have h2 : Some_ p (LossC p H q (-1)) ↔ ∃ r ∈ p.th.rules, r.kind ≠ 2 ∧ r.head = q ∧ ¬ Fails (stOf H) r.body :=
    Iff.trans ⟨fun ⟨k, hk, a, b, _, c⟩ => ⟨k, hk, b, a, c⟩, fun ⟨k, hk, a, b, c⟩ => ⟨k, hk, b, a, over_neg p k, c⟩⟩ h.symm
  rw [h2]
  exact ⟨fun f ⟨r, hr, a, b, c⟩ => c (f r hr a b), fun f r hr a b => Classical.byContradiction fun c => f ⟨r, hr, a, b, c⟩⟩
theorem outd_iff {p : ShP} {H : List Int} {q : Int} {i : Nat} : Outd p.th (stOf H) i q ↔ Some_ p (HelpC p H q i) := by
  have h := some_iff (p := p) (fun k r => r.head = q ∧ r.kind ≠ 2 ∧ Above p.th k i ∧ AllY (stOf H) r.body)
  refine h.trans ?_
  exact ⟨fun ⟨k, hk, a, b, c, d⟩ => ⟨k, hk, a, b, over_iff.2 c, d⟩, fun ⟨k, hk, a, b, c, d⟩ => ⟨k, hk, a, b, over_iff.1 c, d⟩⟩
theorem safe_iff {p : ShP} {H : List Int} {q : Int} {i : Nat} : SafeR p.th (stOf H) i q ↔ ¬ Some_ p (LossC p H q i) := by
  have h := some_iff (p := p) (fun k r => r.head = q ∧ r.kind ≠ 2 ∧ Above p.th k i ∧ ¬ Fails (stOf H) r.body)
  have h2 : Some_ p (LossC p H q i) ↔ ∃ (k : Nat) (hk : k < p.th.rules.length), p.th.rules[k].head = q ∧ p.th.rules[k].kind ≠ 2 ∧ Above p.th k i ∧ ¬ Fails (stOf H) p.th.rules[k].body :=
    Iff.trans ⟨fun ⟨k, hk, a, b, c, d⟩ => ⟨k, hk, a, b, over_iff.1 c, d⟩, fun ⟨k, hk, a, b, c, d⟩ => ⟨k, hk, a, b, over_iff.2 c, d⟩⟩ h.symm
  rw [h2]
  exact ⟨fun f ⟨k, hk, a, b, c, d⟩ => d (f k hk a b c), fun f k hk a b c => Classical.byContradiction fun d => f ⟨k, hk, a, b, c, d⟩⟩
theorem opp_iff {p : ShP} {H : List Int} {q : Int} : Opp p.th (stOf H) q ↔ Some_ p (OppC p H q) := by
  have h := some_iff (p := p) (fun i r => r.head = -q ∧ ¬ Fails (stOf H) r.body ∧ ¬ Outd p.th (stOf H) i q)
  refine h.trans ?_
  exact ⟨fun ⟨k, hk, a, b, c⟩ => ⟨k, hk, a, b, fun d => c (outd_iff.2 d)⟩, fun ⟨k, hk, a, b, c⟩ => ⟨k, hk, a, b, fun d => c (outd_iff.1 d)⟩⟩
theorem beat_iff {p : ShP} {H : List Int} {q : Int} : Beat p.th (stOf H) q ↔ Some_ p (BeatC p H q) := by
  have h := some_iff (p := p) (fun i r => r.head = -q ∧ AllY (stOf H) r.body ∧ SafeR p.th (stOf H) i q)
  refine h.trans ?_
  exact ⟨fun ⟨k, hk, a, b, c⟩ => ⟨k, hk, a, b, safe_iff.1 c⟩, fun ⟨k, hk, a, b, c⟩ => ⟨k, hk, a, b, safe_iff.2 c⟩⟩
end Go.Proofs.YthokhiejlogpoaaGreatDoor.Sh
namespace Go.Proofs.YthokhiejlogpoaaGreatDoor.Sh
open Go.RowKit Mem Thy Nest Day Thm Sol Val Solve LawT

def mkSh (w : World) (b o n : Nat) (rs : List Rw) (RA : Option Addr) (rc : Nat) (ov : List (Int × Int)) (OA : Option Addr) (oc : Nat) : ShP := ⟨w, w.heap.size + 1, w.heap.size, b, o, n, rs, RA, rc, ov, OA, oc⟩
section
variable {w : World} {b o n : Nat} {rs : List Rw} {RA : Option Addr} {rc : Nat} {ov : List (Int × Int)} {OA : Option Addr} {oc : Nat}
theorem mkSh_ok (h : ThA w b o n rs RA rc ov OA oc) (hr : Right n rs ov) : (mkSh w b o n rs RA rc ov OA oc).Ok :=
  ⟨h, hr, by simp [mkSh], by simp [mkSh], by simp [mkSh]⟩
end
theorem nextS_set' {S : List Int} {a b : Bool} {q : Int} (hq : q ≠ 0) (h : place q < S.length) : stOf (setS a b q S) = nextS a b q (stOf S) := ChkW.nextS_set hq h
/-- the looks ahead of one -/
def Seen (kc : Int) (pl : Nat) (a b : Bool) (q : Int) : Prop := kc < (kind a b : Nat) ∨ (((kind a b : Nat) : Int) = kc ∧ place q < pl)
structure PrR (t : Th) (S0 H0 S H : List Int) (ag : Bool) (kc : Int) (pl : Nat) : Prop where
  g : Thy.Good t (stOf S) (stOf H)
  z : ag = true → Zs S H < Zs S0 H0
  e : ag = false → S = S0 ∧ H = H0 ∧ ∀ a b q, Seen kc pl a b q → t.Lit q → pick a (stOf S0) (stOf H0) q ≠ val b → ¬ Fol t (stOf S0) (stOf H0) a b q
theorem PrR.start {t : Th} {S H : List Int} (g : Thy.Good t (stOf S) (stOf H)) : PrR t S H S H false 3 0 := ⟨g, (fun h => by cases h), fun _ => ⟨rfl, rfl, fun a b q h _ => by
  have := kind_lt a b
  unfold Seen at h
  omega⟩⟩
theorem PrR.next {t : Th} {S0 H0 S H : List Int} {ag : Bool} {kc : Int} {n : Nat} (x : PrR t S0 H0 S H ag kc (2 * n)) (ht : t.names = n) : PrR t S0 H0 S H ag (kc - 1) 0 :=
  ⟨x.g, x.z, fun e => ⟨(x.e e).1, (x.e e).2.1, fun a b q h l => (x.e e).2.2 a b q (by
    have hp := place_lt l.1 l.2.1 l.2.2
    rw [ht] at hp
    unfold Seen at h ⊢
    omega) l⟩⟩
theorem PrR.no {t : Th} {S0 H0 S H : List Int} {ag : Bool} {a b : Bool} {pl : Nat} (x : PrR t S0 H0 S H ag (kind a b : Nat) pl) (h : pick a (stOf S) (stOf H) (lit pl) ≠ val b → ¬ Fol t (stOf S) (stOf H) a b (lit pl)) : PrR t S0 H0 S H ag (kind a b : Nat) (pl + 1) :=
  ⟨x.g, x.z, fun e => by
    obtain ⟨rfl, rfl, k⟩ := x.e e
    refine ⟨rfl, rfl, fun a' b' q h1 h2 h3 => ?_⟩
    by_cases c : a' = a ∧ b' = b ∧ place q = pl
    · obtain ⟨rfl, rfl, rfl⟩ := c
      rw [Thy.lit_place h2.1] at h
      exact h h3
    · refine k a' b' q ?_ h2 h3
      unfold Seen at *
      rcases h1 with h1 | ⟨h1, h4⟩
      · exact .inl h1
      · refine .inr ⟨h1, ?_⟩
        have ea : a' = a ∧ b' = b := by cases a' <;> cases b' <;> cases a <;> cases b <;> simp_all [kind]
        have : place q ≠ pl := fun e => c ⟨ea.1, ea.2, e⟩
        omega⟩
theorem PrR.yes {t : Th} {S0 H0 S H : List Int} {ag : Bool} {a b : Bool} {q kc kc2 : Int} {pl pl2 : Nat} (x : PrR t S0 H0 S H ag kc pl) (g : Thy.Good t (stOf (setS a b q S)) (stOf (setH a b q H))) (hq : q ≠ 0) (hS : place q < S.length) (hH : place q < H.length) (z : pick a (stOf S) (stOf H) q = 0) : PrR t S0 H0 (setS a b q S) (setH a b q H) true kc2 pl2 :=
  ⟨g, fun _ => by
    have h1 := zs_set (b := b) hq hS hH z
    cases ag
    · obtain ⟨rfl, rfl, _⟩ := x.e rfl
      exact h1
    · have := x.z rfl
      omega, fun h => by cases h⟩
theorem PrR.fin {t : Th} {S0 H0 S H : List Int} {pl : Nat} (x : PrR t S0 H0 S H false (-1) pl) : Fin t (stOf S) (stOf H) := by
  obtain ⟨rfl, rfl, k⟩ := x.e rfl
  intro a b q l f z
  exact k a b q (.inl (by omega)) l (by rw [z]; exact (val_ne b).symm) f
end Go.Proofs.YthokhiejlogpoaaGreatDoor.Sh
namespace Go.Proofs.YthokhiejlogpoaaGreatDoor.Sh
open Go.RowKit Mem Thy Nest Day Thm Sol Val Solve LawT

theorem kind_of {kc : Int} (h0 : 0 ≤ kc) (h3 : kc ≤ 3) : ∃ a b, kc = ((kind a b : Nat) : Int) := by
  have h : kc = 0 ∨ kc = 1 ∨ kc = 2 ∨ kc = 3 := by omega
  rcases h with rfl | rfl | rfl | rfl
  · exact ⟨true, true, rfl⟩
  · exact ⟨true, false, rfl⟩
  · exact ⟨false, true, rfl⟩
  · exact ⟨false, false, rfl⟩
theorem lit_in {p : ShP} {pl : Nat} (h : pl < 2 * p.n) : p.th.Lit (lit pl) := ⟨lit_ne pl, by show -(p.n : Int) ≤ lit pl; unfold lit; split <;> omega, by show lit pl ≤ (p.n : Int); unfold lit; split <;> omega⟩
theorem good_start (t : Th) (n : Nat) : Thy.Good t (stOf (List.replicate n 0)) (stOf (List.replicate n 0)) := by rw [stOf_zeros]; exact .start
end Go.Proofs.YthokhiejlogpoaaGreatDoor.Sh
namespace Go.Proofs.YthokhiejlogpoaaGreatDoor.Sh
open Go.RowKit Mem Thy Nest Day Thm Sol Val Solve LawT ChkW

set_option maxHeartbeats 400000 in
theorem islit_any (b o n : Nat) (q : Int) (w : World) (h : w.cell? ⟨b, o, none⟩ = some (.int .i64 n)) (hn : n ≤ 120) :
    Calls Tryz.prog 120 #[.pointer (some ⟨b, o, none⟩), .int .i64 q] w (BoolIs w (q ≠ 0 ∧ -(n : Int) ≤ q ∧ q ≤ n)) := by
  by_cases c0 : q = 0
  · subst c0
    go_enter Tryz.func120, Tryz.ntmps120
    go_wp2_with fail
    go_ret
    exact ⟨_, rfl, by simp, rfl⟩
  · have e0 : (q != 0) = true := by simp [c0]
    by_cases c1 : q ≤ n
    · by_cases c2 : -(n : Int) ≤ q
      · have HP := Lib.hid (show q ≠ 0 ∧ -(n : Int) ≤ q ∧ q ≤ n from ⟨c0, c2, c1⟩)
        have e1 : decide (q ≤ (n : Int)) = true := by simp [c1]
        have e2 : decide (-(n : Int) ≤ q) = true := by simp [c2]
        clear c0
        go_enter Tryz.func120, Tryz.ntmps120
        go_wp2_with fail
        go_ret
        exact ⟨_, rfl, iff_of_true rfl HP.out, rfl⟩
      · have HP := Lib.hid (show ¬ (q ≠ 0 ∧ -(n : Int) ≤ q ∧ q ≤ n) from fun h => c2 h.2.1)
        have e1 : decide (q ≤ (n : Int)) = true := by simp [c1]
        have e2 : decide (-(n : Int) ≤ q) = false := by simp [c2]
        clear c0 c2
        go_enter Tryz.func120, Tryz.ntmps120
        go_wp2_with fail
        go_ret
        exact ⟨_, rfl, iff_of_false (by simp) HP.out, rfl⟩
    · have HP := Lib.hid (show ¬ (q ≠ 0 ∧ -(n : Int) ≤ q ∧ q ≤ n) from fun h => c1 h.2.2)
      have e1 : decide (q ≤ (n : Int)) = false := by simp [c1]
      clear c0 c1
      go_enter Tryz.func120, Tryz.ntmps120
      go_wp2_with fail
      go_ret
      exact ⟨_, rfl, iff_of_false (by simp) HP.out, rfl⟩
end Go.Proofs.YthokhiejlogpoaaGreatDoor.Sh

/- What running a solver does to what is known: plain. -/
import Derived.Test.YtipbmpakdcmdoaaDoorRing
namespace Go.Proofs.YtipbmpakdcmdoaaDoor.Sol
open Thy

def setS (a b : Bool) (q : Int) (S : List Int) : List Int := match a with
  | true => S.set (place q) (val b)
  | false => S
def setH (a b : Bool) (q : Int) (H : List Int) : List Int := match a with
  | true => H
  | false => H.set (place q) (val b)
/-- what has been told, in order, and what is known by it -/
inductive Told (t : Th) : List (Bool × Bool × Int) → St → St → Prop
  | nil : Told t [] (fun _ => 0) (fun _ => 0)
  | step {l : List (Bool × Bool × Int)} {s h : St} {a b : Bool} {q : Int} : Told t l s h → t.Lit q → pick a s h q = 0 → Fol t s h a b q →
    Told t (l ++ [(a, b, q)]) (nextS a b q s) (nextH a b q h)
theorem Told.good {t : Th} {l : List (Bool × Bool × Int)} {s h : St} (x : Told t l s h) : Good t s h := by
  induction x with
  | nil => exact Good.start t
  | step _ _ z f ih => exact ih.step z f
theorem Told.set {t : Th} {l : List (Bool × Bool × Int)} {S H : List Int} (x : Told t l (stOf S) (stOf H)) {a b : Bool} {q : Int} (hq : t.Lit q) (hS : place q < S.length) (hH : place q < H.length) (z : pick a (stOf S) (stOf H) q = 0) (f : Fol t (stOf S) (stOf H) a b q) :
    Told t (l ++ [(a, b, q)]) (stOf (setS a b q S)) (stOf (setH a b q H)) := by
  have h := x.step hq z f
  cases a
  · simp only [setS, setH, stOf_set hq.1 hH]
    exact h
  · simp only [setS, setH, stOf_set hq.1 hS]
    exact h
theorem pick_set {S H : List Int} {a b : Bool} {q : Int} (hq : q ≠ 0) (hS : place q < S.length) (hH : place q < H.length) : pick a (stOf (setS a b q S)) (stOf (setH a b q H)) q = val b := by
  cases a
  · show stOf (H.set (place q) (val b)) q = _
    rw [stOf_set hq hH]
    simp [upd]
  · show stOf (S.set (place q) (val b)) q = _
    rw [stOf_set hq hS]
    simp [upd]
def Zs (S H : List Int) : Nat := Ring.zeros S + Ring.zeros H
theorem zs_set {S H : List Int} {a b : Bool} {q : Int} (hq : q ≠ 0) (hS : place q < S.length) (hH : place q < H.length) (z : pick a (stOf S) (stOf H) q = 0) : Zs (setS a b q S) (setH a b q H) < Zs S H := by
  unfold Zs
  cases a
  · have h0 : Ring.get H (place q) = 0 := by simpa [pick, stOf, hq, Ring.get] using z
    have := Ring.zeros_set (v := val b) hH h0 (val_ne b)
    simp only [setS, setH]
    omega
  · have h0 : Ring.get S (place q) = 0 := by simpa [pick, stOf, hq, Ring.get] using z
    have := Ring.zeros_set (v := val b) hS h0 (val_ne b)
    simp only [setS, setH]
    omega
def idx : Bool → Nat
  | true => 0
  | false => 1
/-- the looks ahead of one -/
def Ahead (q : Int) (i j : Nat) (a b : Bool) (q' : Int) : Prop := q' < q ∨ (q' = q ∧ (idx a < i ∨ (idx a = i ∧ idx b < j)))
/-- since the round began: something was said, or nothing follows of what was looked at -/
structure Pr (t : Th) (S0 H0 S H : List Int) (ag : Bool) (q : Int) (i j : Nat) : Prop where
  z : ag = true → Zs S H < Zs S0 H0
  e : ag = false → S = S0 ∧ H = H0 ∧ ∀ a b q', Ahead q i j a b q' → t.Lit q' → pick a (stOf S0) (stOf H0) q' = 0 → ¬ Fol t (stOf S0) (stOf H0) a b q'
theorem Pr.start (t : Th) (S H : List Int) : Pr t S H S H false (-t.names) 0 0 := ⟨fun h => by simp at h, fun _ => ⟨rfl, rfl, fun a b q' h l => by
  rcases h with h | ⟨_, h | ⟨_, h⟩⟩
  · exact absurd l.2.1 (by omega)
  · exact absurd h (by omega)
  · exact absurd h (by omega)⟩⟩
theorem Pr.weak {t : Th} {S0 H0 S H : List Int} {ag : Bool} {q q2 : Int} {i j i2 j2 : Nat} (x : Pr t S0 H0 S H ag q i j) (h : ∀ a b q', Ahead q2 i2 j2 a b q' → t.Lit q' → Ahead q i j a b q') : Pr t S0 H0 S H ag q2 i2 j2 :=
  ⟨x.z, fun e => ⟨(x.e e).1, (x.e e).2.1, fun a b q' h1 h2 h3 => (x.e e).2.2 a b q' (h a b q' h1 h2) h2 h3⟩⟩
theorem Pr.next_q {t : Th} {S0 H0 S H : List Int} {ag : Bool} {q : Int} (x : Pr t S0 H0 S H ag q 2 0) : Pr t S0 H0 S H ag (q + 1) 0 0 := x.weak fun a b q' h _ => by
  unfold Ahead at *
  have : idx a < 2 := by cases a <;> decide
  omega
theorem Pr.zero {t : Th} {S0 H0 S H : List Int} {ag : Bool} (x : Pr t S0 H0 S H ag 0 0 0) : Pr t S0 H0 S H ag (0 + 1) 0 0 := x.weak fun a b q' h l => by
  have := l.1
  unfold Ahead at *
  omega
theorem Pr.next_a {t : Th} {S0 H0 S H : List Int} {ag : Bool} {q : Int} {i : Nat} (x : Pr t S0 H0 S H ag q i 2) : Pr t S0 H0 S H ag q (i + 1) 0 := x.weak fun a b q' h _ => by
  unfold Ahead at *
  have : idx b < 2 := by cases b <;> decide
  omega
theorem Pr.no {t : Th} {S0 H0 S H : List Int} {ag : Bool} {a b : Bool} {q : Int} (x : Pr t S0 H0 S H ag q (idx a) (idx b)) (h : pick a (stOf S) (stOf H) q = 0 → ¬ Fol t (stOf S) (stOf H) a b q) : Pr t S0 H0 S H ag q (idx a) (idx b + 1) :=
  ⟨x.z, fun e => by
    obtain ⟨rfl, rfl, k⟩ := x.e e
    refine ⟨rfl, rfl, fun a' b' q' h1 h2 h3 => ?_⟩
    by_cases c : q' = q ∧ a' = a ∧ b' = b
    · obtain ⟨rfl, rfl, rfl⟩ := c
      exact h h3
    · refine k a' b' q' ?_ h2 h3
      unfold Ahead at *
      rcases h1 with h1 | ⟨rfl, h1 | ⟨h1, h4⟩⟩
      · exact .inl h1
      · exact .inr ⟨rfl, .inl h1⟩
      · refine .inr ⟨rfl, .inr ⟨h1, ?_⟩⟩
        have ea : a' = a := by cases a' <;> cases a <;> simp_all [idx]
        have eb : b' ≠ b := fun e => c ⟨rfl, ea, e⟩
        have : idx b' ≠ idx b := by cases b' <;> cases b <;> simp_all [idx]
        omega⟩
theorem Pr.yes {t : Th} {S0 H0 S H : List Int} {ag : Bool} {a b : Bool} {q : Int} {i j i2 j2 : Nat} {q2 : Int} (x : Pr t S0 H0 S H ag q i j) (hq : q ≠ 0) (hS : place q < S.length) (hH : place q < H.length) (z : pick a (stOf S) (stOf H) q = 0) : Pr t S0 H0 (setS a b q S) (setH a b q H) true q2 i2 j2 :=
  ⟨fun _ => by
    have h1 := zs_set (b := b) hq hS hH z
    cases ag
    · obtain ⟨rfl, rfl, _⟩ := x.e rfl
      exact h1
    · have := x.z rfl
      omega, fun h => by simp at h⟩
theorem Pr.fin {t : Th} {S0 H0 S H : List Int} {q : Int} (x : Pr t S0 H0 S H false q 0 0) (hq : t.names < q) : Fin t (stOf S) (stOf H) := by
  obtain ⟨rfl, rfl, k⟩ := x.e rfl
  intro a b q' l f z
  exact k a b q' (.inl (by have := l.2.2; omega)) l z f
end Go.Proofs.YtipbmpakdcmdoaaDoor.Sol

/- Facts: small functions of both sides that only test: letters, words, people, amounts, days. -/
import Derived.Test.YtflklbhgjfonbaaGreatDoorFkP
import Derived.Test.YtflklbhgjfonbaaGreatDoorErr
import Derived.Test.YtflklbhgjfonbaaGreatDoorNest
import Derived.WalkKit
import Derived.WalkSpells
import Derived.WalkSmall
import Derived.BigQuiet
namespace Go.Proofs.YtflklbhgjfonbaaGreatDoor.Fk
open Go.RowKit Mem Nest

def smallI (n : Int) : Bool := decide (97 ≤ n ∧ n ≤ 122)
def digitI (n : Int) : Bool := decide (48 ≤ n ∧ n ≤ 57)
def inI (n : Int) : Bool := smallI n || digitI n || n == 95
def inW (c : UInt8) : Bool := inI (c.toNat : Int)
def wordB : List UInt8 → Bool
  | [] => false
  | c :: t => decide ((c :: t).length ≤ 24) && smallI (c.toNat : Int) && t.all inW
def bodyB (n : Int) : Bool := decide (0 ≤ n ∧ n < 40)
def coinB (n : Int) : Bool := decide (-1000000000000 ≤ n ∧ n ≤ 1000000000000)
def dayB (n : Int) : Bool := decide (1 ≤ n ∧ n ≤ 3652059)
def RetB (b : Bool) (w : World) (e : Ending) (w' : World) : Prop := e = .returned (.bool b) ∧ w = w'
theorem retb {a b : Bool} (w : World) (h : a = b) : RetB b w (.returned (.bool a)) w := ⟨by rw [h], rfl⟩

theorem word_all {s : List UInt8} (hlp : 0 < s.length) (h24 : s.length ≤ 24) (h0 : smallI (s[0].toNat : Int) = true) (h : ∀ j (h : j < s.length), inW s[j] = true) : wordB s = true := by
  cases s with
  | nil => simp at hlp
  | cons c t =>
    rw [wordB]
    rw [decide_eq_true h24]
    simp only [List.getElem_cons_zero] at h0
    rw [h0]
    simp only [Bool.true_and, List.all_eq_true]
    intro x hx
    obtain ⟨j, hj, e⟩ := List.getElem_of_mem hx
    have := h (j + 1) (by simp; omega)
    simpa [e] using this
theorem word_len {s : List UInt8} (h : s.length = 0 ∨ 24 < s.length) : wordB s = false := by
  cases s with
  | nil => rfl
  | cons c t =>
    rw [wordB]
    rw [decide_eq_false (by simp at h ⊢; omega)]
    rfl
theorem word_first {s : List UInt8} (hlp : 0 < s.length) (h0 : smallI (s[0].toNat : Int) = false) : wordB s = false := by
  cases s with
  | nil => rfl
  | cons c t =>
    rw [wordB]
    simp only [List.getElem_cons_zero] at h0
    rw [h0]
    simp
theorem word_bad {s : List UInt8} {j : Nat} (hj : j < s.length) (h : inW s[j] = false) : wordB s = false := by
  cases s with
  | nil => rfl
  | cons c t =>
    cases j with
    | zero =>
      simp only [List.getElem_cons_zero] at h
      have : smallI (c.toNat : Int) = false := by
        unfold inW inI at h
        simp only [Bool.or_eq_false_iff] at h
        exact h.1.1
      rw [wordB]
      rw [this]
      simp
    | succ j =>
      simp only [List.getElem_cons_succ] at h
      have : t.all inW = false := by
        rw [Bool.eq_false_iff]
        intro hh
        rw [List.all_eq_true] at hh
        rw [hh _ (List.getElem_mem (by simpa using hj))] at h
        cases h
      rw [wordB]
      rw [this]
      simp
theorem in_small {n : Int} (h : smallI n = true) : inI n = true := by unfold inI; rw [h]; rfl
theorem in_digit {n : Int} (h : digitI n = true) : inI n = true := by unfold inI; rw [h]; simp
theorem in_under {n : Int} (h : n = 95) : inI n = true := by unfold inI; simp [h]
theorem in_no {n : Int} (h1 : smallI n = false) (h2 : digitI n = false) (h3 : ¬ n = 95) : inI n = false := by unfold inI; rw [h1, h2]; simp [h3]
end Go.Proofs.YtflklbhgjfonbaaGreatDoor.Fk

/- Gaps: the clash of two rows, in plain lists; common of any two cells. -/
import Derived.Test.YtjfiodknjchngaaDoorGpS
import Derived.Test.YtjfiodknjchngaaDoorGpZ
namespace Go.Proofs.YtjfiodknjchngaaDoor.Gp
open Go.RowKit Mem Nest Fk MapSet Err

/-- the answers that two rows have in common, so far -/
def commTo (f : Nat → Option Nat) : Nat → List Int
  | 0 => []
  | q + 1 => match f q with
    | none => commTo f q
    | some a => commTo f q ++ [(a : Int)]
theorem commTo_len (f : Nat → Option Nat) : ∀ q, (commTo f q).length ≤ q
  | 0 => Nat.le_refl 0
  | q + 1 => by
    have h := commTo_len f q
    rw [commTo]
    cases f q with
    | none => simp only; omega
    | some a => simp only [List.length_append, List.length_singleton]; omega
theorem commAll_snoc : ∀ (ns : List Nat) (xs ys : List (Option (List Int))) (n : Nat) (x y : Option (List Int)), xs.length = ns.length → ys.length = ns.length →
    commAll (ns ++ [n]) (xs ++ [x]) (ys ++ [y]) = (commAll ns xs ys).bind fun c => (commF n x y).map fun a => c ++ [(a : Int)]
  | [], [], [], n, x, y, _, _ => by
    simp only [List.nil_append, commAll]
    cases commF n x y <;> rfl
  | m :: ns, z :: xs, u :: ys, n, x, y, h1, h2 => by
    have ih := commAll_snoc ns xs ys n x y (by simpa using h1) (by simpa using h2)
    simp only [List.cons_append, commAll]
    rw [ih]
    cases commF m z u with
    | none => rfl
    | some i =>
      simp only
      cases commAll ns xs ys with
      | none => rfl
      | some c => cases commF n x y <;> rfl
  | [], _ :: _, _, _, _, _, h, _ => by simp at h
  | [], [], _ :: _, _, _, _, _, h => by simp at h
  | _ :: _, [], _, _, _, _, h, _ => by simp at h
  | _ :: _, _ :: _, [], _, _, _, _, h => by simp at h
theorem commTo_all (f : Nat → Option Nat) (ns : List Nat) (xs ys : List (Option (List Int))) (h1 : xs.length = ns.length) (h2 : ys.length = ns.length)
    (hf : ∀ q (h : q < ns.length), f q = commF ns[q] (xs[q]'(by omega)) (ys[q]'(by omega))) : ∀ q, q ≤ ns.length → commAll (ns.take q) (xs.take q) (ys.take q) = if (commTo f q).length = q then some (commTo f q) else none
  | 0, _ => by simp [commAll, commTo]
  | q + 1, h => by
    have ih := commTo_all f ns xs ys h1 h2 hf q (by omega)
    have hq : q < ns.length := by omega
    have hlen := commTo_len f q
    rw [List.take_succ_eq_append_getElem hq, List.take_succ_eq_append_getElem (by omega : q < xs.length), List.take_succ_eq_append_getElem (by omega : q < ys.length),
      commAll_snoc _ _ _ _ _ _ (by simp; omega) (by simp; omega), ih, ← hf q hq, commTo]
    cases f q with
    | none =>
      have hne : ¬ (commTo f q).length = q + 1 := by omega
      simp only [if_neg hne]
      split <;> rfl
    | some a =>
      simp only [List.length_append, List.length_singleton]
      by_cases e : (commTo f q).length = q
      · rw [if_pos e, if_pos (by omega)]
        rfl
      · rw [if_neg e, if_neg (by omega)]
        rfl
/-- the first case that two rows fit, where they say different things -/
def clAt (ns : List Nat) (rs : List Rw) (i k : Nat) : Option (List Int) := if (rAt rs i).out == (rAt rs k).out then none else commAll ns (rAt rs i).cells (rAt rs k).cells
def clF (ns : List Nat) (rs : List Rw) (i k q : Nat) : Option Nat := commF (ns[q]?.getD 0) ((rAt rs i).cells[q]?.getD none) ((rAt rs k).cells[q]?.getD none)
theorem clAt_same {ns : List Nat} {rs : List Rw} {i k : Nat} (h : ((rAt rs i).out == (rAt rs k).out) = true) : clAt ns rs i k = none := by
  unfold clAt
  rw [if_pos h]
theorem clAt_to {ns : List Nat} {rs : List Rw} {i k : Nat} (hN : ∀ r ∈ rs, r.cells.length = ns.length) (hi : i < rs.length) (hk : k < rs.length) (h : ((rAt rs i).out == (rAt rs k).out) = false) :
    clAt ns rs i k = if (commTo (clF ns rs i k) ns.length).length = ns.length then some (commTo (clF ns rs i k) ns.length) else none := by
  have e1 : (rAt rs i).cells.length = ns.length := by rw [rAt_get hi]; exact hN _ (List.getElem_mem hi)
  have e2 : (rAt rs k).cells.length = ns.length := by rw [rAt_get hk]; exact hN _ (List.getElem_mem hk)
  have h3 := commTo_all (clF ns rs i k) ns (rAt rs i).cells (rAt rs k).cells e1 e2 (fun q hq => by
    unfold clF
    have a1 : q < (rAt rs i).cells.length := by omega
    have a2 : q < (rAt rs k).cells.length := by omega
    simp [hq, a1, a2]) ns.length (Nat.le_refl _)
  rw [List.take_length, List.take_of_length_le (by omega), List.take_of_length_le (by omega)] at h3
  unfold clAt
  rw [if_neg (by rw [h]; simp), h3]
/-- no two rows clash, up to a pair -/
def NoCl (ns : List Nat) (rs : List Rw) (i k : Nat) : Prop := ∀ a b, a < b → b < rs.length → a < i ∨ (a = i ∧ b < k) → clAt ns rs a b = none
theorem NoCl.start (ns : List Nat) (rs : List Rw) : NoCl ns rs 0 1 := fun a b h1 _ h3 => by
  rcases h3 with h3 | ⟨h3, h4⟩
  · omega
  · omega
theorem NoCl.step {ns : List Nat} {rs : List Rw} {i k : Nat} (h : NoCl ns rs i k) (hc : clAt ns rs i k = none) : NoCl ns rs i (k + 1) := fun a b h1 h2 h3 => by
  rcases h3 with h3 | ⟨rfl, h4⟩
  · exact h a b h1 h2 (.inl h3)
  · rcases Nat.lt_succ_iff_lt_or_eq.1 h4 with h5 | rfl
    · exact h a b h1 h2 (.inr ⟨rfl, h5⟩)
    · exact hc
theorem NoCl.next {ns : List Nat} {rs : List Rw} {i : Nat} (h : NoCl ns rs i rs.length) : NoCl ns rs (i + 1) (i + 1 + 1) := fun a b h1 h2 h3 => by
  rcases h3 with h3 | ⟨rfl, h4⟩
  · rcases Nat.lt_succ_iff_lt_or_eq.1 h3 with h5 | rfl
    · exact h a b h1 h2 (.inl h5)
    · exact h a b h1 h2 (.inr ⟨rfl, h2⟩)
  · omega
/-- what Clash tells -/
def ClashPost (c : Nat) (ns : List Nat) (rs : List Rw) (A : Nat → Addr) (w : World) (e : Ending) (w' : World) : Prop := Below w.heap.size w w' ∧
  ((c ≠ 0 ∧ e = .returned (.tuple #[.int .i64 0, .int .i64 0, .slice none 0 0, .bool false, errVal A c])) ∨
   (c = 0 ∧ NoCl ns rs rs.length 0 ∧ e = .returned (.tuple #[.int .i64 0, .int .i64 0, .slice none 0 0, .bool false, .nilIface])) ∨
   (c = 0 ∧ ∃ (i k : Nat) (cs : List Int) (A' : Option Addr) (c' : Nat), i < k ∧ k < rs.length ∧ NoCl ns rs i k ∧ clAt ns rs i k = some cs ∧ e = .returned (.tuple #[.int .i64 i, .int .i64 k, .slice A' cs.length c', .bool true, .nilIface]) ∧ Rd w' A' (ints cs)))
end Go.Proofs.YtjfiodknjchngaaDoor.Gp

/- Settling claims in plain lists: what is posted, and why the accounts tally. -/
import Derived.Test.YtjnkcpeicocjhaaDoorPays
import Derived.Test.YtjnkcpeicocjhaaDoorPart3
namespace Go.Proofs.YtjnkcpeicocjhaaDoor.Settle
open Pays Rnd

inductive Acc | rights | paid | debts
deriving DecidableEq
abbrev Line := Acc × Int
structure St where
  right : Int
  debt : Int
  paid : Int
  es : List (Int × List Line)

/-- what of these is over by a day -/
def overSum (d : Int) (ps : List Pay) : Int := sumL (ps.map fun p => if p.2.1 ≤ d then p.2.2 else 0)
theorem overSum_bd (d : Int) (ps : List Pay) (h : ∀ p ∈ ps, -1000000000000 ≤ p.2.2 ∧ p.2.2 ≤ 1000000000000) : -(1000000000000 * ps.length) ≤ overSum d ps ∧ overSum d ps ≤ 1000000000000 * ps.length := by
  have := sumL_bd 1000000000000 (ps.map fun p => if p.2.1 ≤ d then p.2.2 else 0) (by
    intro x hx
    obtain ⟨p, hp, rfl⟩ := List.mem_map.1 hx
    have := h p hp
    show -1000000000000 ≤ (if p.2.1 ≤ d then p.2.2 else 0) ∧ (if p.2.1 ≤ d then p.2.2 else 0) ≤ 1000000000000
    split <;> omega)
  rwa [List.length_map] at this
theorem overSum_take (d : Int) (ps : List Pay) (k : Nat) (h : k < ps.length) : overSum d (ps.take (k + 1)) = overSum d (ps.take k) + (if ps[k].2.1 ≤ d then ps[k].2.2 else 0) := by
  unfold overSum
  rw [List.map_take, List.map_take, sumL_take_succ _ _ (by simpa using h)]
  simp
/-- what of a new right makes up for a debt -/
def offOf (rate debt d : Int) : Int := if 0 < d then (if debt < (Coin.partV d rate 2).1 then debt else (Coin.partV d rate 2).1) else d
def linesOf (d w : Int) : List Line := (if d = 0 then [] else [(.rights, -d)]) ++ (if 0 < d ∧ d - w ≠ 0 then [(.paid, d - w)] else []) ++ (if w = 0 then [] else [(.debts, w)])
def nowOf (c : Int × List Pay) : Int := overSum c.1 c.2
def step (rate : Int) (s : St) (c : Int × List Pay) : St :=
  ⟨nowOf c, s.debt - offOf rate s.debt (nowOf c - s.right), if 0 < nowOf c - s.right then s.paid + (nowOf c - s.right - offOf rate s.debt (nowOf c - s.right)) else s.paid,
    if nowOf c - s.right = 0 then s.es else s.es ++ [(c.1, linesOf (nowOf c - s.right) (offOf rate s.debt (nowOf c - s.right)))]⟩
def run (rate : Int) (cs : List (Int × List Pay)) : St := cs.foldl (step rate) ⟨0, 0, 0, []⟩
theorem run_take (rate : Int) (cs : List (Int × List Pay)) (k : Nat) (h : k < cs.length) : run rate (cs.take (k + 1)) = step rate (run rate (cs.take k)) cs[k] := by
  unfold run
  rw [List.take_succ_eq_append_getElem h, List.foldl_append]
  rfl
/-- an amount that is good -/
def G (n : Int) : Prop := -1000000000000 ≤ n ∧ n ≤ 1000000000000
/-- no amount grows too great at this claim -/
def Fits (rate : Int) (s : St) (c : Int × List Pay) : Prop := G (nowOf c) ∧ G (nowOf c - s.right) ∧ G (step rate s c).debt ∧ G (step rate s c).paid

/-! ### the accounts tally -/
def balL (a : Acc) (l : List Line) : Int := sumL (l.map fun x => if x.1 = a then x.2 else 0)
def bal (a : Acc) (es : List (Int × List Line)) : Int := sumL (es.map fun e => balL a e.2)
def sumE (l : List Line) : Int := sumL (l.map (·.2))
theorem bal_snoc (a : Acc) (es : List (Int × List Line)) (e : Int × List Line) : bal a (es ++ [e]) = bal a es + balL a e.2 := by
  unfold bal
  rw [List.map_append, sumL_app]
  simp [sumL]
theorem partV_nonneg (d rate : Int) (hd : 0 ≤ d) (hr : 0 ≤ rate) : 0 ≤ (Coin.partV d rate 2).1 := by
  have h : 0 ≤ rnd (d * rate) 10000 2 := by
    have hm := Int.mul_nonneg hd hr
    unfold rnd
    rw [if_neg (by omega)]
    split <;> omega
  unfold Coin.partV
  split
  · simp
  · split
    · simp
    · split
      · simp
      · exact h
theorem off_bd (rate debt d : Int) (hr : 0 ≤ rate) (hd : 0 ≤ debt) : offOf rate debt d ≤ debt ∧ (d ≤ 0 → offOf rate debt d = d) ∧ (0 < d → 0 ≤ offOf rate debt d) := by
  unfold offOf
  by_cases h : 0 < d
  · have := partV_nonneg d rate (by omega) hr
    simp only [if_pos h]
    split <;> (refine ⟨?_, ?_, ?_⟩ <;> omega)
  · simp only [if_neg h]
    refine ⟨by omega, by simp, by omega⟩
theorem balL_lines (d w : Int) (hw : d ≤ 0 → w = d) : balL .rights (linesOf d w) = -d ∧ balL .paid (linesOf d w) = (if 0 < d then d - w else 0) ∧ balL .debts (linesOf d w) = w ∧ sumE (linesOf d w) = 0 := by
  unfold linesOf balL sumE
  by_cases h0 : d = 0
  · subst h0
    have := hw (by omega)
    subst this
    simp [sumL]
  · by_cases h1 : 0 < d
    · by_cases h2 : d - w = 0
      · by_cases h3 : w = 0
        · omega
        · simp [h0, h1, h2, h3, sumL]; omega
      · by_cases h3 : w = 0
        · subst h3; simp [h0, h1, sumL]; omega
        · simp [h0, h1, h2, h3, sumL]; omega
    · have := hw (by omega)
      subst this
      simp [h0, h1, sumL]; omega
structure Inv (s : St) : Prop where
  debt : 0 ≤ s.debt
  paid : s.paid = s.right + s.debt
  bR : bal .rights s.es = -s.right
  bP : bal .paid s.es = s.paid
  bD : bal .debts s.es = -s.debt
  sums : ∀ e ∈ s.es, sumE e.2 = 0
  never : ∀ i, i ≤ s.es.length → bal .debts (s.es.take i) ≤ 0
theorem step_inv (rate : Int) (hr : 0 ≤ rate) {s : St} (h : Inv s) (c : Int × List Pay) : Inv (step rate s c) := by
  obtain ⟨o1, o2, o3⟩ := off_bd rate s.debt (nowOf c - s.right) hr h.debt
  obtain ⟨l1, l2, l3, l4⟩ := balL_lines (nowOf c - s.right) (offOf rate s.debt (nowOf c - s.right)) o2
  obtain ⟨h1, h2, h3, h4, h5, h6, h7⟩ := h
  unfold step
  generalize offOf rate s.debt (nowOf c - s.right) = w at *
  by_cases h0 : nowOf c - s.right = 0
  · have hw := o2 (by omega)
    rw [if_pos h0, if_neg (show ¬ 0 < nowOf c - s.right by omega)]
    refine ⟨?_, ?_, ?_, h4, ?_, h6, h7⟩
    · show 0 ≤ s.debt - w; omega
    · show s.paid = nowOf c + (s.debt - w); omega
    · show bal .rights s.es = -nowOf c; omega
    · show bal .debts s.es = -(s.debt - w); omega
  · rw [if_neg h0]
    refine ⟨?_, ?_, ?_, ?_, ?_, ?_, ?_⟩
    · show 0 ≤ s.debt - w; omega
    · show (if 0 < nowOf c - s.right then s.paid + (nowOf c - s.right - w) else s.paid) = nowOf c + (s.debt - w)
      split
      · omega
      · have := o2 (by omega); omega
    · show bal .rights (s.es ++ [(c.1, linesOf (nowOf c - s.right) w)]) = -nowOf c
      rw [bal_snoc, l1]; omega
    · show bal .paid (s.es ++ [(c.1, linesOf (nowOf c - s.right) w)]) = (if 0 < nowOf c - s.right then s.paid + (nowOf c - s.right - w) else s.paid)
      rw [bal_snoc, l2]; split <;> omega
    · show bal .debts (s.es ++ [(c.1, linesOf (nowOf c - s.right) w)]) = -(s.debt - w)
      rw [bal_snoc, l3]; omega
    · intro e he
      rcases List.mem_append.1 he with he | he
      · exact h6 e he
      · rw [List.mem_singleton] at he
        subst he
        exact l4
    · intro i hi
      by_cases hl : i ≤ s.es.length
      · show bal .debts ((s.es ++ [(c.1, linesOf (nowOf c - s.right) w)]).take i) ≤ 0
        rw [List.take_append_of_le_length hl]
        exact h7 i hl
      · have hi' : i ≤ (s.es ++ [(c.1, linesOf (nowOf c - s.right) w)]).length := hi
        rw [List.length_append, List.length_singleton] at hi'
        show bal .debts ((s.es ++ [(c.1, linesOf (nowOf c - s.right) w)]).take i) ≤ 0
        rw [List.take_of_length_le (by rw [List.length_append, List.length_singleton]; omega), bal_snoc, l3]; omega
theorem run_inv (rate : Int) (hr : 0 ≤ rate) (cs : List (Int × List Pay)) : Inv (run rate cs) := by
  suffices ∀ (cs : List (Int × List Pay)) (s : St), Inv s → Inv (cs.foldl (step rate) s) from this cs _ ⟨by simp, by simp, by simp [bal, sumL], by simp [bal, sumL], by simp [bal, sumL], by simp, by simp [bal, sumL]⟩
  intro cs
  induction cs with
  | nil => intro s h; exact h
  | cons c cs ih => intro s h; exact ih _ (step_inv rate hr h c)
theorem bal_take (a : Acc) (es : List (Int × List Line)) (k : Nat) (h : k < es.length) : bal a (es.take (k + 1)) = bal a (es.take k) + balL a es[k].2 := by
  unfold bal
  rw [List.map_take, List.map_take, sumL_take_succ _ _ (by simpa using h)]
  simp
theorem balL_take (a : Acc) (l : List Line) (k : Nat) (h : k < l.length) : balL a (l.take (k + 1)) = balL a (l.take k) + (if l[k].1 = a then l[k].2 else 0) := by
  unfold balL
  rw [List.map_take, List.map_take, sumL_take_succ _ _ (by simpa using h)]
  simp
theorem sumE_take (l : List Line) (k : Nat) (h : k < l.length) : sumE (l.take (k + 1)) = sumE (l.take k) + l[k].2 := by
  unfold sumE
  rw [List.map_take, List.map_take, sumL_take_succ _ _ (by simpa using h)]
  simp

/-! ### and stay small -/
def SmallL (l : List Line) : Prop := l.length ≤ 3 ∧ ∀ x ∈ l, -2000000000000 ≤ x.2 ∧ x.2 ≤ 2000000000000
theorem lines_small (d w : Int) (hd : G d) (hw : -1000000000000 ≤ w ∧ w ≤ 1000000000000) : SmallL (linesOf d w) := by
  unfold G at hd
  unfold linesOf
  refine ⟨?_, ?_⟩
  · split <;> split <;> split <;> simp
  · intro x hx
    simp only [List.mem_append] at hx
    rcases hx with (hx | hx) | hx
    · split at hx <;> simp at hx
      subst hx; simp only; omega
    · split at hx <;> simp at hx
      subst hx; simp only; omega
    · split at hx <;> simp at hx
      subst hx; simp only; omega
structure Sml (s : St) (j : Nat) : Prop where
  right : G s.right
  debt : G s.debt
  len : s.es.length ≤ j
  es : ∀ e ∈ s.es, SmallL e.2
theorem step_small (rate : Int) (hr : 0 ≤ rate) {s : St} {j : Nat} (hi : Inv s) (h : Sml s j) (c : Int × List Pay) (hf : Fits rate s c) : Sml (step rate s c) (j + 1) := by
  obtain ⟨f1, f2, f3, f4⟩ := hf
  obtain ⟨o1, o2, o3⟩ := off_bd rate s.debt (nowOf c - s.right) hr hi.debt
  obtain ⟨h1, h2, h3, h4⟩ := h
  refine ⟨f1, f3, ?_, ?_⟩
  · unfold step
    simp only
    split
    · omega
    · simp; omega
  · unfold step
    simp only
    split
    · exact h4
    · intro e he
      rcases List.mem_append.1 he with he | he
      · exact h4 e he
      · rw [List.mem_singleton] at he
        subst he
        refine lines_small _ _ f2 ?_
        unfold G at f2 h2
        by_cases hd : nowOf c - s.right ≤ 0
        · rw [o2 hd]; exact f2
        · have := o3 (by omega); omega
theorem run_small (rate : Int) (hr : 0 ≤ rate) (cs : List (Int × List Pay)) : ∀ j, j ≤ cs.length → (∀ i (h : i < cs.length), i < j → Fits rate (run rate (cs.take i)) cs[i]) → Sml (run rate (cs.take j)) j
  | 0, _, _ => by simp [run]; exact ⟨by unfold G; simp, by unfold G; simp, by simp, by simp⟩
  | j + 1, hj, h => by
    rw [run_take rate cs j (by omega)]
    exact step_small rate hr (run_inv rate hr _) (run_small rate hr cs j (by omega) (fun i hi hij => h i hi (by omega))) _ (h j (by omega) (by omega))
end Go.Proofs.YtjnkcpeicocjhaaDoor.Settle

/- Gaps: what the search finds, in plain lists: gaps and idle rows. -/
import Derived.Test.YtednlkchbjpabaaDoorGpV
import Derived.Test.YtednlkchbjpabaaDoorGpR
namespace Go.Proofs.YtednlkchbjpabaaDoor.Gp
open Go.RowKit Mem Nest Fk

/-- the rows of a set that fit so far, as bits -/
def mkF (rs : List Rw) (p0 : Nat → Bool) (pre : List Int) : Nat := bitsF (fun i => p0 i && fitR (rAt rs i).cells pre) rs.length
theorem mkF_step (rs : List Rw) (p0 : Nat → Bool) (N : Nat) (hN : ∀ r ∈ rs, r.cells.length = N) (pre : List Int) (i : Nat) (h : pre.length < N) :
    lft rs pre.length (i : Int) (mkF rs p0 pre) rs.length = mkF rs p0 (pre ++ [(i : Int)]) := by
  unfold mkF
  rw [lft_bits _ _ _ _ _ (Nat.le_refl _)]
  apply bitsF_congr
  intro k hk
  have hc : (rAt rs k).cells.length = N := by rw [rAt_get hk]; exact hN _ (List.getElem_mem hk)
  rw [fitR_snoc _ _ _ (by omega), Bool.and_assoc]
  congr 2
  have : pre.length < rs[k].cells.length := by rw [hN _ (List.getElem_mem hk)]; exact h
  simp [cellOf, hk, rAt_get hk, this]
theorem mkF_nil (rs : List Rw) (p0 : Nat → Bool) : mkF rs p0 [] = bitsF p0 rs.length := bitsF_congr fun i _ => by rw [fitR_nil, Bool.and_true]
theorem mkF_lt (rs : List Rw) (p0 : Nat → Bool) (pre : List Int) : mkF rs p0 pre < 2 ^ rs.length := bitsF_lt _ _
theorem bitsF_low (k : Nat) : ∀ n, k ≤ n → bitsF (fun i => decide (i < k)) n = 2 ^ k - 1
  | 0, h => by
    obtain rfl : k = 0 := by omega
    rfl
  | n + 1, h => by
    by_cases hk : k ≤ n
    · rw [bitsF, bitsF_low k n hk]
      simp
      omega
    · obtain rfl : k = n + 1 := by omega
      rw [← bitsF_all (n + 1)]
      exact bitsF_congr fun i hi => by simp [hi]
theorem exts_nat {ns : List Nat} {c : List Int} (h : c ∈ exts ns) : ∀ a ∈ c, ((a.toNat : Nat) : Int) = a := by
  induction ns generalizing c with
  | nil =>
    simp only [exts, List.mem_singleton] at h
    subst h
    simp
  | cons n ns ih =>
    simp only [exts, List.mem_flatMap, List.mem_map] at h
    obtain ⟨i, _, d, hd, rfl⟩ := h
    intro a ha
    rcases List.mem_cons.1 ha with rfl | ha
    · simp
    · exact ih hd a ha
theorem only_fit (rs : List Rw) (k : Nat) (hk : k < rs.length) : ∀ (c : List Int) (q : Nat), (∀ a ∈ c, ((a.toNat : Nat) : Int) = a) → onlyF (fun (q a : Nat) => fitC (cellOf rs k q) (a : Nat)) q c = fitR ((rAt rs k).cells.drop q) c
  | [], q, _ => by
    rw [fitR_nil]
    rfl
  | a :: c, q, h => by
    have ih := only_fit rs k hk c (q + 1) (fun b hb => h b (by simp [hb]))
    rw [onlyF, ih, h a (by simp)]
    by_cases hq : q < (rAt rs k).cells.length
    · rw [List.drop_eq_getElem_cons hq, fitR]
      congr 2
      rw [rAt_get hk] at hq
      simp [cellOf, hk, rAt_get hk, hq]
    · rw [List.drop_of_length_le (by omega), List.drop_of_length_le (by omega)]
      have e : cellOf rs k q = none := by
        rw [rAt_get hk] at hq
        simp [cellOf, hk]
        rw [List.getElem?_eq_none (by omega)]
        rfl
      rw [e]
      cases c <;> rfl
theorem find_congr {α : Type} {p q : α → Bool} : ∀ {l : List α}, (∀ x ∈ l, p x = q x) → l.find? p = l.find? q
  | [], _ => rfl
  | x :: l, h => by
    rw [List.find?_cons, List.find?_cons, h x (by simp), find_congr fun y hy => h y (by simp [hy])]
theorem says_none_iff (rs : List Rw) (c : List Int) : (saysF rs c).isNone = true ↔ ∀ i, i < rs.length → fitR (rAt rs i).cells c = false := by
  unfold saysF
  rw [Option.isNone_iff_eq_none, List.findIdx?_eq_none_iff]
  constructor
  · intro h i hi
    rw [rAt_get hi]
    exact h _ (List.getElem_mem hi)
  · intro h r hr
    obtain ⟨i, hi, rfl⟩ := List.mem_iff_getElem.1 hr
    have := h i hi
    rwa [rAt_get hi] at this
theorem says_some_iff (rs : List Rw) (c : List Int) (k : Nat) (hk : k < rs.length) : saysF rs c = some k ↔ fitR (rAt rs k).cells c = true ∧ ∀ i, i < k → fitR (rAt rs i).cells c = false := by
  unfold saysF
  rw [List.findIdx?_eq_some_iff_getElem]
  constructor
  · rintro ⟨_, h1, h2⟩
    rw [rAt_get hk]
    refine ⟨h1, fun i hi => ?_⟩
    rw [rAt_get (by omega)]
    simpa using h2 i hi
  · rintro ⟨h1, h2⟩
    rw [rAt_get hk] at h1
    refine ⟨hk, h1, fun i hi => ?_⟩
    have := h2 i hi
    rw [rAt_get (by omega)] at this
    rw [this]
    simp
/-- the first case with which no row fits -/
theorem gap_find (P : Prm) (rs : List Rw) (hN : ∀ r ∈ rs, r.cells.length = P.ns.length) (h1 : P.l1 = fun (m q i : Nat) => lft rs q (i : Nat) m rs.length) (h2 : P.l2 = fun (m q i : Nat) => lft [] q (i : Nat) m 0) (ho : ∀ q i, P.only q i = true) (hf : ∀ a b, P.fd a b = (a == 0)) :
    P.R 0 (2 ^ rs.length - 1) 0 = (exts P.ns).find? fun c => (saysF rs c).isNone := by
  have h := srch_find P.only P.l1 P.l2 P.fd (mkF rs fun _ => true) (fun _ => 0) P.ns.length
    (fun pre i hp => by rw [h1]; exact mkF_step rs _ P.ns.length hN pre i hp) (fun pre i hp => by rw [h2]; rfl) P.ns [] (by simp)
  rw [mkF_nil, bitsF_all] at h
  unfold Prm.R
  rw [List.drop_zero]
  refine h.trans (find_congr fun c hc => ?_)
  have hon : ∀ (c : List Int) (q : Nat), onlyF P.only q c = true := by
    intro c
    induction c with
    | nil => intro q; rfl
    | cons a c ih => intro q; rw [onlyF, ho, ih]; rfl
  rw [hon, Bool.true_and, hf, List.nil_append, Bool.eq_iff_iff, beq_iff_eq, says_none_iff]
  unfold mkF
  rw [bitsF_zero]
  simp
/-- the first case of which a row is the first that fits -/
theorem idle_find (P : Prm) (rs : List Rw) (k : Nat) (hk : k < rs.length) (hN : ∀ r ∈ rs, r.cells.length = P.ns.length) (h1 : P.l1 = fun (m q i : Nat) => lft rs q (i : Nat) m rs.length) (h2 : P.l2 = fun (m q i : Nat) => lft [] q (i : Nat) m 0)
    (ho : P.only = fun (q a : Nat) => fitC (cellOf rs k q) (a : Nat)) (hf : ∀ a b, P.fd a b = (a == 0)) :
    P.R 0 (2 ^ k - 1) 0 = (exts P.ns).find? fun c => saysF rs c == some k := by
  have h := srch_find P.only P.l1 P.l2 P.fd (mkF rs fun i => decide (i < k)) (fun _ => 0) P.ns.length
    (fun pre i hp => by rw [h1]; exact mkF_step rs _ P.ns.length hN pre i hp) (fun pre i hp => by rw [h2]; rfl) P.ns [] (by simp)
  rw [mkF_nil, bitsF_low k _ (by omega)] at h
  unfold Prm.R
  rw [List.drop_zero]
  refine h.trans (find_congr fun c hc => ?_)
  rw [ho, only_fit rs k hk c _ (exts_nat hc), hf, List.nil_append, Bool.eq_iff_iff, beq_iff_eq, says_some_iff rs c k hk, Bool.and_eq_true, beq_iff_eq]
  refine and_congr (by simp) ?_
  unfold mkF
  rw [bitsF_zero]
  constructor
  · intro h i hi
    have := h i (by omega)
    simpa [hi] using this
  · intro h i hi
    by_cases hik : i < k
    · rw [h i hik, Bool.and_false]
    · show (decide (i < k) && fitR (rAt rs i).cells c) = false
      rw [decide_eq_false hik, Bool.false_and]
end Go.Proofs.YtednlkchbjpabaaDoor.Gp

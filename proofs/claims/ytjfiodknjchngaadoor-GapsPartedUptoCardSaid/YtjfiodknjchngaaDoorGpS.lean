/- Gaps: what the search finds, in plain lists: gaps and idle rows. Gaps: the first answer that two cells have; the first case that two rows fit. -/
import Derived.Test.YtjfiodknjchngaaDoorGpV
import Derived.Test.YtjfiodknjchngaaDoorGpR
import Derived.Test.YtjfiodknjchngaaDoorGpE
namespace Go.Proofs.YtjfiodknjchngaaDoor.Gp
open Go.RowKit Mem Nest Fk

/-- the rows of a set that fit so far, as bits -/
def mkF (rs : List Rw) (p0 : Nat → Bool) (pre : List Int) : Nat := bitsF (fun i => p0 i && fitR (rAt rs i).cells pre) rs.length
theorem mkF_step (rs : List Rw) (p0 : Nat → Bool) (N : Nat) (hN : ∀ r ∈ rs, r.cells.length = N) (pre : List Int) (i : Nat) (h : pre.length < N) :
    lft rs pre.length (i : Int) (mkF rs p0 pre) rs.length = mkF rs p0 (pre ++ [(i : Int)]) := by
  unfold mkF
  rw [lft_bits _ _ _ _ _ (Nat.le_refl _)]
  apply bitsF_congr
  intro k hk
  have hc : (rAt rs k).cells.length = N := by rw [rAt_get hk]; exact hN _ (List.getElem_mem hk)
  rw [fitR_snoc _ _ _ (by omega), Bool.and_assoc]
  congr 2
  have : pre.length < rs[k].cells.length := by rw [hN _ (List.getElem_mem hk)]; exact h
  simp [cellOf, hk, rAt_get hk, this]
theorem mkF_nil (rs : List Rw) (p0 : Nat → Bool) : mkF rs p0 [] = bitsF p0 rs.length := bitsF_congr fun i _ => by rw [fitR_nil, Bool.and_true]
theorem mkF_lt (rs : List Rw) (p0 : Nat → Bool) (pre : List Int) : mkF rs p0 pre < 2 ^ rs.length := bitsF_lt _ _
theorem bitsF_low (k : Nat) : ∀ n, k ≤ n → bitsF (fun i => decide (i < k)) n = 2 ^ k - 1
  | 0, h => by
    obtain rfl : k = 0 := by omega
    rfl
  | n + 1, h => by
    by_cases hk : k ≤ n
    · rw [bitsF, bitsF_low k n hk]
      simp
      omega
    · obtain rfl : k = n + 1 := by omega
      rw [← bitsF_all (n + 1)]
      exact bitsF_congr fun i hi => by simp [hi]
theorem exts_nat {ns : List Nat} {c : List Int} (h : c ∈ exts ns) : ∀ a ∈ c, ((a.toNat : Nat) : Int) = a := by
  induction ns generalizing c with
  | nil =>
    simp only [exts, List.mem_singleton] at h
    subst h
    simp
  | cons n ns ih =>
    simp only [exts, List.mem_flatMap, List.mem_map] at h
    obtain ⟨i, _, d, hd, rfl⟩ := h
    intro a ha
    rcases List.mem_cons.1 ha with rfl | ha
    · simp
    · exact ih hd a ha
theorem only_fit (rs : List Rw) (k : Nat) (hk : k < rs.length) : ∀ (c : List Int) (q : Nat), (∀ a ∈ c, ((a.toNat : Nat) : Int) = a) → onlyF (fun (q a : Nat) => fitC (cellOf rs k q) (a : Nat)) q c = fitR ((rAt rs k).cells.drop q) c
  | [], q, _ => by
    rw [fitR_nil]
    rfl
  | a :: c, q, h => by
    have ih := only_fit rs k hk c (q + 1) (fun b hb => h b (by simp [hb]))
    rw [onlyF, ih, h a (by simp)]
    by_cases hq : q < (rAt rs k).cells.length
    · rw [List.drop_eq_getElem_cons hq, fitR]
      congr 2
      rw [rAt_get hk] at hq
      simp [cellOf, hk, rAt_get hk, hq]
    · rw [List.drop_of_length_le (by omega), List.drop_of_length_le (by omega)]
      have e : cellOf rs k q = none := by
        rw [rAt_get hk] at hq
        simp [cellOf, hk]
        rw [List.getElem?_eq_none (by omega)]
        rfl
      rw [e]
      cases c <;> rfl
theorem find_congr {α : Type} {p q : α → Bool} : ∀ {l : List α}, (∀ x ∈ l, p x = q x) → l.find? p = l.find? q
  | [], _ => rfl
  | x :: l, h => by
    rw [List.find?_cons, List.find?_cons, h x (by simp), find_congr fun y hy => h y (by simp [hy])]
theorem says_none_iff (rs : List Rw) (c : List Int) : (saysF rs c).isNone = true ↔ ∀ i, i < rs.length → fitR (rAt rs i).cells c = false := by
  unfold saysF
  rw [Option.isNone_iff_eq_none, List.findIdx?_eq_none_iff]
  constructor
  · intro h i hi
    rw [rAt_get hi]
    exact h _ (List.getElem_mem hi)
  · intro h r hr
    obtain ⟨i, hi, rfl⟩ := List.mem_iff_getElem.1 hr
    have := h i hi
    rwa [rAt_get hi] at this
theorem says_some_iff (rs : List Rw) (c : List Int) (k : Nat) (hk : k < rs.length) : saysF rs c = some k ↔ fitR (rAt rs k).cells c = true ∧ ∀ i, i < k → fitR (rAt rs i).cells c = false := by
  unfold saysF
  rw [List.findIdx?_eq_some_iff_getElem]
  constructor
  · rintro ⟨_, h1, h2⟩
    rw [rAt_get hk]
    refine ⟨h1, fun i hi => ?_⟩
    rw [rAt_get (by omega)]
    simpa using h2 i hi
  · rintro ⟨h1, h2⟩
    rw [rAt_get hk] at h1
    refine ⟨hk, h1, fun i hi => ?_⟩
    have := h2 i hi
    rw [rAt_get (by omega)] at this
    rw [this]
    simp
/-- the first case with which no row fits -/
theorem gap_find (P : Prm) (rs : List Rw) (hN : ∀ r ∈ rs, r.cells.length = P.ns.length) (h1 : P.l1 = fun (m q i : Nat) => lft rs q (i : Nat) m rs.length) (h2 : P.l2 = fun (m q i : Nat) => lft [] q (i : Nat) m 0) (ho : ∀ q i, P.only q i = true) (hf : ∀ a b, P.fd a b = (a == 0)) :
    P.R 0 (2 ^ rs.length - 1) 0 = (exts P.ns).find? fun c => (saysF rs c).isNone := by
  have h := srch_find P.only P.l1 P.l2 P.fd (mkF rs fun _ => true) (fun _ => 0) P.ns.length
    (fun pre i hp => by rw [h1]; exact mkF_step rs _ P.ns.length hN pre i hp) (fun pre i hp => by rw [h2]; rfl) P.ns [] (by simp)
  rw [mkF_nil, bitsF_all] at h
  unfold Prm.R
  rw [List.drop_zero]
  refine h.trans (find_congr fun c hc => ?_)
  have hon : ∀ (c : List Int) (q : Nat), onlyF P.only q c = true := by
    intro c
    induction c with
    | nil => intro q; rfl
    | cons a c ih => intro q; rw [onlyF, ho, ih]; rfl
  rw [hon, Bool.true_and, hf, List.nil_append, Bool.eq_iff_iff, beq_iff_eq, says_none_iff]
  unfold mkF
  rw [bitsF_zero]
  simp
/-- the first case of which a row is the first that fits -/
theorem idle_find (P : Prm) (rs : List Rw) (k : Nat) (hk : k < rs.length) (hN : ∀ r ∈ rs, r.cells.length = P.ns.length) (h1 : P.l1 = fun (m q i : Nat) => lft rs q (i : Nat) m rs.length) (h2 : P.l2 = fun (m q i : Nat) => lft [] q (i : Nat) m 0)
    (ho : P.only = fun (q a : Nat) => fitC (cellOf rs k q) (a : Nat)) (hf : ∀ a b, P.fd a b = (a == 0)) :
    P.R 0 (2 ^ k - 1) 0 = (exts P.ns).find? fun c => saysF rs c == some k := by
  have h := srch_find P.only P.l1 P.l2 P.fd (mkF rs fun i => decide (i < k)) (fun _ => 0) P.ns.length
    (fun pre i hp => by rw [h1]; exact mkF_step rs _ P.ns.length hN pre i hp) (fun pre i hp => by rw [h2]; rfl) P.ns [] (by simp)
  rw [mkF_nil, bitsF_low k _ (by omega)] at h
  unfold Prm.R
  rw [List.drop_zero]
  refine h.trans (find_congr fun c hc => ?_)
  rw [ho, only_fit rs k hk c _ (exts_nat hc), hf, List.nil_append, Bool.eq_iff_iff, beq_iff_eq, says_some_iff rs c k hk, Bool.and_eq_true, beq_iff_eq]
  refine and_congr (by simp) ?_
  unfold mkF
  rw [bitsF_zero]
  constructor
  · intro h i hi
    have := h i (by omega)
    simpa [hi] using this
  · intro h i hi
    by_cases hik : i < k
    · rw [h i hik, Bool.and_false]
    · show (decide (i < k) && fitR (rAt rs i).cells c) = false
      rw [decide_eq_false hik, Bool.false_and]
end Go.Proofs.YtjfiodknjchngaaDoor.Gp
namespace Go.Proofs.YtjfiodknjchngaaDoor.Gp
open Go.RowKit Mem Nest Fk

def commF (n : Nat) (x y : Option (List Int)) : Option Nat := (List.range n).find? fun i : Nat => fitC x (i : Int) && fitC y (i : Int)
def commAll : List Nat → List (Option (List Int)) → List (Option (List Int)) → Option (List Int)
  | [], _, _ => some []
  | n :: ns, x :: xs, y :: ys => match commF n x y with
    | none => none
    | some i => (commAll ns xs ys).map fun c => (i : Int) :: c
  | _, _, _ => none
theorem findSome_if {α β : Type} (g : α → Bool) (f : α → β) : ∀ l : List α, (l.findSome? fun i => if g i = true then some (f i) else none) = (l.find? g).map f
  | [] => rfl
  | x :: l => by
    rw [List.findSome?_cons, List.find?_cons]
    cases h : g x
    · simp [findSome_if g f l]
    · simp
theorem comm_find : ∀ (ns : List Nat) (xs ys : List (Option (List Int))), xs.length = ns.length → ys.length = ns.length → (exts ns).find? (fun c => fitR xs c && fitR ys c) = commAll ns xs ys
  | [], xs, ys, _, _ => by simp [exts, commAll, fitR_nil]
  | n :: ns, [], ys, h, _ => by simp at h
  | n :: ns, x :: xs, [], _, h => by simp at h
  | n :: ns, x :: xs, y :: ys, h1, h2 => by
    have ih := comm_find ns xs ys (by simpa using h1) (by simpa using h2)
    rw [exts, List.find?_flatMap, commAll]
    have e : (fun i : Nat => ((exts ns).map fun c => (i : Int) :: c).find? fun c => fitR (x :: xs) c && fitR (y :: ys) c) = fun i : Nat => if (fitC x (i : Int) && fitC y (i : Int)) = true then (commAll ns xs ys).map (fun c => (i : Int) :: c) else none := by
      funext i
      rw [find_map_cons]
      cases hg : (fitC x (i : Int) && fitC y (i : Int))
      · have : ((exts ns).find? fun c => fitR (x :: xs) ((i : Int) :: c) && fitR (y :: ys) ((i : Int) :: c)) = none := by
          rw [List.find?_eq_none]
          intro c _
          simp only [fitR]
          intro h
          simp only [Bool.and_eq_true] at h
          rw [h.1.1, h.2.1] at hg
          cases hg
        rw [this]
        rfl
      · rw [if_pos rfl, ← ih]
        congr 1
        apply find_congr
        intro c _
        simp only [Bool.and_eq_true] at hg
        simp only [fitR, hg.1, hg.2, Bool.true_and]
    rw [e]
    cases hr : commAll ns xs ys with
    | none =>
      have : (fun i : Nat => if (fitC x (i : Int) && fitC y (i : Int)) = true then (none : Option (List Int)).map (fun c => (i : Int) :: c) else none) = fun _ => none := by
        funext i
        split <;> rfl
      rw [this]
      have h3 : (List.range n).findSome? (fun _ : Nat => (none : Option (List Int))) = none := List.findSome?_eq_none_iff.2 (fun _ _ => rfl)
      rw [h3]
      cases commF n x y <;> rfl
    | some c =>
      have h3 := findSome_if (fun i : Nat => fitC x (i : Int) && fitC y (i : Int)) (fun i : Nat => (i : Int) :: c) (List.range n)
      simp only [Option.map_some] at h3 ⊢
      rw [h3]
      unfold commF
      cases (List.range n).find? fun i : Nat => fitC x (i : Int) && fitC y (i : Int) <;> rfl
-- COMMON (printed by gen_gpc.py, then its posts were turned to RetQ)
def RetQ (x : Int) (w : World) (e : Ending) (w' : World) : Prop := e = .returned (.int .i64 x) ∧ w = w'
theorem retQ {a b : Int} {w w' : World} (h : a = b) (hb : w = w') : RetQ b w (.returned (.int .i64 a)) w' := ⟨by rw [h], hb⟩
theorem comm_at {n k : Nat} {x y : Option (List Int)} (hk : k < n) (h : ∀ j, j < k → (fitC x (j : Int) && fitC y (j : Int)) = false) (hc : (fitC x (k : Int) && fitC y (k : Int)) = true) : commF n x y = some k := by
  unfold commF
  rw [show n = k + ((n - k - 1) + 1) by omega, List.range_add, List.find?_append, List.find?_eq_none.2 (fun j hj => by rw [h j (List.mem_range.1 hj)]; simp), List.range_succ_eq_map]
  simp [hc]
theorem comm_no {n : Nat} {x y : Option (List Int)} (h : ∀ j, j < n → (fitC x (j : Int) && fitC y (j : Int)) = false) : commF n x y = none := by
  unfold commF
  exact List.find?_eq_none.2 (fun j hj => by rw [h j (List.mem_range.1 hj)]; simp)
end Go.Proofs.YtjfiodknjchngaaDoor.Gp

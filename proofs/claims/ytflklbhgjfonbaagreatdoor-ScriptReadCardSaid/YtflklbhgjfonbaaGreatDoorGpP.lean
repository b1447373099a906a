/- Gaps: tables of cases in plain lists: which rows fit a case, all cases in order, the search for the first one. -/
import Derived.Test.YtflklbhgjfonbaaGreatDoorFkW
namespace Go.Proofs.YtflklbhgjfonbaaGreatDoor.Gp
open Go.RowKit Mem Fk

/-- a question with its answers; a row of cells (none: it fits all) and what it says; a table -/
structure Qn where
  name : List UInt8
  ans : List (List UInt8)
structure Rw where
  cells : List (Option (List Int))
  out : List UInt8
def fitC (c : Option (List Int)) (a : Int) : Bool := match c with
  | none => true
  | some l => l.contains a
def fitR : List (Option (List Int)) → List Int → Bool
  | c :: cs, a :: bs => fitC c a && fitR cs bs
  | _, _ => true
theorem fitR_nil (cs : List (Option (List Int))) : fitR cs [] = true := by cases cs <;> rfl
theorem fitR_snoc : ∀ (cs : List (Option (List Int))) (bs : List Int) (a : Int) (h : bs.length < cs.length), fitR cs (bs ++ [a]) = (fitR cs bs && fitC cs[bs.length] a)
  | [], bs, a, h => by simp at h
  | c :: cs, [], a, h => by simp [fitR, fitR_nil]
  | c :: cs, b :: bs, a, h => by
    have h' : bs.length < cs.length := by simpa using h
    have := fitR_snoc cs bs a h'
    simp only [List.cons_append, fitR, this, List.length_cons, List.getElem_cons_succ, Bool.and_assoc]
theorem fitR_take : ∀ (cs : List (Option (List Int))) (bs : List Int) (k : Nat), fitR cs bs = true → fitR cs (bs.take k) = true
  | [], bs, k, _ => by cases bs.take k <;> rfl
  | c :: cs, [], k, _ => by simp [fitR]
  | c :: cs, b :: bs, 0, _ => by simp [fitR]
  | c :: cs, b :: bs, k + 1, h => by
    simp only [fitR, Bool.and_eq_true, List.take_succ_cons] at h ⊢
    exact ⟨h.1, fitR_take cs bs k h.2⟩
/-- the first row that fits -/
def saysF (rs : List Rw) (c : List Int) : Option Nat := rs.findIdx? fun r => fitR r.cells c

/-- all cases, in order -/
def exts : List Nat → List (List Int)
  | [] => [[]]
  | n :: ns => (List.range n).flatMap fun i : Nat => (exts ns).map fun c => (i : Int) :: c
def addQ (n : Nat) (out : List (List Int)) : List (List Int) := out.flatMap fun c => (List.range n).map fun a : Nat => c ++ [(a : Int)]
theorem fold_exts : ∀ (ns : List Nat) (out : List (List Int)), ns.foldl (fun o n => addQ n o) out = out.flatMap fun c => (exts ns).map fun d => c ++ d
  | [], out => by simp [exts]
  | n :: ns, out => by
    rw [List.foldl_cons, fold_exts ns (addQ n out)]
    simp only [addQ, exts, List.flatMap_assoc, List.map_flatMap, List.flatMap_map, List.map_map]
    congr 1
    funext c
    congr 1
    funext a
    apply List.map_congr_left
    intro d _
    simp
theorem exts_len {ns : List Nat} {c : List Int} (h : c ∈ exts ns) : c.length = ns.length := by
  induction ns generalizing c with
  | nil => simp [exts] at h; simp [h]
  | cons n ns ih =>
    simp only [exts, List.mem_flatMap, List.mem_map] at h
    obtain ⟨i, _, d, hd, rfl⟩ := h
    simp [ih hd]
/-- all cases, but not many more than so many -/
def nextF (most n : Nat) : List (List Int) → List (List Int) → List (List Int)
  | next, [] => next
  | next, c :: cs => if next.length ≤ most then nextF most n (next ++ (List.range n).map fun a : Nat => c ++ [(a : Int)]) cs else next
theorem nextF_small (most n : Nat) : ∀ (cs acc : List (List Int)), (nextF most n acc cs).length ≤ most → nextF most n acc cs = acc ++ addQ n cs
  | [], acc, _ => by simp [nextF, addQ]
  | c :: cs, acc, h => by
    unfold nextF at h ⊢
    split
    · rename_i ha
      rw [if_pos ha] at h
      rw [nextF_small most n cs _ h]
      simp [addQ, List.append_assoc]
    · rename_i ha
      rw [if_neg ha] at h
      exact absurd h ha
theorem nextF_big (most n : Nat) (hn : 1 ≤ n) : ∀ (cs acc : List (List Int)), most < cs.length + acc.length → most < (nextF most n acc cs).length
  | [], acc, h => by simpa [nextF] using h
  | c :: cs, acc, h => by
    unfold nextF
    split
    · apply nextF_big most n hn
      simp only [List.length_append, List.length_map, List.length_range]
      simp only [List.length_cons] at h
      omega
    · omega
theorem nextF_len (most n : Nat) : ∀ (cs acc : List (List Int)), acc.length ≤ most + n → (nextF most n acc cs).length ≤ most + n
  | [], acc, h => by simpa [nextF] using h
  | c :: cs, acc, h => by
    unfold nextF
    split
    · apply nextF_len most n
      simp only [List.length_append, List.length_map, List.length_range]
      omega
    · exact h
theorem nextF_each (most n k : Nat) : ∀ (cs acc : List (List Int)), (∀ c ∈ acc, c.length = k + 1) → (∀ c ∈ cs, c.length = k) → ∀ c ∈ nextF most n acc cs, c.length = k + 1
  | [], acc, h, _ => by simpa [nextF] using h
  | c :: cs, acc, h, h2 => by
    unfold nextF
    split
    · apply nextF_each most n k cs
      · intro d hd
        rcases List.mem_append.1 hd with hd | hd
        · exact h d hd
        · obtain ⟨a, _, rfl⟩ := List.mem_map.1 hd
          simp [h2 c (by simp)]
      · exact fun d hd => h2 d (by simp [hd])
    · exact h
def casesF (most : Nat) (ns : List Nat) : List (List Int) := ns.foldl (fun o n => nextF most n [] o) [[]]
theorem fold_big (most : Nat) : ∀ (ns : List Nat) (out : List (List Int)), (∀ n ∈ ns, 1 ≤ n) → most < out.length → most < (ns.foldl (fun o n => nextF most n [] o) out).length
  | [], out, _, h => h
  | n :: ns, out, h1, h => by
    rw [List.foldl_cons]
    exact fold_big most ns _ (fun m hm => h1 m (by simp [hm])) (nextF_big most n (h1 n (by simp)) out [] (by simpa using h))
theorem fold_small (most : Nat) : ∀ (ns : List Nat) (out : List (List Int)), (∀ n ∈ ns, 1 ≤ n) → (ns.foldl (fun o n => nextF most n [] o) out).length ≤ most → ns.foldl (fun o n => nextF most n [] o) out = ns.foldl (fun o n => addQ n o) out
  | [], out, _, h => rfl
  | n :: ns, out, h1, h => by
    rw [List.foldl_cons] at h ⊢
    have h2 : (nextF most n [] out).length ≤ most := by
      apply Nat.le_of_not_lt
      intro hlt
      exact absurd h (Nat.not_le_of_lt (fold_big most ns _ (fun m hm => h1 m (by simp [hm])) hlt))
    rw [fold_small most ns _ (fun m hm => h1 m (by simp [hm])) h, nextF_small most n out [] h2, List.foldl_cons, List.nil_append]
theorem casesF_small (most : Nat) (ns : List Nat) (h1 : ∀ n ∈ ns, 1 ≤ n) (h : (casesF most ns).length ≤ most) : casesF most ns = exts ns := by
  unfold casesF at h ⊢
  rw [fold_small most ns _ h1 h, fold_exts]
  simp

/-- the search, question by question -/
def srchF (only : Nat → Nat → Bool) (l1 l2 : Nat → Nat → Nat → Nat) (fd : Nat → Nat → Bool) : List Nat → Nat → Nat → Nat → Option (List Int)
  | [], _, a, b => if fd a b = true then some [] else none
  | n :: ns, q, a, b => (List.range n).findSome? fun i : Nat => if only q i = true then (srchF only l1 l2 fd ns (q + 1) (l1 a q i) (l2 b q i)).map (fun c => (i : Int) :: c) else none
def onlyF (only : Nat → Nat → Bool) : Nat → List Int → Bool
  | _, [] => true
  | q, a :: c => only q a.toNat && onlyF only (q + 1) c
theorem find_map_cons (i : Int) (p : List Int → Bool) (l : List (List Int)) : (l.map fun c => i :: c).find? p = (l.find? fun c => p (i :: c)).map fun c => i :: c := by
  rw [List.find?_map]
  rfl
theorem srch_find (only : Nat → Nat → Bool) (l1 l2 : Nat → Nat → Nat → Nat) (fd : Nat → Nat → Bool) (m1 m2 : List Int → Nat) (N : Nat)
    (h1 : ∀ pre : List Int, ∀ i : Nat, pre.length < N → l1 (m1 pre) pre.length i = m1 (pre ++ [(i : Int)])) (h2 : ∀ pre : List Int, ∀ i : Nat, pre.length < N → l2 (m2 pre) pre.length i = m2 (pre ++ [(i : Int)])) :
    ∀ (ns : List Nat) (pre : List Int), pre.length + ns.length = N → srchF only l1 l2 fd ns pre.length (m1 pre) (m2 pre) = (exts ns).find? fun c => onlyF only pre.length c && fd (m1 (pre ++ c)) (m2 (pre ++ c))
  | [], pre, _ => by
    simp only [srchF, exts, List.find?_cons, List.find?_nil, onlyF, Bool.true_and, List.append_nil]
    split <;> rename_i h <;> simp [h]
  | n :: ns, pre, hN => by
    simp only [List.length_cons] at hN
    rw [srchF, exts, List.find?_flatMap]
    congr 1
    funext i
    rw [find_map_cons]
    have ih := srch_find only l1 l2 fd m1 m2 N h1 h2 ns (pre ++ [(i : Int)]) (by simp; omega)
    rw [h1 pre i (by omega), h2 pre i (by omega)]
    simp only [List.length_append, List.length_singleton, List.append_assoc, List.singleton_append] at ih
    rw [ih]
    simp only [onlyF, Int.toNat_natCast]
    cases h : only pre.length i
    · have hn : ((exts ns).find? fun _ => false) = none := List.find?_eq_none.2 (by simp)
      simp [hn]
    · simp

/-- rows bs bits -/
def bitsF (p : Nat → Bool) : Nat → Nat
  | 0 => 0
  | n + 1 => bitsF p n + if p n = true then 2 ^ n else 0
theorem bitsF_lt (p : Nat → Bool) : ∀ n, bitsF p n < 2 ^ n
  | 0 => by simp [bitsF]
  | n + 1 => by
    have := bitsF_lt p n
    rw [bitsF, Nat.pow_succ]
    split <;> omega
theorem bitsF_test (p : Nat → Bool) : ∀ (n i : Nat), (bitsF p n).testBit i = (decide (i < n) && p i)
  | 0, i => by simp [bitsF]
  | n + 1, i => by
    have hl := bitsF_lt p n
    have ih := bitsF_test p n i
    rw [bitsF]
    by_cases hp : p n = true
    · rw [if_pos hp]
      by_cases hi : i = n
      · subst hi
        rw [Nat.add_comm, Nat.testBit_two_pow_add_eq, Nat.testBit_lt_two_pow hl]
        simp [hp]
      · by_cases hlt : i < n
        · rw [Nat.add_comm, Nat.testBit_two_pow_add_gt (by omega), ih]
          simp [hlt, Nat.lt_succ_of_lt hlt]
        · have h1 : bitsF p n + 2 ^ n < 2 ^ i := by
            have : 2 ^ (n + 1) ≤ 2 ^ i := Nat.pow_le_pow_right (by omega) (by omega)
            rw [Nat.pow_succ] at this
            omega
          rw [Nat.testBit_lt_two_pow h1]
          have : ¬ i < n + 1 := by omega
          simp [this]
    · rw [if_neg hp, Nat.add_zero, ih]
      by_cases hi : i = n
      · subst hi
        simp [hp]
      · have : decide (i < n + 1) = decide (i < n) := decide_eq_decide.2 (by omega)
        rw [this]
theorem bitsF_congr {p q : Nat → Bool} : ∀ {n : Nat}, (∀ i, i < n → p i = q i) → bitsF p n = bitsF q n
  | 0, _ => rfl
  | n + 1, h => by rw [bitsF, bitsF, bitsF_congr (n := n) (fun i hi => h i (by omega)), h n (by omega)]
theorem bitsF_all : ∀ n, bitsF (fun _ => true) n = 2 ^ n - 1
  | 0 => rfl
  | n + 1 => by
    have : 1 ≤ 2 ^ n := Nat.one_le_two_pow
    rw [bitsF, bitsF_all n, Nat.pow_succ, if_pos rfl]
    omega
theorem bitsF_zero {p : Nat → Bool} : ∀ {n : Nat}, (bitsF p n = 0) ↔ ∀ i, i < n → p i = false
  | 0 => by simp [bitsF]
  | n + 1 => by
    have : 0 < 2 ^ n := Nat.two_pow_pos n
    constructor
    · intro h i hi
      rw [bitsF] at h
      have h1 : bitsF p n = 0 := by omega
      have h2 : (if p n = true then 2 ^ n else 0) = 0 := by omega
      by_cases hin : i = n
      · subst hin
        split at h2
        · omega
        · rename_i hp
          simpa using hp
      · exact (bitsF_zero (n := n)).1 h1 i (by omega)
    · intro h
      rw [bitsF, (bitsF_zero (n := n)).2 (fun i hi => h i (by omega)), h n (by omega)]
      simp
/-- which rows are left behind an answer -/
def cellOf (rs : List Rw) (k q : Nat) : Option (List Int) := ((rs[k]?.map (·.cells)).getD [])[q]?.getD none
def lft (rs : List Rw) (q : Nat) (a : Int) (m : Nat) : Nat → Nat
  | 0 => m
  | k + 1 => if (lft rs q a m k).testBit k = true ∧ fitC (cellOf rs k q) a = false then lft rs q a m k ^^^ 2 ^ k else lft rs q a m k
theorem lft_test (rs : List Rw) (q : Nat) (a : Int) (m i : Nat) : ∀ k, (lft rs q a m k).testBit i = (m.testBit i && (decide (k ≤ i) || fitC (cellOf rs i q) a))
  | 0 => by simp [lft]
  | k + 1 => by
    have ih := lft_test rs q a m i k
    rw [lft]
    by_cases hi : i = k
    · subst hi
      have hni : ¬ i + 1 ≤ i := by omega
      rw [decide_eq_true (Nat.le_refl i), Bool.true_or, Bool.and_true] at ih
      rw [decide_eq_false hni, Bool.false_or]
      split
      · rename_i h
        rw [Nat.testBit_xor, h.1, Nat.testBit_two_pow_self, h.2]
        simp
      · rename_i h
        rw [ih]
        rw [ih] at h
        cases hm : m.testBit i
        · rfl
        · cases hf : fitC (cellOf rs i q) a
          · exact absurd ⟨hm, hf⟩ h
          · rfl
    · have hd : decide (k ≤ i) = decide (k + 1 ≤ i) := decide_eq_decide.2 (by omega)
      rw [← hd, ← ih]
      split
      · rw [Nat.testBit_xor, Nat.testBit_two_pow_of_ne (by omega)]
        simp
      · rfl
theorem lft_lt (rs : List Rw) (q : Nat) (a : Int) (m : Nat) (h : m < 2 ^ 64) : ∀ k, k ≤ 64 → lft rs q a m k < 2 ^ 64
  | 0, _ => h
  | k + 1, hk => by
    rw [lft]
    split
    · exact Nat.xor_lt_two_pow (lft_lt rs q a m h k (by omega)) (Nat.pow_lt_pow_right (by omega) (by omega))
    · exact lft_lt rs q a m h k (by omega)
theorem lft_bits (rs : List Rw) (q : Nat) (a : Int) (p : Nat → Bool) (n : Nat) (hn : n ≤ rs.length) : lft rs q a (bitsF p n) rs.length = bitsF (fun i => p i && fitC (cellOf rs i q) a) n := by
  apply Nat.eq_of_testBit_eq
  intro i
  rw [lft_test, bitsF_test, bitsF_test]
  by_cases hi : i < n
  · have : ¬ rs.length ≤ i := by omega
    simp [hi, this]
  · simp [hi]
end Go.Proofs.YtflklbhgjfonbaaGreatDoor.Gp

/- Explanations' texts, in plain lists: a text's rows, a step's line, a line's step; the steps of a text of steps. -/
import Derived.Test.YtflklbhgjfonbaaGreatDoorMem
import Derived.Lib.SplitLaws
import Derived.Lib.Strings
namespace Go.Proofs.YtflklbhgjfonbaaGreatDoor.Wt

/-- a text cut at each byte d -/
def pcs (d : UInt8) : List UInt8 → List (List UInt8)
  | [] => [[]]
  | c :: t => if c = d then [] :: pcs d t else match pcs d t with
    | g :: r => (c :: g) :: r
    | [] => [[c]]
theorem pcs_ne (d : UInt8) : ∀ l, pcs d l ≠ []
  | [] => by simp [pcs]
  | c :: t => by
    unfold pcs
    split
    · simp
    · cases pcs d t <;> simp
theorem pcs_sep {d c : UInt8} {t : List UInt8} (h : c = d) : pcs d (c :: t) = [] :: pcs d t := by rw [pcs, if_pos h]
theorem pcs_in {d c : UInt8} {t g : List UInt8} {r : List (List UInt8)} (h : c ≠ d) (hg : pcs d t = g :: r) : pcs d (c :: t) = (c :: g) :: r := by rw [pcs, if_neg h, hg]
theorem pcs_none {d : UInt8} : ∀ l : List UInt8, d ∉ l → pcs d l = [l]
  | [], _ => rfl
  | c :: t, h => by
    have hc : c ≠ d := fun e => h (by simp [e])
    exact pcs_in hc (pcs_none t (fun hm => h (by simp [hm])))
theorem index_cons (d c : UInt8) (t : List UInt8) : Lib.index (c :: t) [d] = if c = d then 0 else if Lib.index t [d] == -1 then -1 else Lib.index t [d] + 1 := by
  rw [Lib.index]
  by_cases h : c = d
  · subst h; simp
  · have h' : ¬ d = c := fun e => h e.symm
    simp [h, h']
theorem index_ge0 (d : UInt8) : ∀ l : List UInt8, (d ∈ l → ∃ i : Nat, Lib.index l [d] = i) ∧ (d ∉ l → Lib.index l [d] = -1)
  | [] => ⟨fun h => by simp at h, fun _ => rfl⟩
  | c :: t => by
    obtain ⟨h1, h2⟩ := index_ge0 d t
    rw [index_cons]
    by_cases hc : c = d
    · exact ⟨fun _ => ⟨0, by simp [hc]⟩, fun h => absurd (by simp [hc]) h⟩
    · rw [if_neg hc]
      have hc' : ¬ d = c := fun e => hc e.symm
      refine ⟨fun h => ?_, fun h => ?_⟩
      · obtain ⟨i, hi⟩ := h1 (by simpa [hc'] using h)
        exact ⟨i + 1, by rw [hi, if_neg (by rw [beq_iff_eq]; omega)]; omega⟩
      · rw [h2 (fun hm => h (by simp [hm]))]; rfl
theorem splitK_pcs (d : UInt8) : ∀ l : List UInt8, Lib.splitK [d] 0 (l.count d) l = pcs d l
  | [] => rfl
  | c :: t => by
    have ih := splitK_pcs d t
    by_cases hc : c = d
    · have e : (c :: t).count d = t.count d + 1 := by simp [hc]
      rw [e, Lib.splitK, index_cons, if_pos hc, if_neg (by decide), pcs_sep hc, ← ih]
      rfl
    · have e : (c :: t).count d = t.count d := by simp [hc]
      rw [e]
      by_cases hm : d ∈ t
      · obtain ⟨i, hi⟩ := (index_ge0 d t).1 hm
        obtain ⟨k, hk⟩ : ∃ k, t.count d = k + 1 := ⟨t.count d - 1, by have := List.count_pos_iff.2 hm; omega⟩
        have hne : ¬ (Lib.index t [d] == -1) = true := by rw [hi, beq_iff_eq]; omega
        rw [hk, Lib.splitK, if_neg hne, hi] at ih
        rw [hk, Lib.splitK, index_cons, if_neg hc, if_neg hne, hi]
        rw [if_neg (by rw [beq_iff_eq]; omega)]
        have e2 : ((i : Int) + 1).toNat = i + 1 := by omega
        have e3 : (i : Int).toNat = i := by omega
        rw [e2]
        rw [e3] at ih
        rw [pcs_in hc ih.symm]
        rfl
      · have hz : t.count d = 0 := List.count_eq_zero.2 hm
        rw [hz]
        have : d ∉ c :: t := by simp [hm]; exact fun e => hc e.symm
        rw [pcs_none _ this]
        rfl
theorem split_pcs (d : UInt8) (l : List UInt8) : Lib.splitK [d] 0 (Lib.count l [d]) l = pcs d l := by
  rw [Lib.count_one]; exact splitK_pcs d l
theorem pcs_len (d : UInt8) : ∀ l : List UInt8, (pcs d l).length ≤ l.length + 1
  | [] => by simp [pcs]
  | c :: t => by
    have ih := pcs_len d t
    unfold pcs
    split
    · simp; omega
    · cases h : pcs d t with
      | nil => simp
      | cons g r => rw [h] at ih; simp at ih ⊢; omega

/-- a text's rows: the last one's end may be left out -/
def rowsF : List UInt8 → List (List UInt8)
  | [] => []
  | c :: t => if c = 10 then [] :: rowsF t else match rowsF t with
    | g :: r => (c :: g) :: r
    | [] => [[c]]
theorem rows_end : ∀ t : List UInt8, rowsF (t ++ [10]) = pcs 10 t
  | [] => rfl
  | c :: t => by
    rw [List.cons_append, rowsF, pcs, rows_end t]
theorem rows_open : ∀ t : List UInt8, ∀ x : UInt8, x ≠ 10 → rowsF (t ++ [x]) = pcs 10 (t ++ [x])
  | [], x, h => by simp [rowsF, pcs, h]
  | c :: t, x, h => by
    rw [List.cons_append, rowsF, pcs, rows_open t x h]
theorem rows_prog (s : List UInt8) (h : s ≠ []) : pcs 10 (Lib.trimSuffix s [10]) = rowsF s := by
  rcases List.eq_nil_or_concat s with e | ⟨t, x, rfl⟩
  · exact absurd e h
  · rw [List.concat_eq_append]
    unfold Lib.trimSuffix Lib.hasSuffix
    by_cases hx : x = 10
    · subst hx
      rw [if_pos (by simp), rows_end]
      simp
    · rw [if_neg (by
        intro hs
        have := List.isSuffixOf_iff_suffix.1 hs
        obtain ⟨u, hu⟩ := this
        have := congrArg List.getLast? hu
        simp at this
        exact hx this.symm), rows_open t x hx]
theorem rows_len : ∀ l : List UInt8, (rowsF l).length ≤ l.length
  | [] => by simp [rowsF]
  | c :: t => by
    have ih := rows_len t
    unfold rowsF
    split
    · simp; omega
    · cases h : rowsF t with
      | nil => simp
      | cons g r => rw [h] at ih; simp at ih ⊢; omega
theorem rows_row_len : ∀ l : List UInt8, ∀ r ∈ rowsF l, r.length ≤ l.length
  | [], r, h => by simp [rowsF] at h
  | c :: t, r, h => by
    have ih := rows_row_len t
    unfold rowsF at h
    split at h
    · rcases List.mem_cons.1 h with rfl | h
      · simp
      · have := ih r h; simp; omega
    · cases hh : rowsF t with
      | nil => rw [hh] at h; simp at h; subst h; simp
      | cons g q =>
        rw [hh] at h ih
        rcases List.mem_cons.1 h with rfl | h
        · have := ih g (by simp); simp; omega
        · have := ih r (by simp [h]); simp; omega
/-- the rows behind what has been read of a row -/
def jh (now : List UInt8) : List (List UInt8) → List (List UInt8)
  | [] => if now = [] then [] else [now]
  | g :: r => (now ++ g) :: r
theorem jh_sep (now : List UInt8) (t : List UInt8) : jh now (rowsF (10 :: t)) = now :: jh [] (rowsF t) := by
  rw [rowsF, if_pos rfl]
  cases h : rowsF t <;> simp [jh]
theorem jh_in (now : List UInt8) (c : UInt8) (t : List UInt8) (h : c ≠ 10) : jh now (rowsF (c :: t)) = jh (now ++ [c]) (rowsF t) := by
  rw [rowsF, if_neg h]
  cases hh : rowsF t <;> simp [jh]
theorem jh_nil (l : List (List UInt8)) : jh [] l = l := by cases l <;> simp [jh]
theorem rows_line (l t : List UInt8) (h : (10 : UInt8) ∉ l) : rowsF (l ++ 10 :: t) = l :: rowsF t := by
  have : ∀ (l now : List UInt8), (10 : UInt8) ∉ l → jh now (rowsF (l ++ 10 :: t)) = (now ++ l) :: rowsF t := by
    intro l
    induction l with
    | nil => intro now _; rw [List.nil_append, jh_sep, jh_nil, List.append_nil]
    | cons c l ih =>
      intro now h
      have hc : c ≠ 10 := fun e => h (by simp [e])
      rw [List.cons_append, jh_in _ _ _ hc, ih _ (fun hm => h (by simp [hm]))]
      simp
  have h0 := this l [] h
  rw [jh_nil] at h0
  simpa using h0

/-- a step: sure?, says?, its literal -/
abbrev St := Bool × Bool × Int
/-- a step's words -/
def kw : Bool → Bool → List UInt8
  | true, true => [115, 117, 114, 101]
  | true, false => [110, 111, 116, 32, 115, 117, 114, 101]
  | false, true => [104, 111, 108, 100, 115]
  | false, false => [102, 97, 105, 108, 115]
def notW : List UInt8 := [110, 111, 116, 32]
/-- a literal's text -/
def litF (N : List (List UInt8)) (q : Int) : List UInt8 :=
  if q.natAbs < 1 ∨ N.length < q.natAbs then [63] else if q < 0 then notW ++ N.getD (q.natAbs - 1) [] else N.getD (q.natAbs - 1) []
def lineF (N : List (List UInt8)) (x : St) : List UInt8 := kw x.1 x.2.1 ++ [32] ++ litF N x.2.2
def textF (N : List (List UInt8)) (l : List St) : List UInt8 := l.flatMap fun x => lineF N x ++ [10]

/-- the first place of a text in a list -/
def idxF (N : List (List UInt8)) (s : List UInt8) : Nat := N.findIdx (fun x => x == s)
/-- the words ahead of a row -/
def kindF (r : List UInt8) : Option (Bool × Bool × List UInt8) :=
  if Lib.hasPrefix r (kw true true ++ [32]) then some (true, true, r.drop 5)
  else if Lib.hasPrefix r (kw true false ++ [32]) then some (true, false, r.drop 9)
  else if Lib.hasPrefix r (kw false true ++ [32]) then some (false, true, r.drop 6)
  else if Lib.hasPrefix r (kw false false ++ [32]) then some (false, false, r.drop 6)
  else none
/-- a row's step, or an error's number -/
def rowF (N : List (List UInt8)) (r : List UInt8) : Except Int St :=
  match kindF r with
  | none => .error 1
  | some (a, b, s) =>
    if idxF N (Lib.trimPrefix s notW) < N.length then .ok (a, b, if Lib.hasPrefix s notW then -((idxF N (Lib.trimPrefix s notW) : Int) + 1) else (idxF N (Lib.trimPrefix s notW) : Int) + 1)
    else .error 7
/-- the rows' steps, or the first error with its row's number -/
def readF (N : List (List UInt8)) : List (List UInt8) → Nat → List St → Int × Int × List St
  | [], _, acc => (0, -1, acc)
  | r :: rs, i, acc => match rowF N r with
    | .error e => (e, i, [])
    | .ok x => readF N rs (i + 1) (acc ++ [x])
/-- the steps of a text -/
def stepsF (N : List (List UInt8)) (s : List UInt8) : Int × Int × List St := if 30000 < s.length then (2, 0, []) else readF N (rowsF s) 0 []

/-- a name: what the law takes for one -/
def WordN (x : List UInt8) : Prop := x ≠ [] ∧ x.length ≤ 24 ∧ ∀ c ∈ x, (97 ≤ c ∧ c ≤ 122) ∨ (48 ≤ c ∧ c ≤ 57) ∨ c = 95
structure Names (N : List (List UInt8)) : Prop where
  len : N.length ≤ 40
  word : ∀ x ∈ N, WordN x
  once : ∀ i j (hi : i < N.length) (hj : j < N.length), N[i] = N[j] → i = j
theorem word_no {x : List UInt8} (h : WordN x) : (10 : UInt8) ∉ x ∧ (32 : UInt8) ∉ x := by
  constructor
  · intro hm
    rcases h.2.2 _ hm with h | h | h
    · exact absurd h.1 (by decide)
    · exact absurd h.1 (by decide)
    · exact absurd h (by decide)
  · intro hm
    rcases h.2.2 _ hm with h | h | h
    · exact absurd h.1 (by decide)
    · exact absurd h.1 (by decide)
    · exact absurd h (by decide)
theorem kw_no (a b : Bool) : (10 : UInt8) ∉ kw a b := by cases a <;> cases b <;> decide
theorem getD_get (N : List (List UInt8)) (k : Nat) (h : k < N.length) : N.getD k [] = N[k] := by simp [List.getD, List.getElem?_eq_getElem h]
theorem lit_no {N : List (List UInt8)} (h : Names N) (q : Int) : (10 : UInt8) ∉ litF N q := by
  unfold litF
  split
  · decide
  · rename_i hq
    have hk : q.natAbs - 1 < N.length := by omega
    have hw := (word_no (h.word _ (List.getElem_mem hk))).1
    rw [getD_get N _ hk]
    split
    · intro hm
      rcases List.mem_append.1 hm with hm | hm
      · revert hm; decide
      · exact hw hm
    · exact hw
theorem line_no {N : List (List UInt8)} (h : Names N) (x : St) : (10 : UInt8) ∉ lineF N x := by
  unfold lineF
  intro hm
  rcases List.mem_append.1 hm with hm | hm
  · rcases List.mem_append.1 hm with hm | hm
    · exact kw_no _ _ hm
    · revert hm; decide
  · exact lit_no h _ hm
theorem text_rows {N : List (List UInt8)} (h : Names N) : ∀ l : List St, rowsF (textF N l) = l.map (lineF N)
  | [] => rfl
  | x :: l => by
    show rowsF ((lineF N x ++ [10]) ++ textF N l) = _
    rw [List.append_assoc, List.singleton_append, rows_line _ _ (line_no h x), text_rows h l]
    rfl
theorem kind_line (a b : Bool) (t : List UInt8) : kindF (kw a b ++ [32] ++ t) = some (a, b, t) := by
  cases a <;> cases b <;> simp [kindF, kw, Lib.hasPrefix]
theorem idx_of {N : List (List UInt8)} (h : Names N) {k : Nat} (hk : k < N.length) : idxF N N[k] = k := by
  unfold idxF
  have hl : N.findIdx (fun x => x == N[k]) < N.length := List.findIdx_lt_length_of_exists ⟨N[k], List.getElem_mem hk, by simp⟩
  have := List.findIdx_getElem (w := hl)
  exact h.once _ _ hl hk (by simpa using this)
theorem word_pre {x : List UInt8} (h : WordN x) : Lib.hasPrefix x notW = false := by
  have hn := (word_no h).2
  unfold Lib.hasPrefix notW
  rw [Bool.eq_false_iff]
  intro hp
  obtain ⟨t, ht⟩ := List.isPrefixOf_iff_prefix.1 hp
  exact hn (by rw [← ht]; simp)
theorem row_line {N : List (List UInt8)} (h : Names N) (x : St) (h0 : x.2.2 ≠ 0) (h1 : x.2.2 ≤ N.length) (h2 : -(N.length : Int) ≤ x.2.2) : rowF N (lineF N x) = .ok x := by
  obtain ⟨a, b, q⟩ := x
  simp only at h0 h1 h2
  unfold rowF lineF
  rw [kind_line]
  have hk : q.natAbs - 1 < N.length := by omega
  have hw := h.word _ (List.getElem_mem hk)
  have hp := word_pre hw
  have hi := idx_of h hk
  have hl : litF N q = if q < 0 then notW ++ N[q.natAbs - 1] else N[q.natAbs - 1] := by
    unfold litF
    rw [if_neg (by omega), getD_get N _ hk]
  simp only
  rw [hl]
  by_cases hq : q < 0
  · rw [if_pos hq]
    have e1 : Lib.hasPrefix (notW ++ N[q.natAbs - 1]) notW = true := by simp [Lib.hasPrefix]
    have e2 : Lib.trimPrefix (notW ++ N[q.natAbs - 1]) notW = N[q.natAbs - 1] := by unfold Lib.trimPrefix; rw [if_pos e1]; simp [notW]
    rw [e1, e2, hi, if_pos hk, if_pos rfl]
    congr 3
    omega
  · rw [if_neg hq]
    have e2 : Lib.trimPrefix N[q.natAbs - 1] notW = N[q.natAbs - 1] := by unfold Lib.trimPrefix; rw [hp]; rfl
    rw [hp, e2, hi, if_pos hk, if_neg (by simp)]
    congr 3
    omega
theorem read_lines {N : List (List UInt8)} (h : Names N) : ∀ (l : List St) (i : Nat) (acc : List St), (∀ x ∈ l, x.2.2 ≠ 0 ∧ x.2.2 ≤ N.length ∧ -(N.length : Int) ≤ x.2.2) → readF N (l.map (lineF N)) i acc = (0, -1, acc ++ l)
  | [], i, acc, _ => by simp [readF]
  | x :: l, i, acc, hl => by
    have hx := hl x (by simp)
    rw [List.map_cons, readF, row_line h x hx.1 hx.2.1 hx.2.2]
    show readF N (l.map (lineF N)) (i + 1) (acc ++ [x]) = _
    rw [read_lines h l (i + 1) (acc ++ [x]) (fun y hy => hl y (by simp [hy]))]
    simp
theorem kw_len (a b : Bool) : (kw a b).length ≤ 8 := by cases a <;> cases b <;> decide
theorem line_len {N : List (List UInt8)} (h : Names N) (x : St) : (lineF N x ++ [10]).length ≤ 40 := by
  unfold lineF litF
  have := kw_len x.1 x.2.1
  split
  · simp; omega
  · rename_i hq
    have hk : x.2.2.natAbs - 1 < N.length := by omega
    have hw := (h.word _ (List.getElem_mem hk)).2.1
    rw [getD_get N _ hk]
    split
    · simp [notW]; omega
    · simp; omega
theorem text_len {N : List (List UInt8)} (h : Names N) : ∀ l : List St, (textF N l).length ≤ 40 * l.length
  | [] => by simp [textF]
  | x :: l => by
    have := line_len h x
    have ih := text_len h l
    show ((lineF N x ++ [10]) ++ textF N l).length ≤ _
    rw [List.length_append, List.length_cons]
    omega
/-- PARSE OF PRINT -/
theorem text_back {N : List (List UInt8)} (h : Names N) (l : List St) (hl : l.length ≤ 200) (hq : ∀ x ∈ l, x.2.2 ≠ 0 ∧ x.2.2 ≤ N.length ∧ -(N.length : Int) ≤ x.2.2) : stepsF N (textF N l) = (0, -1, l) := by
  have := text_len h l
  unfold stepsF
  rw [if_neg (by omega), text_rows h, read_lines h l 0 [] hq]
  simp
end Go.Proofs.YtflklbhgjfonbaaGreatDoor.Wt

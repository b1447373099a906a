/- Terms' texts: the plain law. -/
import Derived.Test.YtpbmamcmmogidaaDoorCnP
import Derived.Test.YtpbmamcmmogidaaDoorCnB
namespace Go.Proofs.YtpbmamcmmogidaaDoor.Tm
open Cn

def wd : Nat → List UInt8
  | 0 => [100, 97, 121, 115]
  | 1 => [119, 111, 114, 107, 105, 110, 103, 32, 100, 97, 121, 115]
  | 2 => [119, 101, 101, 107, 115]
  | 3 => [109, 111, 110, 116, 104, 115]
  | 4 => [121, 101, 97, 114, 115]
  | _ => []
def nextW : List UInt8 := [110, 101, 120, 116]
def befW : List UInt8 := [98, 101, 102, 111, 114, 101]
def nextT : List UInt8 := [44, 32, 110, 101, 120, 116]
def befT : List UInt8 := [44, 32, 98, 101, 102, 111, 114, 101]
def hasP (r p : List UInt8) : Bool := p.isPrefixOf r
/-- which unit stands ahead, of the first ones -/
def uF (r : List UInt8) : Nat → Int
  | 0 => -1
  | i + 1 => if hasP r (wd i) then (i : Int) else uF r i
theorem hasP_iff {r p : List UInt8} : hasP r p = true ↔ p <+: r := List.isPrefixOf_iff_prefix
theorem excl {r : List UInt8} {i j : Nat} (hi : i < 5) (hj : j < i) (h : hasP r (wd i) = true) : hasP r (wd j) = false := by
  cases hh : hasP r (wd j) with
  | false => rfl
  | true =>
    rw [hasP_iff] at h hh
    have key : ∀ p q : List UInt8, p <+: r → q <+: r → p.isPrefixOf q = true ∨ q.isPrefixOf p = true := by
      intro p q hp hq
      rcases Nat.le_total p.length q.length with hl | hl
      · exact .inl (List.isPrefixOf_iff_prefix.2 (List.prefix_of_prefix_length_le hp hq hl))
      · exact .inr (List.isPrefixOf_iff_prefix.2 (List.prefix_of_prefix_length_le hq hp hl))
    have k := key _ _ h hh
    have hc : (i = 1 ∨ i = 2 ∨ i = 3 ∨ i = 4) ∧ (j = 0 ∨ j = 1 ∨ j = 2 ∨ j = 3) := by omega
    obtain ⟨hi', hj'⟩ := hc
    rcases hi' with rfl | rfl | rfl | rfl <;> rcases hj' with rfl | rfl | rfl | rfl <;> first | omega | (revert k; decide)
theorem uF_none {r : List UInt8} {i : Nat} (hi : i < 5) (h : hasP r (wd i) = true) : ∀ j, j ≤ i → uF r j = -1
  | 0, _ => rfl
  | j + 1, hj => by
    show (if hasP r (wd j) then (j : Int) else uF r j) = -1
    rw [if_neg (by rw [excl hi (by omega) h]; simp)]
    exact uF_none hi h j (by omega)
theorem uF_bd (r : List UInt8) : ∀ i, -1 ≤ uF r i ∧ uF r i < i
  | 0 => by simp [uF]
  | i + 1 => by
    have := uF_bd r i
    unfold uF
    split <;> omega
theorem uF_has {r : List UInt8} : ∀ {i : Nat}, 0 ≤ uF r i → hasP r (wd (uF r i).toNat) = true
  | 0, h => by simp [uF] at h
  | i + 1, h => by
    unfold uF at h ⊢
    by_cases hh : hasP r (wd i) = true
    · rw [if_pos hh]; simpa using hh
    · rw [if_neg hh] at h ⊢
      exact uF_has h
/-- what stands behind the unit: whether it is well, which roll; or how far behind it is wrong -/
def tailF (t : List UInt8) : Bool × Nat :=
  if t = [] then (true, 0) else if t = nextT then (true, 1) else if t = befT then (true, 2)
  else if t[0]? ≠ some 44 then (false, 0) else if t[1]? ≠ some 32 then (false, 1)
  else if hasP (t.drop 2) nextW then (false, 6) else if hasP (t.drop 2) befW then (false, 8) else (false, 2)
/-- the same, in the document's order -/
def tailR (t : List UInt8) : Bool × Nat :=
  if t = [] then (true, 0) else if t[0]? ≠ some 44 then (false, 0) else if t[1]? ≠ some 32 then (false, 1)
  else if hasP (t.drop 2) nextW then (if 6 < t.length then (false, 6) else (true, 1))
  else if hasP (t.drop 2) befW then (if 8 < t.length then (false, 8) else (true, 2)) else (false, 2)
theorem tail_same (t : List UInt8) : tailR t = tailF t := by
  unfold tailR tailF
  by_cases h0 : t = []
  · rw [if_pos h0, if_pos h0]
  rw [if_neg h0, if_neg h0]
  by_cases h1 : t[0]? ≠ some 44
  · rw [if_pos h1]
    rw [if_neg (fun h => h1 (by rw [h]; rfl)), if_neg (fun h => h1 (by rw [h]; rfl)), if_pos h1]
  by_cases h2 : t[1]? ≠ some 32
  · rw [if_neg h1, if_pos h2]
    rw [if_neg (fun h => h2 (by rw [h]; rfl)), if_neg (fun h => h2 (by rw [h]; rfl)), if_neg h1, if_pos h2]
  rw [if_neg h1, if_neg h2]
  have ht : ∃ r, t = 44 :: 32 :: r := by
    match t, h0, h1, h2 with
    | [], h0, _, _ => exact absurd rfl h0
    | [a], _, _, h2 => simp at h2
    | a :: b :: r, _, h1, h2 =>
      simp at h1 h2
      exact ⟨r, by rw [h1, h2]⟩
  obtain ⟨r, rfl⟩ := ht
  have hd : List.drop 2 (44 :: 32 :: r) = r := rfl
  rw [hd]
  by_cases h3 : hasP r nextW = true
  · rw [if_pos h3]
    obtain ⟨x, rfl⟩ := hasP_iff.1 h3
    cases x with
    | nil => rfl
    | cons c x =>
      have e1 : ¬ (44 :: 32 :: (nextW ++ c :: x) = nextT) := by simp [nextT, nextW]
      have e2 : ¬ (44 :: 32 :: (nextW ++ c :: x) = befT) := by simp [befT, nextW]
      rw [if_pos (by simp [nextW]), if_neg e1, if_neg e2, if_neg h1, if_neg h2, if_pos h3]
  · have e1 : ¬ (44 :: 32 :: r = nextT) := fun h => by
      have : r = nextW := by
        have := congrArg (List.drop 2) h
        exact this
      rw [this] at h3
      exact h3 (by decide)
    rw [if_neg h3]
    by_cases h4 : hasP r befW = true
    · rw [if_pos h4]
      obtain ⟨x, rfl⟩ := hasP_iff.1 h4
      cases x with
      | nil => rfl
      | cons c x =>
        have e2 : ¬ (44 :: 32 :: (befW ++ c :: x) = befT) := by simp [befT, befW]
        rw [if_pos (by simp [befW]), if_neg e1, if_neg e2, if_neg h1, if_neg h2, if_neg h3, if_pos h4]
    · have e2 : ¬ (44 :: 32 :: r = befT) := fun h => by
        have : r = befW := by
          have := congrArg (List.drop 2) h
          exact this
        rw [this] at h4
        exact h4 (by decide)
      rw [if_neg h4, if_neg e1, if_neg e2, if_neg h1, if_neg h2, if_neg h3, if_neg h4]
def sep (j : Nat) : UInt8 := if j = 0 then 44 else 32
theorem tail_at {t : List UInt8} (t0 : t ≠ []) (t1 : t ≠ nextT) (t2 : t ≠ befT) {p : Nat} (hp : p < 2) (h : ∀ j, j < p → t[j]? = some (sep j)) (hn : t[p]? ≠ some (sep p)) : tailF t = (false, p) := by
  unfold tailF
  rw [if_neg t0, if_neg t1, if_neg t2]
  rcases (show p = 0 ∨ p = 1 by omega) with rfl | rfl
  · exact if_pos hn
  · rw [if_neg (by rw [h 0 (by omega)]; simp [sep])]
    exact if_pos hn
theorem tail_word {t : List UInt8} (t0 : t ≠ []) (t1 : t ≠ nextT) (t2 : t ≠ befT) (h : ∀ j, j < 2 → t[j]? = some (sep j)) :
    tailF t = if hasP (t.drop 2) nextW then (false, 6) else if hasP (t.drop 2) befW then (false, 8) else (false, 2) := by
  unfold tailF
  rw [if_neg t0, if_neg t1, if_neg t2, if_neg (by rw [h 0 (by omega)]; simp [sep]), if_neg (by rw [h 1 (by omega)]; simp [sep])]
/-- how many digits stand ahead -/
def kD (s : List UInt8) : Nat := (s.takeWhile isD).length
theorem kD_of {s : List UInt8} {k : Nat} (h : ∀ j (h : j < s.length), j < k → isD s[j] = true) (hk : k ≤ s.length) (hs : ∀ h : k < s.length, isD s[k] = false) : kD s = k := by
  induction s generalizing k with
  | nil => simp at hk; subst hk; rfl
  | cons c t ih =>
    unfold kD
    cases k with
    | zero =>
      have := hs (by simp)
      simp only [List.getElem_cons_zero] at this
      rw [List.takeWhile_cons, this]; rfl
    | succ k =>
      have h0 := h 0 (by simp) (by omega)
      simp only [List.getElem_cons_zero] at h0
      rw [List.takeWhile_cons, h0]
      have := ih (k := k) (fun j hj hjk => h (j + 1) (by simp; omega) (by omega)) (by simpa using hk) (fun hh => hs (by simp; omega))
      unfold kD at this
      simp [this]
theorem take_kD (s : List UInt8) : s.take (kD s) = s.takeWhile isD := by
  have h := List.takeWhile_prefix (p := isD) (l := s)
  exact (List.prefix_iff_eq_take.1 h).symm
theorem digs_kD (s : List UInt8) : ∀ c ∈ s.take (kD s), isD c = true := by
  rw [take_kD]
  intro c hc
  have := List.all_takeWhile (p := isD) (l := s)
  exact List.all_eq_true.1 this c hc
/-- what a text comes to: the error's number, its place; number, unit, roll -/
def termF (s : List UInt8) : Int × Int × Int × Int × Int :=
  if kD s = 0 then (1, 0, 0, 0, 0)
  else if 1 < kD s ∧ s[0]? = some 48 then (1, 1, 0, 0, 0)
  else if s[kD s]? ≠ some 32 then (1, (kD s : Int), 0, 0, 0)
  else if uF (s.drop (kD s + 1)) 5 < 0 then (1, ((kD s + 1 : Nat) : Int), 0, 0, 0)
  else if (tailF (s.drop (kD s + 1 + (wd (uF (s.drop (kD s + 1)) 5).toNat).length))).1 = false then (1, ((kD s + 1 + (wd (uF (s.drop (kD s + 1)) 5).toNat).length + (tailF (s.drop (kD s + 1 + (wd (uF (s.drop (kD s + 1)) 5).toNat).length))).2 : Nat) : Int), 0, 0, 0)
  else if 100000 < valD (s.take (kD s)) then (2, 0, 0, 0, 0)
  else (0, -1, (valD (s.take (kD s)) : Int), uF (s.drop (kD s + 1)) 5, ((tailF (s.drop (kD s + 1 + (wd (uF (s.drop (kD s + 1)) 5).toNat).length))).2 : Int))
section
variable {s : List UInt8} {k : Nat}
theorem term_zero (h : kD s = 0) : termF s = (1, 0, 0, 0, 0) := by unfold termF; rw [if_pos h]
theorem term_lead (h : 1 < kD s ∧ s[0]? = some 48) : termF s = (1, 1, 0, 0, 0) := by unfold termF; rw [if_neg (by omega), if_pos h]
theorem term_space (hk : kD s = k) (h0 : k ≠ 0) (h1 : ¬ (1 < k ∧ s[0]? = some 48)) (h : s[k]? ≠ some 32) : termF s = (1, (k : Int), 0, 0, 0) := by subst hk; unfold termF; rw [if_neg h0, if_neg h1, if_pos h]
theorem term_unit (hk : kD s = k) (h0 : k ≠ 0) (h1 : ¬ (1 < k ∧ s[0]? = some 48)) (h2 : s[k]? = some 32) (h : uF (s.drop (k + 1)) 5 < 0) : termF s = (1, ((k + 1 : Nat) : Int), 0, 0, 0) := by subst hk; unfold termF; rw [if_neg h0, if_neg h1, if_neg (by rw [h2]; simp), if_pos h]
variable {u : Nat} {a : Nat}
theorem term_tail (hk : kD s = k) (h0 : k ≠ 0) (h1 : ¬ (1 < k ∧ s[0]? = some 48)) (h2 : s[k]? = some 32) (hu : uF (s.drop (k + 1)) 5 = (u : Int)) (ha : a = k + 1 + (wd u).length) {x : Nat} (h : tailF (s.drop a) = (false, x)) : termF s = (1, ((a + x : Nat) : Int), 0, 0, 0) := by
  subst hk ha; unfold termF; rw [if_neg h0, if_neg h1, if_neg (by rw [h2]; simp), if_neg (by rw [hu]; omega), hu, Int.toNat_natCast, h, if_pos rfl]
theorem term_bound (hk : kD s = k) (h0 : k ≠ 0) (h1 : ¬ (1 < k ∧ s[0]? = some 48)) (h2 : s[k]? = some 32) (hu : uF (s.drop (k + 1)) 5 = (u : Int)) (ha : a = k + 1 + (wd u).length) {x : Nat} (h : tailF (s.drop a) = (true, x)) (hb : 100000 < valD (s.take k)) : termF s = (2, 0, 0, 0, 0) := by
  subst hk ha; unfold termF; rw [if_neg h0, if_neg h1, if_neg (by rw [h2]; simp), if_neg (by rw [hu]; omega), hu, Int.toNat_natCast, h, if_neg (by simp), if_pos hb]
theorem term_ok (hk : kD s = k) (h0 : k ≠ 0) (h1 : ¬ (1 < k ∧ s[0]? = some 48)) (h2 : s[k]? = some 32) (hu : uF (s.drop (k + 1)) 5 = (u : Int)) (ha : a = k + 1 + (wd u).length) {x : Nat} (h : tailF (s.drop a) = (true, x)) (hb : ¬ 100000 < valD (s.take k)) : termF s = (0, -1, (valD (s.take k) : Int), (u : Int), (x : Int)) := by
  subst hk ha; unfold termF; rw [if_neg h0, if_neg h1, if_neg (by rw [h2]; simp), if_neg (by rw [hu]; omega), hu, Int.toNat_natCast, h, if_neg (by simp), if_neg hb]
end
end Go.Proofs.YtpbmamcmmogidaaDoor.Tm

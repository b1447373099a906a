/- Amounts and their texts in plain lists: what a text comes to; a number's text; groups of digits. -/
import Derived.Test.YtpbmamcmmogidaaDoorRdP
namespace Go.Proofs.YtpbmamcmmogidaaDoor.Cn
open Rd

def isD (c : UInt8) : Bool := decide (48 ≤ c.toNat) && decide (c.toNat ≤ 57)
def isDC (c : UInt8) : Bool := isD c || c == 44
def dv (c : UInt8) : Nat := c.toNat - 48
def addD (n : Nat) (c : UInt8) : Nat := n * 10 + dv c
/-- digits' value -/
def valD (l : List UInt8) : Nat := l.foldl addD 0
/-- what stands between commas -/
def grps : List UInt8 → List (List UInt8)
  | [] => [[]]
  | c :: t => if c = 44 then [] :: grps t else match grps t with
    | [] => [[c]]
    | g :: r => (c :: g) :: r
theorem grps_com {c : UInt8} {t : List UInt8} (h : c = 44) : grps (c :: t) = [] :: grps t := by rw [grps, if_pos h]
theorem grps_dig {c : UInt8} {t g : List UInt8} {r : List (List UInt8)} (h : c ≠ 44) (hg : grps t = g :: r) : grps (c :: t) = (c :: g) :: r := by rw [grps, if_neg h, hg]
theorem grps_ne : ∀ l, grps l ≠ []
  | [] => by simp [grps]
  | c :: t => by
    unfold grps
    split
    · simp
    · split <;> simp
/-- how the program sees that groups are wrong -/
def badP : List (List UInt8) → Bool
  | [] => false
  | [_] => false
  | g :: x :: r => !(decide (g.length ≤ 3) && (x :: r).all fun y => decide (y.length = 3))
/-- the document's state: was there a comma, digits since, wrong -/
abbrev GS := Bool × Nat × Bool
def stepG (s : GS) (c : UInt8) : GS :=
  if c = 44 then (true, 0, if s.1 then s.2.2 || decide (s.2.1 ≠ 3) else decide (3 < s.2.1)) else (s.1, s.2.1 + 1, s.2.2)
def badF (s : GS) : Bool := s.1 && (s.2.2 || decide (s.2.1 ≠ 3))
def badG (has wr : Bool) : Nat → List (List UInt8) → Bool
  | k, [] => has && (wr || decide (k ≠ 3))
  | k, x :: r => badG true (if has then wr || decide (k ≠ 3) else decide (3 < k)) x.length r
def gh : List (List UInt8) → Nat
  | [] => 0
  | g :: _ => g.length
theorem badF_eq : ∀ (l : List UInt8) (has wr : Bool) (g : Nat), badF (l.foldl stepG (has, g, wr)) = badG has wr (g + gh (grps l)) (grps l).tail
  | [], has, wr, g => by by_cases a : g = 3 <;> simp [grps, badF, badG, gh, a]
  | c :: t, has, wr, g => by
    rw [List.foldl_cons]
    have hne := grps_ne t
    by_cases hc : c = 44
    · have e : stepG (has, g, wr) c = (true, 0, if has then wr || decide (g ≠ 3) else decide (3 < g)) := by unfold stepG; rw [if_pos hc]
      rw [e, badF_eq t, grps_com hc]
      cases hg : grps t with
      | nil => exact absurd hg hne
      | cons h r =>
        simp only [gh, List.tail_cons, List.length_nil, Nat.add_zero, Nat.zero_add]
        conv => rhs; unfold badG
    · have e : stepG (has, g, wr) c = (has, g + 1, wr) := by unfold stepG; rw [if_neg hc]
      rw [e, badF_eq t]
      cases hg : grps t with
      | nil => exact absurd hg hne
      | cons h r =>
        rw [grps_dig hc hg]
        simp only [gh, List.length_cons, List.tail_cons]
        rw [show g + 1 + h.length = g + (h.length + 1) by omega]
theorem badG_true (wr : Bool) : ∀ (r : List (List UInt8)) (wr : Bool) (k : Nat), badG true wr k r = (wr || decide (k ≠ 3) || !(r.all fun y => decide (y.length = 3)))
  | [], wr, k => by simp [badG]
  | x :: r, wr', k => by
    unfold badG
    rw [badG_true wr r]
    simp only [List.all_cons]
    by_cases a : x.length = 3 <;> simp [a]
theorem bad_same (l : List UInt8) : badF (l.foldl stepG (false, 0, false)) = badP (grps l) := by
  rw [badF_eq]
  have hne := grps_ne l
  cases hg : grps l with
  | nil => exact absurd hg hne
  | cons h r =>
    cases r with
    | nil => simp [badG, badP, gh]
    | cons x r =>
      simp only [gh, List.tail_cons, Nat.zero_add, badP]
      unfold badG
      rw [badG_true false]
      simp only [List.all_cons]
      by_cases a : x.length = 3 <;> by_cases b : h.length ≤ 3 <;> simp [a, b] <;> omega
theorem grps_join : ∀ l : List UInt8, (grps l).flatten = l.filter fun c => !(c == 44)
  | [] => by simp [grps]
  | c :: t => by
    have hne := grps_ne t
    have ih := grps_join t
    unfold grps
    by_cases hc : c = 44
    · rw [if_pos hc]; simp [hc, ih]
    · rw [if_neg hc]
      cases hg : grps t with
      | nil => exact absurd hg hne
      | cons h r =>
        rw [hg] at ih
        simp [hc, ← ih]

def neg (s : List UInt8) : Bool := s.head? == some 45
def body (s : List UInt8) : List UInt8 := if neg s then s.drop 1 else s
def skip (s : List UInt8) : Nat := if neg s then 1 else 0
def digs (b : List UInt8) : List UInt8 := b.takeWhile isDC
def rest (b : List UInt8) : List UInt8 := b.drop (digs b).length
def startB (b : List UInt8) : Bool := match b with | [] => false | c :: _ => isD c
def digAt (l : List UInt8) (k : Nat) : Bool := match l[k]? with | none => false | some c => isD c
def cents (r : List UInt8) : Nat := if r = [] then 0 else dv (r.getD 1 0) * 10 + dv (r.getD 2 0)
def comma (l : List UInt8) : Nat := l.findIdx (· == 44)
/-- what a text comes to: the error's number, its place, the amount -/
def coinF (s : List UInt8) : Int × Int × Int :=
  let b := body s
  let sk : Int := (skip s : Nat)
  let t := digs b
  let r := rest b
  if startB b = false then (1, sk, 0)
  else if badP (grps t) then (1, sk + (comma t : Nat), 0)
  else if r ≠ [] ∧ r.head? ≠ some 46 then (1, sk + (t.length : Nat), 0)
  else if r ≠ [] ∧ digAt r 1 = false then (1, sk + (t.length : Nat) + 1, 0)
  else if r ≠ [] ∧ digAt r 2 = false then (1, sk + (t.length : Nat) + 2, 0)
  else if 3 < r.length then (1, sk + (t.length : Nat) + 3, 0)
  else if 1000000000000 < valD (t.filter isD) * 100 + cents r then (3, 0, 0)
  else (0, -1, if neg s then -((valD (t.filter isD) * 100 + cents r : Nat) : Int) else ((valD (t.filter isD) * 100 + cents r : Nat) : Int))

/-- a whole part with commas; so many digits stand behind it -/
def emit : List UInt8 → Nat → List UInt8
  | [], _ => []
  | c :: t, j => c :: ((if 0 < j + t.length ∧ (j + t.length) % 3 = 0 then [44] else []) ++ emit t j)
theorem emit_snoc (d : UInt8) : ∀ (l : List UInt8) (j : Nat), emit (l ++ [d]) j = emit l (j + 1) ++ emit [d] j
  | [], j => by simp [emit]
  | c :: t, j => by
    rw [List.cons_append]
    conv => lhs; unfold emit
    rw [emit_snoc d t j]
    conv => rhs; unfold emit
    have e : j + (t ++ [d]).length = j + 1 + t.length := by simp; omega
    rw [e]
    simp [emit, List.append_assoc]
theorem pad_front : ∀ (m u : Nat), pad (m + 1) u = UInt8.ofNat (48 + u / 10 ^ m % 10) :: pad m u
  | 0, u => by simp [pad]
  | m + 1, u => by
    rw [show pad (m + 1 + 1) u = pad (m + 1) (u / 10) ++ [UInt8.ofNat (48 + u % 10)] from rfl, pad_front m (u / 10)]
    rw [Nat.div_div_eq_div_mul, Nat.mul_comm, ← Nat.pow_succ]
    rfl
theorem pad_dec : ∀ (m u : Nat), u < 10 ^ (m + 1) → (m = 0 ∨ 10 ^ m ≤ u) → pad (m + 1) u = Lib.decDigits u
  | 0, u, h, _ => by
    rw [dec_small (by simpa using h)]
    have : u % 10 = u := Nat.mod_eq_of_lt (by simpa using h)
    simp [pad, this]
  | m + 1, u, h, h2 => by
    have h3 : 10 ^ (m + 1) ≤ u := by rcases h2 with h2 | h2; · omega
                                     · exact h2
    have hp : 1 ≤ 10 ^ m := Nat.one_le_pow _ _ (by omega)
    have e : 10 ^ (m + 1) = 10 ^ m * 10 := Nat.pow_succ 10 m
    have e' : 10 ^ (m + 1 + 1) = 10 ^ (m + 1) * 10 := Nat.pow_succ 10 (m + 1)
    rw [dec_big (by omega), ← pad_dec m (u / 10) (by omega) (by right; omega)]
    rfl
theorem pad_len : ∀ (m u : Nat), (pad m u).length = m
  | 0, _ => rfl
  | m + 1, u => by unfold pad; simp [pad_len m]
/-- a number's text -/
def coinT (n : Int) : List UInt8 := (if n < 0 then [45] else []) ++ emit (Lib.decDigits (n.natAbs / 100)) 0 ++ 46 :: pad 2 (n.natAbs % 100)
end Go.Proofs.YtpbmamcmmogidaaDoor.Cn

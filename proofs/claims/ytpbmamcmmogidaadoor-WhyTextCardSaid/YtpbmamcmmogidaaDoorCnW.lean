/- An amount read from a text: the program's coin.Read. -/
import Derived.Test.YtpbmamcmmogidaaDoorCnK
import Derived.Test.YtpbmamcmmogidaaDoorTabs
import Derived.Test.YtpbmamcmmogidaaDoorFlt
import Derived.WalkKit
import Derived.WalkSpells
import Derived.WalkSmall
import Derived.BigRegion
import Derived.BigQuiet
import Derived.Deep.QuietTactic
import Derived.IntWalk
import Derived.Lib.Hide
import Derived.Deep.DeepCutAuto
import Derived.Deep.CutBlock
import Derived.Deep.Cut
namespace Go.Proofs.YtpbmamcmmogidaaDoor.Cn
open Go.RowKit Mem Rd Err Flt

/-- what amounts' functions look up: two errors, the library's error, the library's bound -/
structure CE (w : World) (A : Nat → Addr) (rv : Value) (m : Int) : Prop where
  t : w.cell? ⟨1, 0, none⟩ = some (sentV (A 0))
  c : w.cell? ⟨3, 0, none⟩ = some (sentV (A 2))
  r : w.cell? ⟨13, 0, none⟩ = some rv
  i : ∃ te pe, rv = .iface te pe
  m : w.cell? ⟨15, 0, none⟩ = some (.int .i64 m)
theorem CE.ext {w w' : World} {A : Nat → Addr} {rv : Value} {m : Int} (h : CE w A rv m) (hb : Below w.heap.size w w') : CE w' A rv m :=
  ⟨cell_ext hb h.t, cell_ext hb h.c, cell_ext hb h.r, h.i, cell_ext hb h.m⟩
def InB (a b n : Int) (w : World) (e : Ending) (w' : World) : Prop := ∃ r : Bool, e = .returned (.bool r) ∧ w' = w ∧ (r = true ↔ a ≤ n ∧ n ≤ b)
def FaultPost (A : Nat → Addr) (n : Int) (w : World) (e : Ending) (w' : World) : Prop := ∃ v, e = .returned v ∧ PErr A w' 1 n v ∧ Below w.heap.size w w'
theorem good_any (n : Int) (w : World) : Calls Tryd.prog 147 #[.int .i64 n] w (InB (-1000000000000) 1000000000000 n w) := by
  by_cases h1 : n ≤ 1000000000000
  · by_cases h2 : -1000000000000 ≤ n
    · go_enter Tryd.func147, Tryd.ntmps147
      go_wp2_with fail
      go_ret
      exact ⟨_, rfl, rfl, by simp [h1, h2]⟩
    · go_enter Tryd.func147, Tryd.ntmps147
      go_wp2_with fail
      go_ret
      exact ⟨_, rfl, rfl, by simp; omega⟩
  · go_enter Tryd.func147, Tryd.ntmps147
    go_wp2_with fail
    go_ret
    exact ⟨_, rfl, rfl, by simp; omega⟩
def CRdPost (s : List UInt8) (A : Nat → Addr) (w : World) (e : Ending) (w' : World) : Prop := ∃ v, e = .returned (.tuple #[.int .i64 (coinF s).2.2, v]) ∧ PErr A w' (coinF s).1 (coinF s).2.1 v ∧ Below w.heap.size w w'
theorem crd_of {s : List UInt8} {A : Nat → Addr} {w w' : World} {o : Int × Int × Int} {v : Value} (ho : coinF s = o) (hp : PErr A w' o.1 o.2.1 v) (hb : Below w.heap.size w w') : CRdPost s A w (.returned (.tuple #[.int .i64 o.2.2, v])) w' :=
  ⟨v, by rw [ho], by rw [ho]; exact hp, hb⟩
theorem prefix_neg (s : List UInt8) : Lib.hasPrefix s [45] = neg s := by
  cases s with
  | nil => rfl
  | cons c t =>
    show (45 == c && true) = (some c == some 45)
    by_cases h : c = 45
    · simp [h]
    · have h' : ¬ 45 = c := fun e => h e.symm
      have e1 : (45 == c) = false := by simp [h']
      have e2 : (c == 45) = false := by simp [h]
      simp [e1, e2]
theorem trim_body (s : List UInt8) : Lib.trimPrefix s [45] = body s := by
  unfold Lib.trimPrefix body
  rw [prefix_neg]
  rfl
theorem skip_len (s : List UInt8) : (s.length : Int) - ((body s).length : Int) = (skip s : Nat) ∧ skip s ≤ 1 ∧ (body s).length ≤ s.length := by
  unfold body skip neg
  cases s with
  | nil => simp
  | cons c t =>
    by_cases h : c = 45
    · simp [h]; omega
    · simp [h]
theorem coin_start {s : List UInt8} (h : startB (body s) = false) : coinF s = (1, ((skip s : Nat) : Int), 0) := by
  unfold coinF; simp only []; rw [if_pos h]
theorem start_no {b : List UInt8} (h : 0 < b.length) (hc : ¬ (48 ≤ (b[0].toNat : Int) ∧ (b[0].toNat : Int) ≤ 57)) : startB b = false := by
  cases b with
  | nil => simp at h
  | cons c t => simp only [startB, isD]; simp at hc ⊢; omega
theorem dc_yes {c : UInt8} (h : (48 ≤ (c.toNat : Int) ∧ (c.toNat : Int) ≤ 57) ∨ (c.toNat : Int) = 44) : isDC c = true := by
  unfold isDC isD
  rcases h with h | h
  · simp; omega
  · have : c = 44 := UInt8.toNat.inj (by simp; omega)
    subst this; decide
theorem dc_no {c : UInt8} (h : ¬ (48 ≤ (c.toNat : Int) ∧ (c.toNat : Int) ≤ 57) ∧ ¬ (c.toNat : Int) = 44) : isDC c = false := by
  unfold isDC isD
  have : c ≠ 44 := by rintro rfl; exact h.2 rfl
  simp [this]; omega
theorem grps_len : ∀ t : List UInt8, 1 ≤ (grps t).length ∧ (grps t).length ≤ t.length + 1
  | [] => by simp [grps]
  | c :: t => by
    obtain ⟨h1, h2⟩ := grps_len t
    by_cases h : c = 44
    · rw [grps_com h]; simp; omega
    · cases hg : grps t with
      | nil => rw [hg] at h1; simp at h1
      | cons g r => rw [grps_dig h hg, List.length_cons, List.length_cons]; rw [hg, List.length_cons] at h2; omega
theorem badP_one {g : List (List UInt8)} (h : g.length ≤ 1) : badP g = false := by
  match g, h with
  | [], _ => rfl
  | [_], _ => rfl
/-- whether the groups are right, so far -/
def OkG (G : List (List UInt8)) (g0 : List UInt8) (j : Nat) (ok : Bool) : Prop := ok = (decide (g0.length ≤ 3) && ((G.drop 1).take j).all fun y => decide (y.length = 3))
theorem okg_zero (G : List (List UInt8)) (g0 : List UInt8) : OkG G g0 0 (decide ((g0.length : Int) ≤ 3)) := by
  unfold OkG
  simp
  omega
theorem take_next {G : List (List UInt8)} {j : Nat} {g : List UInt8} (h : G[j + 1]? = some g) : (G.drop 1).take (j + 1) = (G.drop 1).take j ++ [g] := by
  have hj : j + 1 < G.length := (List.getElem?_eq_some_iff.1 h).1
  rw [List.take_add_one, List.getElem?_drop, Nat.add_comm 1 j, h]
  rfl
theorem okg_false {G : List (List UInt8)} {g0 g : List UInt8} {j : Nat} (h : OkG G g0 j false) (hg : G[j + 1]? = some g) : OkG G g0 (j + 1) false := by
  unfold OkG at h ⊢
  rw [take_next hg, List.all_append, ← Bool.and_assoc, ← h]
  rfl
theorem okg_true {G : List (List UInt8)} {g0 g : List UInt8} {j : Nat} (h : OkG G g0 j true) (hg : G[j + 1]? = some g) (h3 : g.length = 3) : OkG G g0 (j + 1) true := by
  unfold OkG at h ⊢
  rw [take_next hg, List.all_append, ← Bool.and_assoc, ← h]
  simp [h3]
theorem okg_bad {G : List (List UInt8)} {g0 g : List UInt8} {j : Nat} (hg : G[j + 1]? = some g) (h3 : ¬ g.length = 3) : OkG G g0 (j + 1) false := by
  unfold OkG
  rw [take_next hg, List.all_append]
  simp [h3]
theorem okg_end {G : List (List UInt8)} {g0 : List UInt8} {j : Nat} {ok : Bool} (h : OkG G g0 j ok) (hj : j < G.length) (hlt : ¬ j + 1 < G.length) (hg : G[0]? = some g0) (hm : 1 < G.length) : badP G = !ok := by
  unfold OkG at h
  match G, hg with
  | [g], hg => simp at hm
  | g :: x :: r, hg =>
    simp at hg
    subst hg
    rw [h]
    have : ((g :: x :: r).drop 1).take j = x :: r := List.take_of_length_le (by simp at hlt ⊢; omega)
    rw [this]
    rfl
theorem comma_le (t : List UInt8) : comma t ≤ t.length := List.findIdx_le_length
theorem coin_comma {s t : List UInt8} (h : startB (body s) = true) (hd : digs (body s) = t) (hb : badP (grps t) = true) : coinF s = (1, ((skip s : Nat) : Int) + ((comma t : Nat) : Int), 0) := by
  unfold coinF; simp only []; rw [if_neg (by rw [h]; simp), hd, if_pos hb]
/-- the two digits behind the whole part -/
def PartOk (r p : List UInt8) : Prop := (r = [] ∧ p = [48, 48]) ∨ (∃ d1 d2, r = [46, d1, d2] ∧ isD d1 = true ∧ isD d2 = true ∧ p = [d1, d2])
theorem at_rest {b t r : List UInt8} {k : Nat} (h : b = t ++ r) (ht : t.length = k) (q : Nat) (hq : k + q < b.length) : r[q]? = some b[k + q] := by
  have : b[k + q]? = some b[k + q] := List.getElem?_eq_getElem hq
  rw [← this]
  conv => rhs; rw [h]
  rw [List.getElem?_append_right (by omega)]
  congr 1; omega
theorem coin_dot {s t r : List UInt8} (h : startB (body s) = true) (hd : digs (body s) = t) (hr : rest (body s) = r) (hb : badP (grps t) = false) (h1 : r ≠ []) (h2 : r.head? ≠ some 46) : coinF s = (1, ((skip s : Nat) : Int) + ((t.length : Nat) : Int), 0) := by
  unfold coinF; simp only []; rw [if_neg (by rw [h]; simp), hd, hr, if_neg (by rw [hb]; simp), if_pos ⟨h1, h2⟩]
theorem isD_no {c : UInt8} (h : ¬ (48 ≤ (c.toNat : Int) ∧ (c.toNat : Int) ≤ 57)) : isD c = false := by
  unfold isD; simp; omega
theorem isD_yes {c : UInt8} (h : 48 ≤ (c.toNat : Int) ∧ (c.toNat : Int) ≤ 57) : isD c = true := by
  unfold isD; simp; omega
theorem dig_rest {b t r : List UInt8} {k i : Nat} (h : b = t ++ r) (ht : t.length = k) (hk : k ≤ i) (hi : i < b.length) : digAt r (i - k) = isD b[i] := by
  have := at_rest h ht (i - k) (by omega)
  unfold digAt
  rw [this]
  simp only [show k + (i - k) = i by omega]
theorem dig_none {r : List UInt8} {q : Nat} (h : r.length ≤ q) : digAt r q = false := by
  unfold digAt; rw [List.getElem?_eq_none h]
theorem dig_len {r : List UInt8} {q : Nat} (h : digAt r q = true) : q < r.length := by
  rcases Nat.lt_or_ge q r.length with c | c
  · exact c
  · rw [dig_none c] at h; cases h
theorem coin_part {s t r : List UInt8} {k i : Nat} (hk : t.length = k) (h : startB (body s) = true) (hd : digs (body s) = t) (hr : rest (body s) = r) (hb : badP (grps t) = false) (h2 : r.head? = some 46)
    (h3 : k + 1 ≤ i) (h4 : i < k + 3) (h5 : ∀ q, 1 ≤ q → q < i - k → digAt r q = true) (h6 : digAt r (i - k) = false) : coinF s = (1, ((skip s : Nat) : Int) + (i : Int), 0) := by
  have h1 : r ≠ [] := by rintro rfl; simp at h2
  unfold coinF; simp only []; rw [if_neg (by rw [h]; simp), hd, hr, if_neg (by rw [hb]; simp), if_neg (fun x => x.2 h2)]
  rcases (show i = k + 1 ∨ i = k + 2 by omega) with rfl | rfl
  · have e : k + 1 - k = 1 := by omega
    rw [e] at h6
    rw [if_pos ⟨h1, h6⟩, hk]
    rw [show ((k + 1 : Nat) : Int) = (k : Int) + 1 by omega, ← Int.add_assoc]
  · have e : k + 2 - k = 2 := by omega
    rw [e] at h5 h6
    have := h5 1 (by omega) (by omega)
    rw [if_neg (fun x => by rw [this] at x; exact absurd x.2 (by simp)), if_pos ⟨h1, h6⟩, hk]
    rw [show ((k + 2 : Nat) : Int) = (k : Int) + 2 by omega, ← Int.add_assoc]
theorem coin_more {s t r : List UInt8} (h : startB (body s) = true) (hd : digs (body s) = t) (hr : rest (body s) = r) (hb : badP (grps t) = false) (h2 : r.head? = some 46)
    (h3 : digAt r 1 = true) (h4 : digAt r 2 = true) (h5 : 3 < r.length) : coinF s = (1, ((skip s : Nat) : Int) + ((t.length : Nat) : Int) + 3, 0) := by
  unfold coinF; simp only []; rw [if_neg (by rw [h]; simp), hd, hr, if_neg (by rw [hb]; simp), if_neg (fun x => x.2 h2), if_neg (fun x => by rw [h3] at x; exact absurd x.2 (by simp)), if_neg (fun x => by rw [h4] at x; exact absurd x.2 (by simp)), if_pos h5]
theorem part_of {r : List UInt8} (h : r.head? = some 46) (h1 : digAt r 1 = true) (h2 : digAt r 2 = true) (h3 : r.length ≤ 3) : ∃ d1 d2, r = [46, d1, d2] ∧ isD d1 = true ∧ isD d2 = true := by
  match r, h3 with
  | [], _ => simp at h
  | [_], _ => simp [digAt] at h1
  | [_, _], _ => simp [digAt] at h2
  | [a, b, c], _ =>
    simp at h
    subst h
    exact ⟨b, c, rfl, h1, h2⟩
theorem part_cut {t r : List UInt8} {k : Nat} {d1 d2 : UInt8} (ht : t.length = k) (hr : r = [46, d1, d2]) : ((t ++ r).drop (k + 1)).take (k + 3 - (k + 1)) = [d1, d2] := by
  subst hr ht
  rw [List.drop_append, List.drop_of_length_le (by omega)]
  simp
theorem PartOk.digit {r p : List UInt8} (h : PartOk r p) : ∀ x ∈ p, isD x = true := by
  rcases h with ⟨_, rfl⟩ | ⟨d1, d2, _, h1, h2, rfl⟩
  · decide
  · intro x hx
    simp at hx
    rcases hx with rfl | rfl
    · exact h1
    · exact h2
theorem val_part {l r p : List UInt8} (h : PartOk r p) : valD (l ++ p) = valD l * 100 + cents r := by
  have e : ∀ a b, valD (l ++ [a, b]) = valD l * 100 + (dv a * 10 + dv b) := fun a b => by
    rw [show l ++ [a, b] = (l ++ [a]) ++ [b] by simp, valD_snoc, valD_snoc]; omega
  rcases h with ⟨rfl, rfl⟩ | ⟨d1, d2, rfl, h1, h2, rfl⟩
  · rw [e]; rfl
  · rw [e]; rfl
theorem coin_end {s t r p : List UInt8} (h : startB (body s) = true) (hd : digs (body s) = t) (hr : rest (body s) = r) (hb : badP (grps t) = false) (hp : PartOk r p) :
    coinF s = if 1000000000000 < valD (t.filter isD) * 100 + cents r then (3, 0, 0) else (0, -1, if neg s then -((valD (t.filter isD) * 100 + cents r : Nat) : Int) else ((valD (t.filter isD) * 100 + cents r : Nat) : Int)) := by
  unfold coinF; simp only []; rw [if_neg (by rw [h]; simp), hd, hr, if_neg (by rw [hb]; simp)]
  rcases hp with ⟨rfl, _⟩ | ⟨d1, d2, rfl, h1, h2, _⟩
  · rw [if_neg (fun x => x.1 rfl), if_neg (fun x => x.1 rfl), if_neg (fun x => x.1 rfl), if_neg (by simp)]
  · rw [if_neg (fun x => x.2 rfl), if_neg (fun x => by have := x.2; rw [show digAt [46, d1, d2] 1 = isD d1 from rfl, h1] at this; cases this), if_neg (fun x => by have := x.2; rw [show digAt [46, d1, d2] 2 = isD d2 from rfl, h2] at this; cases this), if_neg (by simp)]
theorem out_n {V : Nat} {n : Int} (ng : Bool) (h : n = V) : ((0, -1, if ng then -((V : Nat) : Int) else ((V : Nat) : Int)) : Int × Int × Int) = (0, -1, if ng then -n else n) := by rw [h]
theorem start_yes {b : List UInt8} (h : 0 < b.length) (hc : 48 ≤ (b[0].toNat : Int) ∧ (b[0].toNat : Int) ≤ 57) : startB b = true := by
  cases b with
  | nil => simp at h
  | cons c t => simp only [startB, isD]; simp at hc ⊢; omega
end Go.Proofs.YtpbmamcmmogidaaDoor.Cn

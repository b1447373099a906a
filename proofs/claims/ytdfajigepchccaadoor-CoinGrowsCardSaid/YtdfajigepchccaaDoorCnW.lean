/- An amount read from a text: the program's coin.Read. -/
import Derived.Test.YtdfajigepchccaaDoorCnK
import Derived.Test.YtdfajigepchccaaDoorTabs
import Derived.Test.YtdfajigepchccaaDoorFlt
import Derived.WalkKit
import Derived.WalkSpells
import Derived.WalkSmall
import Derived.BigRegion
import Derived.BigQuiet
import Derived.Deep.QuietTactic
import Derived.IntWalk
import Derived.Lib.Hide
import Derived.Deep.DeepCutAuto
import Derived.Deep.CutBlock
import Derived.Deep.Cut
namespace Go.Proofs.YtdfajigepchccaaDoor.Cn
open Go.RowKit Mem Rd Err Flt

/-- what amounts' functions look up: two errors, the library's error, the library's bound -/
structure CE (w : World) (A : Nat → Addr) (rv : Value) (m : Int) : Prop where
  t : w.cell? ⟨1, 0, none⟩ = some (sentV (A 0))
  c : w.cell? ⟨3, 0, none⟩ = some (sentV (A 2))
  r : w.cell? ⟨15, 0, none⟩ = some rv
  i : ∃ te pe, rv = .iface te pe
  m : w.cell? ⟨17, 0, none⟩ = some (.int .i64 m)
theorem CE.ext {w w' : World} {A : Nat → Addr} {rv : Value} {m : Int} (h : CE w A rv m) (hb : Below w.heap.size w w') : CE w' A rv m :=
  ⟨cell_ext hb h.t, cell_ext hb h.c, cell_ext hb h.r, h.i, cell_ext hb h.m⟩
def InB (a b n : Int) (w : World) (e : Ending) (w' : World) : Prop := ∃ r : Bool, e = .returned (.bool r) ∧ w' = w ∧ (r = true ↔ a ≤ n ∧ n ≤ b)
theorem digit_any (n : Int) (w : World) : Calls Tryd.prog 63 #[.int .u8 n] w (InB 48 57 n w) := by
  by_cases h1 : 48 ≤ n
  · by_cases h2 : n ≤ 57
    · go_enter Tryd.func63, Tryd.ntmps63
      go_wp2_with fail
      go_ret
      exact ⟨_, rfl, rfl, by simp [h1, h2]⟩
    · go_enter Tryd.func63, Tryd.ntmps63
      go_wp2_with fail
      go_ret
      exact ⟨_, rfl, rfl, by simp; omega⟩
  · go_enter Tryd.func63, Tryd.ntmps63
    go_wp2_with fail
    go_ret
    exact ⟨_, rfl, rfl, by simp; omega⟩
def FaultPost (A : Nat → Addr) (n : Int) (w : World) (e : Ending) (w' : World) : Prop := ∃ v, e = .returned v ∧ PErr A w' 1 n v ∧ Below w.heap.size w w'
theorem fault_any (n : Int) (A : Nat → Addr) (rv : Value) (m : Int) (w : World) (h : CE w A rv m) :
    Calls Tryd.prog 64 #[.int .i64 n] w (FaultPost A n w) := by
  have ht := h.t
  unfold sentV at ht
  clear h
  go_enter Tryd.func64, Tryd.ntmps64
  go_wp2_with fail
  go_ret
  have hN := Nest.Blk.new w 85 [.int .i64 n, sentV (A 0)]
  exact ⟨faultV w.heap.size, rfl, .inr ⟨0, by omega, rfl, _, rfl, hN.cell 0 rfl, hN.cell 1 rfl⟩, ext_alloc w _⟩
theorem good_any (n : Int) (w : World) : Calls Tryd.prog 69 #[.int .i64 n] w (InB (-1000000000000) 1000000000000 n w) := by
  by_cases h1 : n ≤ 1000000000000
  · by_cases h2 : -1000000000000 ≤ n
    · go_enter Tryd.func69, Tryd.ntmps69
      go_wp2_with fail
      go_ret
      exact ⟨_, rfl, rfl, by simp [h1, h2]⟩
    · go_enter Tryd.func69, Tryd.ntmps69
      go_wp2_with fail
      go_ret
      exact ⟨_, rfl, rfl, by simp; omega⟩
  · go_enter Tryd.func69, Tryd.ntmps69
    go_wp2_with fail
    go_ret
    exact ⟨_, rfl, rfl, by simp; omega⟩
def CRdPost (s : List UInt8) (A : Nat → Addr) (w : World) (e : Ending) (w' : World) : Prop := ∃ v, e = .returned (.tuple #[.int .i64 (coinF s).2.2, v]) ∧ PErr A w' (coinF s).1 (coinF s).2.1 v ∧ Below w.heap.size w w'
theorem crd_of {s : List UInt8} {A : Nat → Addr} {w w' : World} {o : Int × Int × Int} {v : Value} (ho : coinF s = o) (hp : PErr A w' o.1 o.2.1 v) (hb : Below w.heap.size w w') : CRdPost s A w (.returned (.tuple #[.int .i64 o.2.2, v])) w' :=
  ⟨v, by rw [ho], by rw [ho]; exact hp, hb⟩
theorem prefix_neg (s : List UInt8) : Lib.hasPrefix s [45] = neg s := by
  cases s with
  | nil => rfl
  | cons c t =>
    show (45 == c && true) = (some c == some 45)
    by_cases h : c = 45
    · simp [h]
    · have h' : ¬ 45 = c := fun e => h e.symm
      have e1 : (45 == c) = false := by simp [h']
      have e2 : (c == 45) = false := by simp [h]
      simp [e1, e2]
theorem trim_body (s : List UInt8) : Lib.trimPrefix s [45] = body s := by
  unfold Lib.trimPrefix body
  rw [prefix_neg]
  rfl
theorem skip_len (s : List UInt8) : (s.length : Int) - ((body s).length : Int) = (skip s : Nat) ∧ skip s ≤ 1 ∧ (body s).length ≤ s.length := by
  unfold body skip neg
  cases s with
  | nil => simp
  | cons c t =>
    by_cases h : c = 45
    · simp [h]; omega
    · simp [h]
theorem coin_start {s : List UInt8} (h : startB (body s) = false) : coinF s = (1, ((skip s : Nat) : Int), 0) := by
  unfold coinF; simp only []; rw [if_pos h]
theorem start_no {b : List UInt8} (h : 0 < b.length) (hc : ¬ (48 ≤ (b[0].toNat : Int) ∧ (b[0].toNat : Int) ≤ 57)) : startB b = false := by
  cases b with
  | nil => simp at h
  | cons c t => simp only [startB, isD]; simp at hc ⊢; omega
theorem dc_yes {c : UInt8} (h : (48 ≤ (c.toNat : Int) ∧ (c.toNat : Int) ≤ 57) ∨ (c.toNat : Int) = 44) : isDC c = true := by
  unfold isDC isD
  rcases h with h | h
  · simp; omega
  · have : c = 44 := UInt8.toNat.inj (by simp; omega)
    subst this; decide
theorem dc_no {c : UInt8} (h : ¬ (48 ≤ (c.toNat : Int) ∧ (c.toNat : Int) ≤ 57) ∧ ¬ (c.toNat : Int) = 44) : isDC c = false := by
  unfold isDC isD
  have : c ≠ 44 := by rintro rfl; exact h.2 rfl
  simp [this]; omega
theorem grps_len : ∀ t : List UInt8, 1 ≤ (grps t).length ∧ (grps t).length ≤ t.length + 1
  | [] => by simp [grps]
  | c :: t => by
    obtain ⟨h1, h2⟩ := grps_len t
    by_cases h : c = 44
    · rw [grps_com h]; simp; omega
    · cases hg : grps t with
      | nil => rw [hg] at h1; simp at h1
      | cons g r => rw [grps_dig h hg, List.length_cons, List.length_cons]; rw [hg, List.length_cons] at h2; omega
theorem badP_one {g : List (List UInt8)} (h : g.length ≤ 1) : badP g = false := by
  match g, h with
  | [], _ => rfl
  | [_], _ => rfl
/-- whether the groups are right, so far -/
def OkG (G : List (List UInt8)) (g0 : List UInt8) (j : Nat) (ok : Bool) : Prop := ok = (decide (g0.length ≤ 3) && ((G.drop 1).take j).all fun y => decide (y.length = 3))
theorem okg_zero (G : List (List UInt8)) (g0 : List UInt8) : OkG G g0 0 (decide ((g0.length : Int) ≤ 3)) := by
  unfold OkG
  simp
  omega
theorem take_next {G : List (List UInt8)} {j : Nat} {g : List UInt8} (h : G[j + 1]? = some g) : (G.drop 1).take (j + 1) = (G.drop 1).take j ++ [g] := by
  have hj : j + 1 < G.length := (List.getElem?_eq_some_iff.1 h).1
  rw [List.take_add_one, List.getElem?_drop, Nat.add_comm 1 j, h]
  rfl
theorem okg_false {G : List (List UInt8)} {g0 g : List UInt8} {j : Nat} (h : OkG G g0 j false) (hg : G[j + 1]? = some g) : OkG G g0 (j + 1) false := by
  unfold OkG at h ⊢
  rw [take_next hg, List.all_append, ← Bool.and_assoc, ← h]
  rfl
theorem okg_true {G : List (List UInt8)} {g0 g : List UInt8} {j : Nat} (h : OkG G g0 j true) (hg : G[j + 1]? = some g) (h3 : g.length = 3) : OkG G g0 (j + 1) true := by
  unfold OkG at h ⊢
  rw [take_next hg, List.all_append, ← Bool.and_assoc, ← h]
  simp [h3]
theorem okg_bad {G : List (List UInt8)} {g0 g : List UInt8} {j : Nat} (hg : G[j + 1]? = some g) (h3 : ¬ g.length = 3) : OkG G g0 (j + 1) false := by
  unfold OkG
  rw [take_next hg, List.all_append]
  simp [h3]
theorem okg_end {G : List (List UInt8)} {g0 : List UInt8} {j : Nat} {ok : Bool} (h : OkG G g0 j ok) (hj : j < G.length) (hlt : ¬ j + 1 < G.length) (hg : G[0]? = some g0) (hm : 1 < G.length) : badP G = !ok := by
  unfold OkG at h
  match G, hg with
  | [g], hg => simp at hm
  | g :: x :: r, hg =>
    simp at hg
    subst hg
    rw [h]
    have : ((g :: x :: r).drop 1).take j = x :: r := List.take_of_length_le (by simp at hlt ⊢; omega)
    rw [this]
    rfl
theorem comma_le (t : List UInt8) : comma t ≤ t.length := List.findIdx_le_length
theorem coin_comma {s t : List UInt8} (h : startB (body s) = true) (hd : digs (body s) = t) (hb : badP (grps t) = true) : coinF s = (1, ((skip s : Nat) : Int) + ((comma t : Nat) : Int), 0) := by
  unfold coinF; simp only []; rw [if_neg (by rw [h]; simp), hd, if_pos hb]
/-- the two digits behind the whole part -/
def PartOk (r p : List UInt8) : Prop := (r = [] ∧ p = [48, 48]) ∨ (∃ d1 d2, r = [46, d1, d2] ∧ isD d1 = true ∧ isD d2 = true ∧ p = [d1, d2])
theorem at_rest {b t r : List UInt8} {k : Nat} (h : b = t ++ r) (ht : t.length = k) (q : Nat) (hq : k + q < b.length) : r[q]? = some b[k + q] := by
  have : b[k + q]? = some b[k + q] := List.getElem?_eq_getElem hq
  rw [← this]
  conv => rhs; rw [h]
  rw [List.getElem?_append_right (by omega)]
  congr 1; omega
theorem coin_dot {s t r : List UInt8} (h : startB (body s) = true) (hd : digs (body s) = t) (hr : rest (body s) = r) (hb : badP (grps t) = false) (h1 : r ≠ []) (h2 : r.head? ≠ some 46) : coinF s = (1, ((skip s : Nat) : Int) + ((t.length : Nat) : Int), 0) := by
  unfold coinF; simp only []; rw [if_neg (by rw [h]; simp), hd, hr, if_neg (by rw [hb]; simp), if_pos ⟨h1, h2⟩]
theorem isD_no {c : UInt8} (h : ¬ (48 ≤ (c.toNat : Int) ∧ (c.toNat : Int) ≤ 57)) : isD c = false := by
  unfold isD; simp; omega
theorem isD_yes {c : UInt8} (h : 48 ≤ (c.toNat : Int) ∧ (c.toNat : Int) ≤ 57) : isD c = true := by
  unfold isD; simp; omega
theorem dig_rest {b t r : List UInt8} {k i : Nat} (h : b = t ++ r) (ht : t.length = k) (hk : k ≤ i) (hi : i < b.length) : digAt r (i - k) = isD b[i] := by
  have := at_rest h ht (i - k) (by omega)
  unfold digAt
  rw [this]
  simp only [show k + (i - k) = i by omega]
theorem dig_none {r : List UInt8} {q : Nat} (h : r.length ≤ q) : digAt r q = false := by
  unfold digAt; rw [List.getElem?_eq_none h]
theorem dig_len {r : List UInt8} {q : Nat} (h : digAt r q = true) : q < r.length := by
  rcases Nat.lt_or_ge q r.length with c | c
  · exact c
  · rw [dig_none c] at h; cases h
theorem coin_part {s t r : List UInt8} {k i : Nat} (hk : t.length = k) (h : startB (body s) = true) (hd : digs (body s) = t) (hr : rest (body s) = r) (hb : badP (grps t) = false) (h2 : r.head? = some 46)
    (h3 : k + 1 ≤ i) (h4 : i < k + 3) (h5 : ∀ q, 1 ≤ q → q < i - k → digAt r q = true) (h6 : digAt r (i - k) = false) : coinF s = (1, ((skip s : Nat) : Int) + (i : Int), 0) := by
  have h1 : r ≠ [] := by rintro rfl; simp at h2
  unfold coinF; simp only []; rw [if_neg (by rw [h]; simp), hd, hr, if_neg (by rw [hb]; simp), if_neg (fun x => x.2 h2)]
  rcases (show i = k + 1 ∨ i = k + 2 by omega) with rfl | rfl
  · have e : k + 1 - k = 1 := by omega
    rw [e] at h6
    rw [if_pos ⟨h1, h6⟩, hk]
    rw [show ((k + 1 : Nat) : Int) = (k : Int) + 1 by omega, ← Int.add_assoc]
  · have e : k + 2 - k = 2 := by omega
    rw [e] at h5 h6
    have := h5 1 (by omega) (by omega)
    rw [if_neg (fun x => by rw [this] at x; exact absurd x.2 (by simp)), if_pos ⟨h1, h6⟩, hk]
    rw [show ((k + 2 : Nat) : Int) = (k : Int) + 2 by omega, ← Int.add_assoc]
theorem coin_more {s t r : List UInt8} (h : startB (body s) = true) (hd : digs (body s) = t) (hr : rest (body s) = r) (hb : badP (grps t) = false) (h2 : r.head? = some 46)
    (h3 : digAt r 1 = true) (h4 : digAt r 2 = true) (h5 : 3 < r.length) : coinF s = (1, ((skip s : Nat) : Int) + ((t.length : Nat) : Int) + 3, 0) := by
  unfold coinF; simp only []; rw [if_neg (by rw [h]; simp), hd, hr, if_neg (by rw [hb]; simp), if_neg (fun x => x.2 h2), if_neg (fun x => by rw [h3] at x; exact absurd x.2 (by simp)), if_neg (fun x => by rw [h4] at x; exact absurd x.2 (by simp)), if_pos h5]
theorem part_of {r : List UInt8} (h : r.head? = some 46) (h1 : digAt r 1 = true) (h2 : digAt r 2 = true) (h3 : r.length ≤ 3) : ∃ d1 d2, r = [46, d1, d2] ∧ isD d1 = true ∧ isD d2 = true := by
  match r, h3 with
  | [], _ => simp at h
  | [_], _ => simp [digAt] at h1
  | [_, _], _ => simp [digAt] at h2
  | [a, b, c], _ =>
    simp at h
    subst h
    exact ⟨b, c, rfl, h1, h2⟩
theorem part_cut {t r : List UInt8} {k : Nat} {d1 d2 : UInt8} (ht : t.length = k) (hr : r = [46, d1, d2]) : ((t ++ r).drop (k + 1)).take (k + 3 - (k + 1)) = [d1, d2] := by
  subst hr ht
  rw [List.drop_append, List.drop_of_length_le (by omega)]
  simp
theorem PartOk.digit {r p : List UInt8} (h : PartOk r p) : ∀ x ∈ p, isD x = true := by
  rcases h with ⟨_, rfl⟩ | ⟨d1, d2, _, h1, h2, rfl⟩
  · decide
  · intro x hx
    simp at hx
    rcases hx with rfl | rfl
    · exact h1
    · exact h2
theorem val_part {l r p : List UInt8} (h : PartOk r p) : valD (l ++ p) = valD l * 100 + cents r := by
  have e : ∀ a b, valD (l ++ [a, b]) = valD l * 100 + (dv a * 10 + dv b) := fun a b => by
    rw [show l ++ [a, b] = (l ++ [a]) ++ [b] by simp, valD_snoc, valD_snoc]; omega
  rcases h with ⟨rfl, rfl⟩ | ⟨d1, d2, rfl, h1, h2, rfl⟩
  · rw [e]; rfl
  · rw [e]; rfl
theorem coin_end {s t r p : List UInt8} (h : startB (body s) = true) (hd : digs (body s) = t) (hr : rest (body s) = r) (hb : badP (grps t) = false) (hp : PartOk r p) :
    coinF s = if 1000000000000 < valD (t.filter isD) * 100 + cents r then (3, 0, 0) else (0, -1, if neg s then -((valD (t.filter isD) * 100 + cents r : Nat) : Int) else ((valD (t.filter isD) * 100 + cents r : Nat) : Int)) := by
  unfold coinF; simp only []; rw [if_neg (by rw [h]; simp), hd, hr, if_neg (by rw [hb]; simp)]
  rcases hp with ⟨rfl, _⟩ | ⟨d1, d2, rfl, h1, h2, _⟩
  · rw [if_neg (fun x => x.1 rfl), if_neg (fun x => x.1 rfl), if_neg (fun x => x.1 rfl), if_neg (by simp)]
  · rw [if_neg (fun x => x.2 rfl), if_neg (fun x => by have := x.2; rw [show digAt [46, d1, d2] 1 = isD d1 from rfl, h1] at this; cases this), if_neg (fun x => by have := x.2; rw [show digAt [46, d1, d2] 2 = isD d2 from rfl, h2] at this; cases this), if_neg (by simp)]
theorem out_n {V : Nat} {n : Int} (ng : Bool) (h : n = V) : ((0, -1, if ng then -((V : Nat) : Int) else ((V : Nat) : Int)) : Int × Int × Int) = (0, -1, if ng then -n else n) := by rw [h]
theorem start_yes {b : List UInt8} (h : 0 < b.length) (hc : 48 ≤ (b[0].toNat : Int) ∧ (b[0].toNat : Int) ≤ 57) : startB b = true := by
  cases b with
  | nil => simp at h
  | cons c t => simp only [startB, isD]; simp at hc ⊢; omega
set_option maxRecDepth 100000 in
set_option maxHeartbeats 8000000 in
theorem cread_any (s : List UInt8) (A : Nat → Addr) (rv : Value) (m : Int) (w : World) (hl : s.length ≤ 3000) (hE : CE w A rv m) :
    Calls Tryd.prog 29 #[.string ⟨s.toArray⟩] w (CRdPost s A w) := by
  have HE := Lib.hid hE
  clear hE
  have hCut := fun w => Tryd.strings_CutPrefix ⟨s.toArray⟩ ⟨#[45]⟩ w
  simp only at hCut
  rw [prefix_neg, trim_body] at hCut
  have HCut := Lib.hid hCut
  clear hCut
  obtain ⟨hsk, hsk1, hbl⟩ := skip_len s
  obtain ⟨b, hb⟩ : ∃ b, b = body s := ⟨_, rfl⟩
  obtain ⟨ng, hng⟩ : ∃ ng, ng = neg s := ⟨_, rfl⟩
  obtain ⟨K, hK⟩ : ∃ K : Int, K = (skip s : Nat) := ⟨_, rfl⟩
  rw [← hb] at hsk hbl HCut
  rw [← hng] at HCut
  rw [← hK] at hsk
  have HBd := Lib.hid hb
  have HNg := Lib.hid hng
  have HK := Lib.hid hK
  have k0 : 0 ≤ K := by omega
  have k1 : K ≤ 1 := by omega
  have lb : (b.length : Int) ≤ 3000 := by omega
  have ls : (s.length : Int) ≤ 3000 := by omega
  clear hb hng hK hsk1 hbl
  go_enter Tryd.func29, Tryd.ntmps29
  go_wp2_with fail
  refine (HCut.out _).mono ?_
  rintro e w' ⟨rfl, rfl⟩
  clear HCut
  by_cases hb0 : b = []
  · subst hb0
    have hsk : (s.length : Int) = K := by simpa using hsk
    have HO := Lib.hid (show coinF s = (1, K, 0) by rw [HK.out]; exact coin_start (by rw [← HBd.out]; rfl))
    go_wp2_with fail
    refine (fault_any _ A rv m _ HE.out).mono ?_
    rintro e w' ⟨v, rfl, hp, hb⟩
    have HP := Lib.hid hp
    have HB := Lib.hid hb
    clear hp hb
    go_wp2_with fail
    go_ret2
    exact crd_of HO.out HP.out HB.out
  · have hbp : 0 < b.length := List.length_pos_iff.2 hb0
    have hsz : 0 < (ByteArray.mk b.toArray).size := hbp
    have hbe : b.isEmpty = false := by simp [hb0]
    obtain ⟨c0, hc0⟩ : ∃ c0 : Int, (((ByteArray.mk b.toArray)[0]'hsz).toNat : Int) = c0 := ⟨_, rfl⟩
    have HC0 := Lib.hid (show (b[0].toNat : Int) = c0 from hc0)
    go_wp2_with fail
    refine (digit_any _ _).mono ?_
    rintro e w' ⟨gd, rfl, hw', hgd⟩
    subst hw'
    have HGD := Lib.hid hgd
    clear hgd
    cases gd
    · have HO := Lib.hid (show coinF s = (1, K, 0) by rw [HK.out]; exact coin_start (by rw [← HBd.out]; exact start_no hbp (by rw [HC0.out]; intro hh; have := HGD.out.2 hh; cases this)))
      go_wp2_with fail
      refine (fault_any _ A rv m _ HE.out).mono ?_
      rintro e w' ⟨v, rfl, hp, hb⟩
      have HP := Lib.hid hp
      have HB := Lib.hid hb
      clear hp hb
      go_wp2_with fail
      go_ret2
      exact crd_of HO.out HP.out HB.out
    · have HSt := Lib.hid (show startB b = true from start_yes hbp (by rw [HC0.out]; exact HGD.out.1 rfl))
      clear HGD HC0 hc0 hsz
      go_upto_block 0 with fail
      go_cut [7] (fun s7 wx => w' = wx ∧ ∃ k : Nat, s7 = .int .i64 k ∧ k ≤ b.length ∧ Hid (∀ j (h : j < b.length), j < k → isDC b[j] = true) ∧ Hid (∀ h : k < b.length, isDC b[k] = false))
      case first =>
        go_wp2_with fail
        go_loop [7] (fun s7 => ∃ k : Nat, s7 = .int .i64 k ∧ k ≤ b.length ∧ Hid (∀ j (h : j < b.length), j < k → isDC b[j] = true)) (fun s7 => (b.length - intOf s7).toNat)
        case atStart => exact ⟨0, rfl, by omega, fun j _ hj => absurd hj (by omega)⟩
        case round =>
          obtain ⟨k, rfl, hk, HA⟩ := hrel
          by_cases hlt : k < b.length
          · have hcl : (k : Int) < (b.length : Int) := by omega
            have hsz : k < (ByteArray.mk b.toArray).size := hlt
            obtain ⟨c, hc⟩ : ∃ c : Int, (((ByteArray.mk b.toArray)[k]'hsz).toNat : Int) = c := ⟨_, rfl⟩
            have HC := Lib.hid (show (b[k].toNat : Int) = c from hc)
            go_wp2_with fail
            refine (digit_any _ _).mono ?_
            rintro e w' ⟨gd, rfl, hw', hgd⟩
            subst hw'
            have HGD := Lib.hid hgd
            clear hgd
            cases gd
            · by_cases hcm : c = 44
              · have HN := Lib.hid (show isDC b[k] = true from dc_yes (.inr (by rw [HC.out]; exact hcm)))
                have hq : (c == 44) = true := by simp [hcm]
                go_wp2_with fail
                go_round
                case rel => exact ⟨k + 1, by go_num, by omega, fun j h hj => if e : j = k then by subst e; exact HN.out else HA.out j h (by omega)⟩
                case measure => simp [intOf]; omega
              · have HN := Lib.hid (show isDC b[k] = false from dc_no ⟨by rw [HC.out]; exact (fun h => by have := HGD.out.2 h; cases this), by rw [HC.out]; exact hcm⟩)
                have hq : (c == 44) = false := by simp [hcm]
                go_wp2_with fail
                go_meet
                exact ⟨rfl, k, rfl, by omega, HA.out, fun _ => HN.out⟩
            · have HN := Lib.hid (show isDC b[k] = true from dc_yes (.inl (by rw [HC.out]; exact HGD.out.1 rfl)))
              go_wp2_with fail
              go_round
              case rel => exact ⟨k + 1, by go_num, by omega, fun j h hj => if e : j = k then by subst e; exact HN.out else HA.out j h (by omega)⟩
              case measure => simp [intOf]; omega
          · have hcl : ¬ (k : Int) < (b.length : Int) := by omega
            go_wp2_with fail
            go_meet
            exact ⟨rfl, k, rfl, by omega, HA.out, fun h => absurd h hlt⟩
      case rest =>
        obtain ⟨hwx, k, rfl, hk, HA, HS⟩ := hcut
        subst hwx
        have hdg := digs_of (b := b) HA.out hk HS.out
        obtain ⟨t, ht⟩ : ∃ t, t = b.take k := ⟨_, rfl⟩
        obtain ⟨r, hr⟩ : ∃ r, r = b.drop k := ⟨_, rfl⟩
        have htl : t.length = k := by rw [ht, List.length_take]; omega
        have hrl : r.length = b.length - k := by rw [hr, List.length_drop]
        have HTR := Lib.hid (show b = t ++ r by rw [ht, hr, List.take_append_drop])
        have HDC := Lib.hid (show ∀ x ∈ t, isDC x = true from fun x hx => by
          rw [ht] at hx
          obtain ⟨j, hj, rfl⟩ := List.getElem_of_mem hx
          rw [List.getElem_take]
          exact HA.out j _ (by simp at hj; omega))
        have HDg := Lib.hid (show digs (body s) = t by rw [← HBd.out, hdg.1, ht])
        have HRs := Lib.hid (show rest (body s) = r by rw [← HBd.out, hdg.2, hr])
        have HT := Lib.hid ht
        have hgl := grps_len t
        clear ht hr hdg HA HS
        go_wp2_with fail
        simp only [ba_take]
        rw [← HT.out]
        refine (split_any t m _ (by omega) HE.out.m).mono ?_
        rintro e w1 ⟨rfl, hw1⟩
        have HX := Lib.hid (show Below w'.heap.size w' w1 by rw [hw1]; exact ext_alloc _ _)
        have HBk := Lib.hid (show Nest.Blk w1 w'.heap.size 9 ((grps t).map strV) by rw [hw1]; exact Nest.Blk.new _ _ _)
        have HN := Lib.hid (show w'.heap.size < w1.heap.size by rw [hw1]; simp)
        clear hw1
        obtain ⟨G, hG⟩ : ∃ G, G = grps t := ⟨_, rfl⟩
        rw [← hG] at HBk hgl ⊢
        have HG := Lib.hid hG
        clear hG
        go_upto_if 61 with fail
        go_cut [] (fun wx => w1 = wx ∧ Hid (badP (grps t) = false))
        case first =>
          by_cases hm : 1 < G.length
          · have hmc : (1 : Int) < (G.length : Int) := by omega
            obtain ⟨g0, hg0⟩ : ∃ g0, G[0]? = some g0 := ⟨_, List.getElem?_eq_getElem (by omega)⟩
            have x0 : w1.cell? ⟨w'.heap.size, 0, none⟩ = some (.string ⟨g0.toArray⟩) := HBk.out.cell 0 (by rw [List.getElem?_map, hg0]; rfl)
            have HG0 := Lib.hid hg0
            have hg0l : (g0.length : Int) ≤ 3000 ∨ True := .inr trivial
            clear hg0 hg0l
            go_wp2_with fail
            go_loop [9, 70] (fun s9 s70 => ∃ (j : Nat) (ok : Bool), s70 = .int .i64 j ∧ j < G.length ∧ s9 = .bool ok ∧ Hid (OkG G g0 j ok)) (fun _ s70 => (G.length - intOf s70).toNat)
            case atStart => exact ⟨0, _, rfl, by omega, rfl, okg_zero G g0⟩
            case round =>
              obtain ⟨j, ok, rfl, hj, rfl, HOk⟩ := hrel
              by_cases hlt : j + 1 < G.length
              · have hcl : (j : Int) < (G.length : Int) - 1 := by omega
                obtain ⟨g, hg⟩ : ∃ g, G[j + 1]? = some g := ⟨_, List.getElem?_eq_getElem (by omega)⟩
                have x1 : w1.cell? ⟨w'.heap.size, 1 + j, none⟩ = some (.string ⟨g.toArray⟩) := HBk.out.cell (1 + j) (by rw [List.getElem?_map, Nat.add_comm, hg]; rfl)
                have HGj := Lib.hid hg
                clear hg
                cases ok
                · go_wp2_with fail
                  go_round
                  case rel => exact ⟨j + 1, false, by go_num, by omega, rfl, okg_false HOk.out HGj.out⟩
                  case measure => simp [intOf]; omega
                · by_cases h3 : g.length = 3
                  · have h3c : ((g.length : Int) == 3) = true := by simp; omega
                    have H3 := Lib.hid h3
                    clear h3
                    go_wp2_with fail
                    go_round
                    case rel => exact ⟨j + 1, true, by go_num, by omega, rfl, okg_true HOk.out HGj.out H3.out⟩
                    case measure => simp [intOf]; omega
                  · have h3c : ((g.length : Int) == 3) = false := by rw [beq_eq_false_iff_ne]; omega
                    have H3 := Lib.hid h3
                    clear h3
                    go_wp2_with fail
                    go_round
                    case rel => exact ⟨j + 1, false, by go_num, by omega, rfl, okg_bad HGj.out H3.out⟩
                    case measure => simp [intOf]; omega
              · have hcl : ¬ (j : Int) < (G.length : Int) - 1 := by omega
                have HBd2 := Lib.hid (okg_end HOk.out hj hlt HG0.out hm)
                have HM := Lib.hid hm
                cases ok
                · have HO := Lib.hid (show coinF s = (1, K + (comma t : Nat), 0) by rw [HK.out]; exact coin_comma (by rw [← HBd.out]; exact HSt.out) HDg.out (by rw [← HG.out, HBd2.out]; rfl))
                  go_wp2_with fail
                  rw [HTR.out]
                  refine (comma_any t r (grps_many (by rw [← HG.out]; exact HM.out)) _).mono ?_
                  rintro e w2 ⟨rfl, hw2⟩
                  subst hw2
                  have hcm : (comma t : Int) ≤ 3000 := by have := comma_le t; omega
                  have hcm0 : (0 : Int) ≤ (comma t : Int) := by omega
                  obtain ⟨cm, hcme⟩ : ∃ cm : Int, cm = (comma t : Nat) := ⟨_, rfl⟩
                  rw [← hcme] at HO hcm hcm0 ⊢
                  clear hcme
                  go_wp2_with fail
                  refine (fault_any _ A rv m _ (HE.out.ext HX.out)).mono ?_
                  rintro e w3 ⟨v, rfl, hp, hb⟩
                  have HP := Lib.hid hp
                  have HB := Lib.hid (ext_trans HX.out hb)
                  clear hp hb
                  go_wp2_with fail
                  go_ret2
                  exact crd_of HO.out HP.out HB.out
                · go_wp2_with fail
                  go_meet
                  exact ⟨rfl, by rw [← HG.out, HBd2.out]; rfl⟩
          · have hmc : ¬ (1 : Int) < (G.length : Int) := by omega
            go_wp2_with fail
            go_meet
            exact ⟨rfl, by rw [← HG.out]; exact badP_one (by omega)⟩
        case rest =>
          obtain ⟨hwx, HBad⟩ := hcut
          subst hwx
          go_wp2_with fail
          rw [show G = grps t from HG.out]
          refine (join_any t w'.heap.size _ w1 (by omega) HDC.out (Nat.le_refl _) (by rw [← HG.out]; omega) (fun j u hj => HBk.out.cell j (by rw [HG.out]; exact hj)) HN.out).mono ?_
          rintro e w2 ⟨rfl, hb2⟩
          have HX2 := Lib.hid (ext_trans HX.out hb2)
          clear hb2
          obtain ⟨dg, hdg⟩ : ∃ dg, dg = t.filter isD := ⟨_, rfl⟩
          rw [← hdg]
          have hdl : dg.length ≤ 3000 := by rw [hdg]; exact Nat.le_trans (List.length_filter_le _ _) (by omega)
          have HD := Lib.hid hdg
          clear hdg
          go_upto_if 93 with fail
          go_cut [13] (fun s13 wx => w2 = wx ∧ ∃ p, s13 = .string ⟨p.toArray⟩ ∧ p.length = 2 ∧ Hid (PartOk r p))
          case first =>
            by_cases hlt : k < b.length
            · have hcl : (k : Int) < (b.length : Int) := by omega
              rw [show decide (k < b.length) = true by simp; omega]
              have hsz : k < (ByteArray.mk b.toArray).size := hlt
              obtain ⟨c, hc⟩ : ∃ c : Int, (((ByteArray.mk b.toArray)[k]'hsz).toNat : Int) = c := ⟨_, rfl⟩
              have HC := Lib.hid (show (b[k].toNat : Int) = c from hc)
              have HR0 := Lib.hid (show r[0]? = some b[k] from at_rest HTR.out htl 0 (by omega))
              by_cases hcm : c = 46
              · have hq : (c != 46) = false := by simp [hcm]
                have HRh := Lib.hid (show r.head? = some 46 by rw [List.head?_eq_getElem?, HR0.out]; congr 1; exact UInt8.toNat.inj (by have := HC.out; simp; omega))
                go_wp2_with fail
                go_loop [2, 3, 14] (fun _ _ s14 => ∃ i : Nat, s14 = .int .i64 i ∧ k + 1 ≤ i ∧ i ≤ k + 3 ∧ Hid (∀ q, 1 ≤ q → q < i - k → digAt r q = true)) (fun _ _ s14 => (k + 3 - intOf s14).toNat)
                case atStart => exact ⟨k + 1, by go_num, by omega, by omega, fun q h1 h2 => absurd h2 (by omega)⟩
                case round =>
                  obtain ⟨i, rfl, hi1, hi2, HA⟩ := hrel
                  by_cases h3 : i < k + 3
                  · have h3c : (i : Int) < (k : Int) + 3 := by omega
                    by_cases hin : i < b.length
                    · have hinc : (i : Int) < (b.length : Int) := by omega
                      have hszi : i < (ByteArray.mk b.toArray).size := hin
                      obtain ⟨ci, hci⟩ : ∃ ci : Int, (((ByteArray.mk b.toArray)[i]'hszi).toNat : Int) = ci := ⟨_, rfl⟩
                      have HCi := Lib.hid (show (b[i].toNat : Int) = ci from hci)
                      have HRi := Lib.hid (show digAt r (i - k) = isD b[i] from dig_rest HTR.out htl (by omega) hin)
                      go_wp2_with fail
                      refine (digit_any _ _).mono ?_
                      rintro e w3 ⟨gd, rfl, hw3, hgd⟩
                      subst hw3
                      have HGD := Lib.hid hgd
                      clear hgd
                      cases gd
                      · have HNo := Lib.hid (show digAt r (i - k) = false by rw [HRi.out]; exact isD_no (by rw [HCi.out]; intro hh; have := HGD.out.2 hh; cases this))
                        have HO := Lib.hid (show coinF s = (1, K + (i : Int), 0) by rw [HK.out]; exact coin_part htl (by rw [← HBd.out]; exact HSt.out) HDg.out HRs.out HBad.out HRh.out hi1 h3 HA.out HNo.out)
                        go_wp2_with fail
                        refine (fault_any _ A rv m _ (HE.out.ext HX2.out)).mono ?_
                        rintro e w4 ⟨v, rfl, hp, hb⟩
                        have HP := Lib.hid hp
                        have HB := Lib.hid (ext_trans HX2.out hb)
                        clear hp hb
                        go_wp2_with fail
                        go_ret2
                        exact crd_of HO.out HP.out HB.out
                      · have HYes := Lib.hid (show digAt r (i - k) = true by rw [HRi.out]; exact isD_yes (by rw [HCi.out]; exact HGD.out.1 rfl))
                        go_wp2_with fail
                        go_round
                        case rel =>
                          exact ⟨i + 1, by go_num, by omega, by omega, fun q h1 h2 => if e : q = i - k then by rw [e]; exact HYes.out else HA.out q h1 (by omega)⟩
                        case measure => simp [intOf]; omega
                    · have hinc : ¬ (i : Int) < (b.length : Int) := by omega
                      have HNo := Lib.hid (show digAt r (i - k) = false from dig_none (by omega))
                      have HO := Lib.hid (show coinF s = (1, K + (i : Int), 0) by rw [HK.out]; exact coin_part htl (by rw [← HBd.out]; exact HSt.out) HDg.out HRs.out HBad.out HRh.out hi1 h3 HA.out HNo.out)
                      go_wp2_with fail
                      refine (fault_any _ A rv m _ (HE.out.ext HX2.out)).mono ?_
                      rintro e w4 ⟨v, rfl, hp, hb⟩
                      have HP := Lib.hid hp
                      have HB := Lib.hid (ext_trans HX2.out hb)
                      clear hp hb
                      go_wp2_with fail
                      go_ret2
                      exact crd_of HO.out HP.out HB.out
                  · have h3c : ¬ (i : Int) < (k : Int) + 3 := by omega
                    have HY1 := Lib.hid (HA.out 1 (by omega) (by omega))
                    have HY2 := Lib.hid (HA.out 2 (by omega) (by omega))
                    have HL2 := Lib.hid (show 2 < r.length from dig_len HY2.out)
                    have hr2 := HL2.out
                    clear HA
                    by_cases hl3 : k + 3 < b.length
                    · have hl3c : (k : Int) + 3 < (b.length : Int) := by omega
                      have HO := Lib.hid (show coinF s = (1, K + (k : Int) + 3, 0) by rw [HK.out, ← htl]; exact coin_more (by rw [← HBd.out]; exact HSt.out) HDg.out HRs.out HBad.out HRh.out HY1.out HY2.out (by omega))
                      go_wp2_with fail
                      refine (fault_any _ A rv m _ (HE.out.ext HX2.out)).mono ?_
                      rintro e w4 ⟨v, rfl, hp, hb⟩
                      have HP := Lib.hid hp
                      have HB := Lib.hid (ext_trans HX2.out hb)
                      clear hp hb
                      go_wp2_with fail
                      go_ret2
                      exact crd_of HO.out HP.out HB.out
                    · have hl3c : ¬ (k : Int) + 3 < (b.length : Int) := by omega
                      go_wp2_with fail
                      go_meet
                      obtain ⟨d1, d2, hrr, e1, e2⟩ := part_of HRh.out HY1.out HY2.out (by omega)
                      exact ⟨rfl, [d1, d2], by rw [ba_cut, HTR.out, part_cut htl hrr], rfl, .inr ⟨d1, d2, hrr, e1, e2, rfl⟩⟩
              · have hq : (c != 46) = true := by simp [hcm]
                have HO := Lib.hid (show coinF s = (1, K + (k : Int), 0) by rw [HK.out, ← htl]; exact coin_dot (by rw [← HBd.out]; exact HSt.out) HDg.out HRs.out HBad.out (by intro e; have := HR0.out; rw [e] at this; simp at this) (by rw [List.head?_eq_getElem?, HR0.out]; intro e; apply hcm; rw [← HC.out, Option.some.inj e]; rfl))
                go_wp2_with fail
                refine (fault_any _ A rv m _ (HE.out.ext HX2.out)).mono ?_
                rintro e w3 ⟨v, rfl, hp, hb⟩
                have HP := Lib.hid hp
                have HB := Lib.hid (ext_trans HX2.out hb)
                clear hp hb
                go_wp2_with fail
                go_ret2
                exact crd_of HO.out HP.out HB.out
            · have hcl : ¬ (k : Int) < (b.length : Int) := by omega
              go_wp2_with fail
              go_meet
              exact ⟨rfl, _, rfl, rfl, .inl ⟨List.length_eq_zero_iff.1 (by omega), rfl⟩⟩
          case rest =>
            obtain ⟨hwx, p, rfl, hpl, HPt⟩ := hcut
            subst hwx
            have hpt := HPt.out
            have HDp := Lib.hid (show ∀ x ∈ dg ++ p, isD x = true from fun x hx => by
              rcases List.mem_append.1 hx with h | h
              · rw [HD.out] at h; exact (List.mem_filter.1 h).2
              · exact hpt.digit x h)
            obtain ⟨V, hV⟩ : ∃ V, V = valD (t.filter isD) * 100 + cents r := ⟨_, rfl⟩
            have HV := Lib.hid (show valD (dg ++ p) = V by rw [hV, HD.out]; exact val_part hpt)
            have HCo := Lib.hid (coin_end (by rw [← HBd.out]; exact HSt.out) HDg.out HRs.out HBad.out hpt)
            rw [← hV, ← HNg.out] at HCo
            obtain ⟨l, hl2⟩ : ∃ l, l = (dg ++ p).dropWhile (· == 48) := ⟨_, rfl⟩
            have hll : l.length ≤ 3002 := by
              rw [hl2]
              refine Nat.le_trans (List.dropWhile_sublist _).length_le ?_
              rw [List.length_append]; omega
            have HLD := Lib.hid (show ∀ x ∈ l, isD x = true by rw [hl2]; exact trim_isD _ HDp.out)
            have HLV := Lib.hid (show valD l = V by rw [hl2, val_trim]; exact HV.out)
            have HL := Lib.hid hl2
            clear hpt hV hl2
            go_wp2_with fail
            simp only [ba_cat]
            refine (trim_any _ _).mono ?_
            rintro e w3 ⟨rfl, hw3⟩
            subst hw3
            rw [← HL.out]
            go_upto_if 146 with fail
            go_cut [15] (fun s15 wx => Hid (Below w'.heap.size w' wx) ∧ ∃ n : Int, s15 = .int .i64 n ∧ 0 ≤ n ∧ n ≤ 9223372036854775807 ∧ Hid ((V ≤ 1000000000000 ∧ n = V) ∨ (1000000000000 < V ∧ 1000000000000 < n)))
            case first =>
              by_cases hl0 : l = []
              · have hle : (!l.isEmpty) = false := by simp [hl0]
                rw [hle]
                go_wp2_with fail
                go_meet
                exact ⟨HX2.out, 0, rfl, by omega, by omega, .inl (by have := HLV.out; rw [hl0] at this; have hz : V = 0 := by rw [← this]; rfl
                                                                     rw [hz]; exact ⟨by omega, rfl⟩)⟩
              · have hle : (!l.isEmpty) = true := by simp [hl0]
                have HL0 := Lib.hid hl0
                clear hl0
                rw [hle]
                go_wp2_with fail
                refine (atoi_any l HLD.out HL0.out (by omega) rv _ (HE.out.ext HX2.out).r HE.out.i).mono ?_
                rintro e w4 ⟨hb4, hc | hc⟩
                · obtain ⟨hc, rfl⟩ := hc
                  have HX4 := Lib.hid (ext_trans HX2.out hb4)
                  rw [HLV.out] at hc ⊢
                  clear hb4
                  go_wp2_with fail
                  go_meet
                  exact ⟨HX4.out, V, rfl, by omega, by omega, by show _ ∨ _; omega⟩
                · obtain ⟨hc, v, ty, pp, rfl⟩ := hc
                  have HX4 := Lib.hid (ext_trans HX2.out hb4)
                  rw [HLV.out] at hc
                  clear hb4
                  go_wp2_with fail
                  go_meet
                  exact ⟨HX4.out, 1000000000001, rfl, by omega, by omega, .inr (by omega)⟩
            case rest =>
              obtain ⟨HX5, n, rfl, hn0, hn1, HN⟩ := hcut
              go_wp2_with fail
              refine (good_any _ _).mono ?_
              rintro e w6 ⟨gd, rfl, hw6, hgd⟩
              subst hw6
              have HGD := Lib.hid hgd
              clear hgd
              cases gd
              · have HO := Lib.hid (show coinF s = (3, 0, 0) by rw [HCo.out]; exact if_pos (by have h1 := HN.out; have h2 := mt HGD.out.2 (by simp); omega))
                have hc := (HE.out.ext HX5.out).c
                unfold sentV at hc
                go_wp2_with fail
                go_region
                go_wp2_with fail
                go_ret2
                have hN := Nest.Blk.new w6 85 [.int .i64 0, sentV (A 2)]
                exact crd_of HO.out (.inr ⟨2, by omega, rfl, _, rfl, cell_ext (ext_drewN _ 1) (hN.cell 0 rfl), cell_ext (ext_drewN _ 1) (hN.cell 1 rfl)⟩) (ext_trans HX5.out (ext_trans (ext_alloc w6 _) (ext_drewN _ 1)))
              · have hb := HGD.out.1 rfl
                have HO := Lib.hid (show coinF s = (0, -1, if ng then -n else n) by rw [HCo.out, if_neg (by have h1 := HN.out; omega)]; exact out_n ng (by have h1 := HN.out; omega))
                cases ng
                · go_wp2_with fail
                  go_ret2
                  exact crd_of HO.out (.inl ⟨rfl, rfl⟩) HX5.out
                · go_wp2_with fail
                  go_ret2
                  exact crd_of HO.out (.inl ⟨rfl, rfl⟩) HX5.out
end Go.Proofs.YtdfajigepchccaaDoor.Cn

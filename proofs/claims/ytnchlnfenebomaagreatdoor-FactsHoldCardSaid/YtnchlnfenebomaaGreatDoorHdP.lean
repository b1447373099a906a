/- Conditions and sums over facts, in plain Lean: the one answer that both sides give. Trees of nodes in memory: those that came in, and those that the call made. -/
import Derived.Test.YtnchlnfenebomaaGreatDoorFkP
import Derived.Test.YtnchlnfenebomaaGreatDoorFkW
import Derived.Test.YtnchlnfenebomaaGreatDoorPart
import Derived.Test.YtnchlnfenebomaaGreatDoorNest
namespace Go.Proofs.YtnchlnfenebomaaGreatDoor.Hd
open Fk Coin

/-- a node, and where its kids lie -/
inductive Nd where
  | mk (kind word : List UInt8) (n : Int) (A : Option Addr) (c : Nat) (kids : List Nd)
def Nd.kind : Nd → List UInt8
  | .mk k _ _ _ _ _ => k
def Nd.word : Nd → List UInt8
  | .mk _ s _ _ _ _ => s
def Nd.n : Nd → Int
  | .mk _ _ n _ _ _ => n
def Nd.A : Nd → Option Addr
  | .mk _ _ _ A _ _ => A
def Nd.c : Nd → Nat
  | .mk _ _ _ _ c _ => c
def Nd.kids : Nd → List Nd
  | .mk _ _ _ _ _ l => l
def kOr : List UInt8 := [111, 114]
def kAnd : List UInt8 := [97, 110, 100]
def kNot : List UInt8 := [110, 111, 116]
def kName : List UInt8 := [110, 97, 109, 101]
def kSome : List UInt8 := [115, 111, 109, 101]
def kEvery : List UInt8 := [101, 118, 101, 114, 121]
def kNumber : List UInt8 := [110, 117, 109, 98, 101, 114]
def kCount : List UInt8 := [99, 111, 117, 110, 116]
def kTotal : List UInt8 := [116, 111, 116, 97, 108]
def kMax : List UInt8 := [109, 97, 120]
def kMin : List UInt8 := [109, 105, 110]
/-- whose facts, on which day, as known on which day -/
structure Ask where
  l : List Fa
  on : Int
  kn : Int
def Ask.best (q : Ask) (who : Int) (nm : List UInt8) : Option Fa := bestF who nm q.on q.kn (-1) q.l
def Ask.worth (q : Ask) (who : Int) (nm : List UInt8) : Int := (valF (q.best who nm)).1
def Ask.others (q : Ask) (who : Int) (nm : List UInt8) : List Int := othersF who nm q.on q.kn q.l
def goodF (n : Int) : Int × Nat := if coinB n = true then (n, 0) else (0, 3)
/-- two sums, and what is made of them -/
def twoF (f : Int → Int → Int × Nat) (a b : Int × Nat) : Int × Nat := if 0 < a.2 then (0, a.2) else if 0 < b.2 then (0, b.2) else f a.1 b.1
def twoB (f : Int → Int → Bool) (a b : Int × Nat) : Bool × Nat := if 0 < a.2 then (false, a.2) else if 0 < b.2 then (false, b.2) else (f a.1 b.1, 0)
def twoH (f : Bool → Bool → Bool) (a b : Bool × Nat) : Bool × Nat := if 0 < a.2 then (false, a.2) else if 0 < b.2 then (false, b.2) else (f a.1 b.1, 0)
def totalF (q : Ask) (nm : List UInt8) (l : List Int) : Int := (l.map fun o => q.worth o nm).sum
def eachF (every : Bool) (f : Int → Bool × Nat) (l : List Int) : Bool × Nat :=
  match l.find? fun o => decide (0 < (f o).2) with
  | some o => (false, (f o).2)
  | none => (if every then l.all fun o => (f o).1 else l.any fun o => (f o).1, 0)
def evS : Nat → Ask → Nd → Int → Int × Nat
  | 0, _, _, _ => (0, 9)
  | d + 1, q, .mk k wd n _ _ ks, who =>
    if k = kNumber then (if ks.length = 0 ∧ 0 ≤ n ∧ coinB n = true then (n, 0) else (0, 9))
    else if k = kName then (if ks.length = 0 ∧ wordB wd = true then (q.worth who wd, 0) else (0, 9))
    else if k = kCount then (if ks.length = 0 ∧ wordB wd = true then (((q.others who wd).length : Int) * 100, 0) else (0, 9))
    else if k = kTotal then
      match ks with
      | [x] => if wordB wd = true ∧ x.kind = kName ∧ x.kids.length = 0 ∧ wordB x.word = true then goodF (totalF q wd (q.others who x.word)) else (0, 9)
      | _ => (0, 9)
    else if k = [42] then
      match ks with
      | [x] => if 0 < (evS d q x who).2 then (0, (evS d q x who).2) else if n < 0 ∨ 1000000 < n then (0, 9) else partV (evS d q x who).1 n 4
      | _ => (0, 9)
    else
      match ks with
      | [x, y] =>
        if k = [43] then twoF (fun a b => goodF (a + b)) (evS d q x who) (evS d q y who)
        else if k = [45] then twoF (fun a b => goodF (a - b)) (evS d q x who) (evS d q y who)
        else if k = kMax then twoF (fun a b => (max a b, 0)) (evS d q x who) (evS d q y who)
        else if k = kMin then twoF (fun a b => (min a b, 0)) (evS d q x who) (evS d q y who)
        else (0, 9)
      | _ => (0, 9)
def evH : Nat → Ask → Nd → Int → Bool × Nat
  | 0, _, _, _ => (false, 9)
  | d + 1, q, .mk k wd _ _ _ ks, who =>
    if k = kName then (if ks.length = 0 ∧ wordB wd = true then ((valF (q.best who wd)).2 && decide (q.worth who wd ≠ 0), 0) else (false, 9))
    else if k = kNot then
      match ks with
      | [x] => if 0 < (evH d q x who).2 then (false, (evH d q x who).2) else (!(evH d q x who).1, 0)
      | _ => (false, 9)
    else if k = kSome ∨ k = kEvery then
      match ks with
      | [x] => if wordB wd = true then eachF (decide (k = kEvery)) (fun o => evH d q x o) (q.others who wd) else (false, 9)
      | _ => (false, 9)
    else
      match ks with
      | [x, y] =>
        if k = kOr then twoH (fun a b => a || b) (evH d q x who) (evH d q y who)
        else if k = kAnd then twoH (fun a b => a && b) (evH d q x who) (evH d q y who)
        else if k = [60] then twoB (fun a b => decide (a < b)) (evS d q x who) (evS d q y who)
        else if k = [60, 61] then twoB (fun a b => decide (a ≤ b)) (evS d q x who) (evS d q y who)
        else if k = [61] then twoB (fun a b => decide (a = b)) (evS d q x who) (evS d q y who)
        else if k = [60, 62] then twoB (fun a b => decide (a ≠ b)) (evS d q x who) (evS d q y who)
        else if k = [62, 61] then twoB (fun a b => decide (b ≤ a)) (evS d q x who) (evS d q y who)
        else if k = [62] then twoB (fun a b => decide (b < a)) (evS d q x who) (evS d q y who)
        else (false, 9)
      | _ => (false, 9)
/-- a sum is small; a code is 0, 3 or 9 -/
def OkS (r : Int × Nat) : Prop := (-1000000000000 ≤ r.1 ∧ r.1 ≤ 1000000000000) ∧ (r.2 = 0 ∨ (r.1 = 0 ∧ (r.2 = 3 ∨ r.2 = 9)))
def OkH (r : Bool × Nat) : Prop := r.2 = 0 ∨ (r.1 = false ∧ (r.2 = 3 ∨ r.2 = 9))
end Go.Proofs.YtnchlnfenebomaaGreatDoor.Hd
namespace Go.Proofs.YtnchlnfenebomaaGreatDoor.Hd
open Go.RowKit Mem Nest Fk

def ndC : Nd → List Value
  | .mk k s n A c l => [.string ⟨k.toArray⟩, .string ⟨s.toArray⟩, .int .i64 n, .slice A l.length c]
theorem ndC_len (x : Nd) : (ndC x).length = 4 := by cases x; rfl
/-- the tree below a node lies in memory, at most d deep; no row of it lies in a block that X names -/
def InW (w : World) (X : Nat → Prop) : Nat → Nd → Prop
  | 0, _ => False
  | d + 1, .mk k s _ A c l => Rd w A (l.flatMap ndC) ∧ (∀ a, A = some a → l ≠ [] → ¬ X a.block) ∧ (l.length ≤ c ∧ c ≤ maxLen ∧ k.length ≤ 9223372036854775807 ∧ s.length ≤ 9223372036854775807) ∧ ∀ x ∈ l, InW w X d x
theorem InW.ext {w w' : World} {X : Nat → Prop} (hb : Below w.heap.size w w') : ∀ {d : Nat} {x : Nd}, InW w X d x → InW w' X d x
  | 0, _, h => h.elim
  | _ + 1, .mk _ _ _ _ _ _, ⟨h1, h2, h3, h5⟩ => ⟨h1.ext hb, h2, h3, fun x hx => InW.ext hb (h5 x hx)⟩
theorem InW.weak {w : World} {X Y : Nat → Prop} (hY : ∀ b, Y b → X b) : ∀ {d : Nat} {x : Nd}, InW w X d x → InW w Y d x
  | 0, _, h => h.elim
  | _ + 1, .mk _ _ _ _ _ _, ⟨h1, h2, h3, h5⟩ => ⟨h1, fun a ha hl hy => h2 a ha hl (hY _ hy), h3, fun x hx => InW.weak hY (h5 x hx)⟩
theorem InW.deep {w : World} {X : Nat → Prop} : ∀ {d d' : Nat} {x : Nd}, d ≤ d' → InW w X d x → InW w X d' x
  | 0, _, _, _, h => h.elim
  | _ + 1, _ + 1, .mk _ _ _ _ _ _, hd, ⟨h1, h2, h3, h5⟩ => ⟨h1, h2, h3, fun x hx => InW.deep (Nat.le_of_succ_le_succ hd) (h5 x hx)⟩
theorem InW.grown {w w' : World} {X : Nat → Prop} {row : Option Nat} (hg : w.grownBy w' row) (hr : ∀ b, row = some b → X b) : ∀ {d : Nat} {x : Nd}, InW w X d x → InW w' X d x
  | 0, _, h => h.elim
  | _ + 1, .mk _ _ _ A c l, ⟨h1, h2, h3, h5⟩ => ⟨fun j u hj => by
      obtain ⟨b, o, e, hc⟩ := h1 j u hj
      refine ⟨b, o, e, hg.cell hc ?_⟩
      intro hb
      exact h2 _ e (by rintro rfl; simp at hj) (hr b hb.symm), h2, h3, fun x hx => InW.grown hg hr (h5 x hx)⟩
/-- no node has very many kids -/
def SmallN : Nat → Nd → Prop
  | 0, _ => True
  | d + 1, .mk _ _ _ _ _ l => l.length ≤ 200 ∧ ∀ x ∈ l, SmallN d x
def ndV : Nd → Value
  | .mk k s n A c l => .agg #[.string ⟨k.toArray⟩, .string ⟨s.toArray⟩, .int .i64 n, .slice A l.length c]
theorem InW.fresh {w : World} {X : Nat → Prop} : ∀ {d : Nat} {x : Nd}, InW w X d x → InW w (fun b => X b ∨ w.heap.size ≤ b) d x
  | 0, _, h => h.elim
  | _ + 1, .mk _ _ _ A c l, ⟨h1, h2, h3, h5⟩ => ⟨h1, fun a ha hl hy => by
      rcases hy with hy | hy
      · exact h2 a ha hl hy
      · obtain ⟨b, o, e, hc⟩ := h1.at_ (k := 0) (by
          rw [flat_len ndC_len]
          have := List.length_pos_iff.2 hl
          omega)
        rw [ha] at e
        obtain rfl := Option.some.inj e
        exact absurd (cell_lt hc) (Nat.not_lt.2 hy), h3, fun x hx => InW.fresh (h5 x hx)⟩
theorem InW.setCell {w : World} {X : Nat → Prop} {a : Addr} (ha : X a.block) (v : Value) : ∀ {d : Nat} {x : Nd}, InW w X d x → InW (w.setCell a v) X d x
  | 0, _, h => h.elim
  | _ + 1, .mk _ _ _ A c l, ⟨h1, h2, h3, h5⟩ => ⟨fun j u hj => by
      obtain ⟨b, o, e, hc⟩ := h1 j u hj
      refine ⟨b, o, e, ?_⟩
      have hne : b ≠ a.block := fun e2 => h2 _ e (by rintro rfl; simp at hj) (e2 ▸ ha)
      rw [← hc]
      simp [World.cell?, World.setCell, Array.getElem?_modify, Ne.symm hne], h2, h3, fun x hx => InW.setCell ha v (h5 x hx)⟩
theorem InW.kid {w : World} {X : Nat → Prop} {d : Nat} {k s : List UInt8} {n : Int} {A : Option Addr} {c : Nat} {l : List Nd} (h : InW w X (d + 1) (.mk k s n A c l)) {i : Nat} (hi : i < l.length) :
    ∃ b o, A = some ⟨b, o, none⟩ ∧ w.cell? ⟨b, o + i * 4, none⟩ = some (.string ⟨l[i].kind.toArray⟩) ∧ w.cell? ⟨b, o + i * 4 + 1, none⟩ = some (.string ⟨l[i].word.toArray⟩) ∧ w.cell? ⟨b, o + i * 4 + 2, none⟩ = some (.int .i64 l[i].n) ∧ w.cell? ⟨b, o + i * 4 + 3, none⟩ = some (.slice l[i].A l[i].kids.length l[i].c) ∧ InW w X d l[i] := by
  obtain ⟨b, o, e, hc⟩ := h.1.row ndC_len hi (by omega)
  have hk := h.2.2.2 _ (List.getElem_mem hi)
  refine ⟨b, o, e, ?_⟩
  generalize l[i] = x at *
  obtain ⟨k', s', n', A', c', l'⟩ := x
  simp only [Nd.kind, Nd.word, Nd.n, Nd.A, Nd.c, Nd.kids]
  exact ⟨by simpa using hc 0 _ rfl, by simpa [Nat.add_assoc] using hc 1 _ rfl, by simpa [Nat.add_assoc] using hc 2 _ rfl, by simpa [Nat.add_assoc] using hc 3 _ rfl, hk⟩
/-- two trees say the same -/
def Eqv : Nat → Nd → Nd → Prop
  | 0, _, _ => False
  | d + 1, .mk k s n _ _ l, .mk k' s' n' _ _ l' => k = k' ∧ s = s' ∧ n = n' ∧ l.length = l'.length ∧ ∀ i (h : i < l.length) (h' : i < l'.length), Eqv d l[i] l'[i]
theorem Eqv.kind {d : Nat} {x y : Nd} (h : Eqv (d + 1) x y) : x.kind = y.kind ∧ x.word = y.word ∧ x.n = y.n ∧ x.kids.length = y.kids.length := by
  obtain ⟨k, s, n, A, c, l⟩ := x
  obtain ⟨k', s', n', A', c', l'⟩ := y
  exact ⟨h.1, h.2.1, h.2.2.1, h.2.2.2.1⟩
theorem evS_eq (q : Ask) : ∀ (d : Nat) (x y : Nd) (who : Int), Eqv d x y → evS d q x who = evS d q y who
  | 0, _, _, _, h => h.elim
  | d + 1, .mk k s n A c l, .mk k' s' n' A' c' l', who, ⟨h1, h2, h3, h4, h5⟩ => by
    subst h1 h2 h3
    match l, l', h4, h5 with
    | [], [], _, _ => simp only [evS]
    | [x], [y], _, h5 =>
      have hk := h5 0 (by simp) (by simp)
      simp only [List.getElem_cons_zero] at hk
      have he := evS_eq q d x y who hk
      simp only [evS, he, List.length_cons, List.length_nil]
      cases d with
      | zero => exact hk.elim
      | succ d =>
        obtain ⟨e1, e2, _, e4⟩ := hk.kind
        rw [e1, e2, e4]
    | [x, x2], [y, y2], _, h5 =>
      have hk := h5 0 (by simp) (by simp)
      have hk2 := h5 1 (by simp) (by simp)
      simp only [List.getElem_cons_zero, List.getElem_cons_succ] at hk hk2
      have he := evS_eq q d x y who hk
      have he2 := evS_eq q d x2 y2 who hk2
      simp only [evS, he, he2, List.length_cons, List.length_nil]
    | _ :: _ :: _ :: _, _ :: _ :: _ :: _, _, _ => simp [evS]
theorem evH_eq (q : Ask) : ∀ (d : Nat) (x y : Nd) (who : Int), Eqv d x y → evH d q x who = evH d q y who
  | 0, _, _, _, h => h.elim
  | d + 1, .mk k s n A c l, .mk k' s' n' A' c' l', who, ⟨h1, h2, h3, h4, h5⟩ => by
    subst h1 h2 h3
    match l, l', h4, h5 with
    | [], [], _, _ => simp only [evH]
    | [x], [y], _, h5 =>
      have hk := h5 0 (by simp) (by simp)
      simp only [List.getElem_cons_zero] at hk
      have he := fun o => evH_eq q d x y o hk
      simp only [evH, he, List.length_cons, List.length_nil]
    | [x, x2], [y, y2], _, h5 =>
      have hk := h5 0 (by simp) (by simp)
      have hk2 := h5 1 (by simp) (by simp)
      simp only [List.getElem_cons_zero, List.getElem_cons_succ] at hk hk2
      have he := evS_eq q d x y who hk
      have he2 := evS_eq q d x2 y2 who hk2
      have hf := evH_eq q d x y who hk
      have hf2 := evH_eq q d x2 y2 who hk2
      simp only [evH, he, he2, hf, hf2, List.length_cons, List.length_nil]
    | _ :: _ :: _ :: _, _ :: _ :: _ :: _, _, _ => simp [evH]
end Go.Proofs.YtnchlnfenebomaaGreatDoor.Hd

/- reason.rings: the search of a number that comes back to itself: its inner function. reason.rings: the rows that are searched are made; all numbers are looked at. reason.rings: the walk. -/
import Derived.Test.YtjfiodknjchngaaDoorThy
import Derived.Test.YtjfiodknjchngaaDoorThm
import Derived.Test.YtjfiodknjchngaaDoorNewSol
import Derived.Deep.RegionHeld3
import Derived.Deep.AppendLies
import Derived.Deep.DeepCutAuto
import Derived.StillTailTactics
import Derived.Laws.EntriesVeiled
namespace Go.Proofs.YtjfiodknjchngaaDoor.Rings
open Go.RowKit Mem Thy Nest Day Thm Ring

/-- what a number leads to, and where that lies -/
structure Nx where
  xs : List Nat
  A : Option Addr
  c : Nat
def nxVal (r : Nx) : Value := .slice r.A r.xs.length r.c
structure RgP where
  base : Nat
  b1 : Nat
  b2 : Nat
  b3 : Nat
  sb : Nat
  nb : Nat
  n : Nat
  nx : List Nx
  over : List (Int × Int)
structure RgP.Ok (p : RgP) : Prop where
  n : p.n ≤ 120
  ln : p.nx.length = p.n
  lx : ∀ r ∈ p.nx, r.xs.length ≤ 1200
  mem : ∀ (k : Nat) (h : k < p.nx.length) (b : Nat), b ∈ p.nx[k].xs ↔ E p.over k b
  rng : ∀ r ∈ p.nx, ∀ x ∈ r.xs, x < p.n
  sb : p.base ≤ p.sb
  d1 : p.b1 ≠ p.sb
  d2 : p.b2 ≠ p.sb
  d3 : p.b3 ≠ p.sb
  d4 : p.nb ≠ p.sb
def caps (p : RgP) : Array Value := #[.pointer (some ⟨p.b1, 0, none⟩), .pointer (some ⟨p.b2, 0, none⟩), .pointer (some ⟨p.b3, 0, none⟩)]
def Vals (st : List Int) : Prop := ∀ j, get st j = 0 ∨ get st j = 1 ∨ get st j = 2
theorem vals_set {st : List Int} {k : Nat} {v : Int} (h : Vals st) (hk : k < st.length) (hv : v = 0 ∨ v = 1 ∨ v = 2) : Vals (st.set k v) := fun j => by
  rw [get_set hk]
  split
  · exact hv
  · exact h j
theorem rd_nat {w : World} {A : Option Addr} {xs : List Nat} (h : Rd w A (ints (xs.map Int.ofNat))) {j : Nat} (hj : j < xs.length) : ∃ b o, A = some ⟨b, o, none⟩ ∧ w.cell? ⟨b, o + j, none⟩ = some (.int .i64 (xs[j] : Nat)) := by
  obtain ⟨b, o, e, hc⟩ := h.int (k := j) (by simpa using hj)
  exact ⟨b, o, e, by simpa using hc⟩
end Go.Proofs.YtjfiodknjchngaaDoor.Rings
namespace Go.Proofs.YtjfiodknjchngaaDoor.Rings
open Go.RowKit Mem Thy Nest Day Thm Ring

theorem list_info : (Tryd.prog.info? 46).map (fun i => (i.zero, i.size, i.bytes)) = some (some (.slice none 0 0), 1, 24) := by kernel_rfl
theorem make_lists (n : Nat) (hn : n ≤ 1000000) (w : World) : (Instr.makeSlice 39 (.int .i64 (n : Int)) (.int .i64 (n : Int))).run Tryd.prog w = .ok (.slice (some ⟨w.heap.size, 0, none⟩) n n) (w.alloc (.cells (List.replicate n (.slice none 0 0)).toArray 46)) := by
  obtain ⟨i0, hi, hz0, hz1, hz2⟩ := info_parts list_info
  have h := run_makeSlice (P := Tryd.prog) w 39 46 i0 _ Tryd.underlying39 hi hz0 .i64 .i64 n n (by omega) (by omega) (by rw [hz1]; simp; omega) (by rw [hz2]; omega) (by omega)
  rw [hz1] at h
  simp only [Int.toNat_natCast, Nat.mul_one] at h
  have e : madeCells (Value.slice none 0 0).cells n = (List.replicate n (.slice none 0 0)).toArray := by
    apply Array.ext
    · simp [madeCells]
    · intro j h1 h2
      simp [madeCells, Value.cells, Nat.mod_one]
  rw [e] at h
  exact h
def natInts (xs : List Nat) : List Value := ints (xs.map Int.ofNat)
/-- the rows that are being made -/
structure Bl (w wr : World) (n : Nat) (vs : List Value) (xs : List (List Nat)) (ov : List (Int × Int)) (j : Nat) : Prop where
  below : Below w.heap.size w wr
  blk : Blk wr w.heap.size 46 vs
  var : Blk wr (w.heap.size + 1) 39 [.slice (some ⟨w.heap.size, 0, none⟩) n n]
  lv : vs.length = n
  lx : xs.length = n
  own : ∀ (i : Nat) (h1 : i < vs.length) (h2 : i < xs.length), wr.ownsRow (w.heap.size + 2) 3 1 vs[i] xs[i].length (natInts xs[i])
  apart : ∀ (i k : Nat) (h1 : i < vs.length) (h2 : k < vs.length), i ≠ k → vs[i].ownBlock = none ∨ vs[i].ownBlock ≠ vs[k].ownBlock
  mem : ∀ (i : Nat) (h2 : i < xs.length) (b : Nat), b ∈ xs[i] ↔ E (ov.take j) i b
  tot : ∀ (i : Nat) (h2 : i < xs.length), xs[i].length ≤ j
section
variable {w wr w1 : World} {n j : Nat} {vs : List Value} {xs : List (List Nat)} {ov : List (Int × Int)}
theorem Bl.ext (x : Bl w wr n vs xs ov j) (hb : Below wr.heap.size wr w1) : Bl w w1 n vs xs ov j :=
  ⟨ext_trans x.below hb, Sol.blk_ext x.blk hb, Sol.blk_ext x.var hb, x.lv, x.lx, fun i h1 h2 => own_ext (x.own i h1 h2) hb, x.apart, x.mem, x.tot⟩
theorem Bl.start (w : World) (n : Nat) (ov : List (Int × Int)) : Bl w ((w.alloc (.cells (List.replicate n (.slice none 0 0)).toArray 46)).alloc (.cells #[.slice (some ⟨w.heap.size, 0, none⟩) n n] 39)) n (List.replicate n (.slice none 0 0)) (List.replicate n []) ov 0 := by
  have h1 := ext_alloc w (.cells (List.replicate n (.slice none 0 0)).toArray 46)
  have h2 := ext_alloc (w.alloc (.cells (List.replicate n (.slice none 0 0)).toArray 46)) (.cells #[.slice (some ⟨w.heap.size, 0, none⟩) n n] 39)
  refine ⟨ext_trans h1 h2, Sol.blk_ext (Blk.new w _ _) h2, by simpa using Blk.new (w.alloc (.cells (List.replicate n (.slice none 0 0)).toArray 46)) 39 [.slice (some ⟨w.heap.size, 0, none⟩) n n], by simp, by simp, fun i h1 h2 => ?_, fun i k h1 h2 _ => ?_, fun i h2 b => ?_, fun i h2 => ?_⟩
  · simpa [natInts, ints] using World.ownsRow_nil _ _ _ _
  · simp [Value.ownBlock]
  · simp [E]
  · simp
theorem Bl.put {v0 : Value} {Wd : World} {a b g cap : Nat} {xa : List Nat} (x : Bl w Wd n vs xs ov j) (hj : j < ov.length) (ha : a < n) (h1 : a < vs.length) (h2 : a < xs.length) (hv : v0 = vs[a]) (hxa : xa = xs[a]) (e1 : ov[j] = ((a : Int), (b : Int)))
    (hown : w1.ownsRow (w.heap.size + 2) 3 1 (.slice (some ⟨g, 0, none⟩) (xa.length + 1) cap) (xa.length + 1) (natInts xa ++ [.int .i64 (b : Int)])) (hg : Wd.grownBy w1 v0.ownBlock) (hat : v0.ownBlock = some g ∨ g = Wd.heap.size) :
    Bl w (w1.setCell ⟨w.heap.size, a, none⟩ (.slice (some ⟨g, 0, none⟩) (xa.length + 1) cap)) n (vs.set a (.slice (some ⟨g, 0, none⟩) (xa.length + 1) cap)) (xs.set a (xa ++ [b])) ov (j + 1) := by
  have hrow : ∀ k, v0.ownBlock = some k → w.heap.size + 2 ≤ k := fun k hk => ((x.own a h1 h2).lt k (hv ▸ hk)).1
  have kept : ∀ {B : Nat} {T : TypeId} {cs : List Value}, Blk Wd B T cs → B < w.heap.size + 2 → Blk w1 B T cs := fun {B T cs} h hB => by
    have hl := h.lt
    unfold Blk at h ⊢
    rw [hg.block B hl (fun e => by have := hrow B e.symm; omega)]
    exact h
  have hbel : Below w.heap.size w w1 := x.below.grown hg x.below.size fun k hk => by have := hrow k hk; omega
  refine ⟨hbel.setCell (Nat.le_refl _) _, ?_, blk_set (kept x.var (by omega)) (by simp) _, by simp [x.lv], by simp [x.lx], fun i i1 i2 => ?_, fun i k i1 i2 hik => ?_, fun i i2 c => ?_, fun i i2 => ?_⟩
  · exact (kept x.blk (by omega)).set a _
  · simp only [List.length_set] at i1 i2
    by_cases e : i = a
    · subst e
      have h := ownsRow_setCell_below hown (a := ⟨w.heap.size, i, none⟩) (by simp) (.slice (some ⟨g, 0, none⟩) (xa.length + 1) cap)
      simpa [natInts, ints] using h
    · have h := (x.own i i1 i2).kept hg (by
        rcases x.apart i a i1 h1 e with h | h
        · exact .inl h
        · exact .inr (by rw [hv]; exact h))
      have h := ownsRow_setCell_below h (a := ⟨w.heap.size, a, none⟩) (by simp) (.slice (some ⟨g, 0, none⟩) (xa.length + 1) cap)
      simpa [Ne.symm e, List.getElem_set] using h
  · have i1' : i < vs.length := by simpa using i1
    have i2' : k < vs.length := by simpa using i2
    have far : ∀ (k : Nat) (k1 : k < vs.length), k ≠ a → vs[k].ownBlock = none ∨ vs[k].ownBlock ≠ some g := fun k k1 hk => by
      rcases hat with h | h
      · rcases x.apart k a k1 h1 hk with h' | h'
        · exact .inl h'
        · refine .inr fun e => h' ?_
          rw [e, ← h, hv]
      · cases e : vs[k].ownBlock with
        | none => exact .inl rfl
        | some q =>
          refine .inr fun e' => ?_
          have := ((x.own k k1 (by rw [x.lx, ← x.lv]; exact k1)).lt q e).2
          simp at e'
          omega
    have hn : (Value.slice (some ⟨g, 0, none⟩) (xa.length + 1) cap).ownBlock = some g := rfl
    by_cases ei : i = a
    · subst ei
      have hk : k ≠ i := Ne.symm hik
      rw [List.getElem_set_self, List.getElem_set_ne hik, hn]
      right
      rcases far k i2' hk with h | h
      · rw [h]; simp
      · exact Ne.symm h
    · by_cases ek : k = a
      · subst ek
        rw [List.getElem_set_self, List.getElem_set_ne (Ne.symm ei), hn]
        exact far i i1' ei
      · rw [List.getElem_set_ne (Ne.symm ei), List.getElem_set_ne (Ne.symm ek)]
        exact x.apart i k i1' i2' hik
  · simp only [List.length_set] at i2
    have hm := x.mem i i2 c
    unfold E at hm ⊢
    rw [List.take_succ_eq_append_getElem hj, List.mem_append, e1, List.mem_singleton]
    by_cases e : i = a
    · subst e
      subst hxa
      simp only [List.getElem_set_self, List.mem_append, List.mem_singleton, hm]
      constructor
      · rintro (h | rfl)
        · exact .inl h
        · exact .inr rfl
      · rintro (h | h)
        · exact .inl h
        · right; simp at h; omega
    · rw [List.getElem_set_ne (Ne.symm e), hm]
      constructor
      · exact .inl
      · rintro (h | h)
        · exact h
        · simp at h; omega
  · simp only [List.length_set] at i2
    by_cases e : i = a
    · subst e
      have := x.tot i (by simpa using i2)
      simp [hxa]
      exact this
    · rw [List.getElem_set_ne (Ne.symm e)]
      have := x.tot i (by simpa using i2)
      omega
end
theorem pick {α : Type} {P : Nat → α → Prop} : ∀ (n : Nat), (∀ i, i < n → ∃ r, P i r) → ∃ l : List α, l.length = n ∧ ∀ (i : Nat) (h : i < l.length), P i l[i]
  | 0, _ => ⟨[], rfl, fun i h => by simp at h⟩
  | n + 1, h => by
    obtain ⟨l, hl, hp⟩ := pick n (fun i hi => h i (by omega))
    obtain ⟨r, hr⟩ := h n (by omega)
    refine ⟨l ++ [r], by simp [hl], fun i hi => ?_⟩
    by_cases hi' : i < l.length
    · rw [List.getElem_append_left hi']; exact hp i hi'
    · have : i = n := by simp at hi; omega
      subst this
      rw [List.getElem_append_right (by omega)]
      simpa [hl] using hr
/-- the rows are made: told as the search wants them -/
theorem Bl.done {w wr : World} {n j : Nat} {vs : List Value} {xs : List (List Nat)} {ov : List (Int × Int)} (x : Bl w wr n vs xs ov j) :
    ∃ nx : List Nx, nx.length = n ∧ vs = nx.map nxVal ∧ nx.map Nx.xs = xs ∧ ∀ r ∈ nx, Rd wr r.A (ints (r.xs.map Int.ofNat)) := by
  obtain ⟨nx, hl, hp⟩ := pick (P := fun i (r : Nx) => ∃ (h1 : i < vs.length) (h2 : i < xs.length), vs[i] = nxVal r ∧ r.xs = xs[i] ∧ Rd wr r.A (ints (r.xs.map Int.ofNat))) n (fun i hi => by
    have h1 : i < vs.length := by rw [x.lv]; exact hi
    have h2 : i < xs.length := by rw [x.lx]; exact hi
    have ho := x.own i h1 h2
    obtain ⟨A, c, hv, _⟩ := own_slice ho
    rw [hv] at ho
    exact ⟨⟨xs[i], A, c⟩, h1, h2, hv, rfl, Rd.of_own ho⟩)
  refine ⟨nx, hl, ?_, ?_, fun r hr => ?_⟩
  · apply List.ext_getElem (by simp [x.lv, hl])
    intro i h1 h2
    obtain ⟨_, _, h, _⟩ := hp i (by simpa using h2)
    simpa using h
  · apply List.ext_getElem (by simp [x.lx, hl])
    intro i h1 h2
    obtain ⟨_, _, _, h, _⟩ := hp i (by simpa using h1)
    simpa using h
  · obtain ⟨i, hi, rfl⟩ := List.mem_iff_getElem.1 hr
    obtain ⟨_, _, _, _, h⟩ := hp i hi
    exact h
end Go.Proofs.YtjfiodknjchngaaDoor.Rings
namespace Go.Proofs.YtjfiodknjchngaaDoor.Rings
open Go.RowKit Mem Thy Nest Day Thm Ring

/-- what a cell holds, whatever that is -/
def held (a : Addr) (x : World) : Value := (x.cell? a).getD undef
theorem held_of {a : Addr} {x : World} {u : Value} (h : x.cell? a = some u) : x.cell? a = some (held a x) := by
  unfold held
  rw [h]
  rfl
theorem held_eq {a : Addr} {x : World} {u : Value} (h : x.cell? a = some u) : held a x = u := by
  unfold held
  rw [h]
  rfl
theorem cell_set_same {w : World} {a : Addr} {u : Value} (h : w.cell? a = some u) (v : Value) : (w.setCell a v).cell? a = some v := World.cell?_setCell_same' w a v (by rw [h]; rfl)
theorem int_info : (Tryd.prog.info? 3).map (fun i => (i.zero, i.size, i.bytes)) = some (some (.int .i64 0), 1, 8) := by kernel_rfl
end Go.Proofs.YtjfiodknjchngaaDoor.Rings

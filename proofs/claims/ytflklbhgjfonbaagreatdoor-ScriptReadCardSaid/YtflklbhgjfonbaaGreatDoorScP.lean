/- Laws as texts: the levels from one on, as the document's way of putting something in leaves them: rows are copied on the way. -/
import Derived.Test.YtflklbhgjfonbaaGreatDoorScM
namespace Go.Proofs.YtflklbhgjfonbaaGreatDoor.Sc
open Go.RowKit Mem Nest Fk Err Lk

/-- the levels from k on -/
structure SubL (B : Nat) (col : Nat → Nat) (w : World) (k n : Nat) (lv : Nat → Lv) : Prop where
  le : k ≤ n
  rl : ∀ i, k ≤ i → i ≤ n → (lv i).rows.length = (lv i).ks.length
  kids : ∀ i, k ≤ i → i ≤ n → ∀ (j : Nat) (q : It) (s : List Value), (lv i).ks[j]? = some q → (lv i).rows[j]? = some s → TrM w (fun b => col b = 0) (9 - i) q s
  bd : ∀ i, k ≤ i → i ≤ n → (lv i).lines.length ≤ 1000 ∧ (lv i).ks.length ≤ 1000
  up : ∀ i, k ≤ i → i < n → RdR w (fun b => col b = 0) (lv i).LA (strs (lv i).lines) ∧ Own B col w 26 4 (cK i) (.slice (lv i).KA ((lv i).ks.length + 1) (lv i).kc) ((lv i).ks.length + 1) ((lv i).rows.flatten ++ (lv (i + 1)).hdr (decide (i + 1 < n)))
  lines : Own B col w 9 1 1000 (.slice (lv n).LA (lv n).lines.length (lv n).lc) (lv n).lines.length (strs (lv n).lines)
  inn : Own B col w 26 4 (cK n) (.slice (lv n).KA (lv n).ks.length (lv n).kc) (lv n).ks.length (lv n).rows.flatten
theorem SpL.sub {B : Nat} {col : Nat → Nat} {w : World} {n : Nat} {lv : Nat → Lv} (h : SpL B col w n lv) {k : Nat} (hk : k ≤ n) : SubL B col w k n lv :=
  ⟨hk, fun i _ h2 => h.rl i h2, fun i _ h2 => h.kids i h2, fun i _ h2 => h.bd i h2, fun i _ h2 => h.up i h2, h.lines, h.inn⟩
theorem SubL.all {B : Nat} {col : Nat → Nat} {w : World} {n : Nat} {lv : Nat → Lv} (h : SubL B col w 0 n lv) : SpL B col w n lv :=
  ⟨fun i h2 => h.rl i (Nat.zero_le _) h2, fun i h2 => h.kids i (Nat.zero_le _) h2, fun i h2 => h.bd i (Nat.zero_le _) h2, fun i h2 => h.up i (Nat.zero_le _) h2, h.lines, h.inn⟩
theorem SubL.keep {B : Nat} {col col' : Nat → Nat} {w w' : World} {k n : Nat} {lv : Nat → Lv} (h : SubL B col w k n lv) (hn : n ≤ 8) (hb : ∀ b, (col b = 0 ∨ cK k ≤ col b) → b < w.heap.size → w'.heap[b]? = w.heap[b]? ∧ col' b = col b) : SubL B col' w' k n lv := by
  have hle := h.le
  have hz : ∀ b, col b = 0 → b < w.heap.size → w'.heap[b]? = w.heap[b]? ∧ col' b = 0 := fun b h0 hl => by
    obtain ⟨h1, h2⟩ := hb b (.inl h0) hl
    exact ⟨h1, by rw [h2]; exact h0⟩
  have hc : ∀ c, cK k ≤ c → ∀ b, col b = c → b < w.heap.size → w'.heap[b]? = w.heap[b]? ∧ col' b = c := fun c h10 b h0 hl => by
    obtain ⟨h1, h2⟩ := hb b (.inr (by omega)) hl
    exact ⟨h1, by rw [h2]; exact h0⟩
  exact ⟨h.le, h.rl, fun i h1 h2 j q s hq hs => (h.kids i h1 h2 j q s hq hs).mono hz, h.bd, fun i h1 h2 => ⟨(h.up i h1 h2).1.mono hz, (h.up i h1 h2).2.keep (hc _ (by unfold cK; omega))⟩, h.lines.keep (hc 1000 (by unfold cK; omega)), h.inn.keep (hc _ (by unfold cK; omega))⟩
theorem SubL.ext {B : Nat} {col : Nat → Nat} {w w' : World} {k n : Nat} {lv : Nat → Lv} (h : SubL B col w k n lv) (hn : n ≤ 8) (hb : Below w.heap.size w w') : SubL B col w' k n lv := h.keep hn fun b _ hl => ⟨hb.block b hl, rfl⟩
theorem SubL.tail {B : Nat} {col : Nat → Nat} {w : World} {k n : Nat} {lv : Nat → Lv} (h : SubL B col w k n lv) (hk : k < n) : SubL B col w (k + 1) n lv :=
  ⟨hk, fun i h1 h2 => h.rl i (by omega) h2, fun i h1 h2 => h.kids i (by omega) h2, fun i h1 h2 => h.bd i (by omega) h2, fun i h1 h2 => h.up i (by omega) h2, h.lines, h.inn⟩
theorem SubL.flat {B : Nat} {col : Nat → Nat} {w : World} {k n : Nat} {lv : Nat → Lv} (h : SubL B col w k n lv) {i : Nat} (h1 : k ≤ i) (h2 : i ≤ n) : (lv i).rows.flatten.length = (lv i).ks.length * 4 := by
  rw [flat4 (fun r hr => by
    obtain ⟨j, hj, rfl⟩ := List.mem_iff_getElem.1 hr
    exact (h.kids i h1 h2 j ((lv i).ks[j]'(by rw [← h.rl i h1 h2]; exact hj)) _ (List.getElem?_eq_getElem _) (List.getElem?_eq_getElem _)).len), h.rl i h1 h2]
theorem SubL.own {B : Nat} {col : Nat → Nat} {w : World} {k n : Nat} {lv : Nat → Lv} (h : SubL B col w k n lv) {j : Nat} (hkj : k ≤ j) (hj : j ≤ n) : Own B col w 26 4 (cK j) (.slice (lv j).KA ((lv j).ks.length + (decide (j < n)).toNat) (lv j).kc) ((lv j).ks.length + (decide (j < n)).toNat) (rowsO lv n j).flatten := by
  unfold rowsO
  by_cases e : j < n
  · rw [decide_eq_true e, if_pos e, List.flatten_append, List.flatten_singleton]
    exact (h.up j hkj e).2
  · obtain rfl : j = n := by omega
    rw [decide_eq_false e, if_neg e, List.append_nil]
    exact h.inn
/-- what is open closes -/
theorem SubL.close {B : Nat} {col : Nat → Nat} {w : World} {z n : Nat} {lv : Nat → Lv} (h : SubL B col w z n lv) (hn : n ≤ 8) (R : Nat → Prop) (h0 : ∀ b, col b = 0 → R b) (h1 : ∀ b, col b = 1000 → R b) :
    ∀ (m k : Nat), k + m = n → z ≤ k → (∀ b i, k ≤ i → i ≤ n → col b = cK i → R b) → TrM w R (10 - k) (treeL lv m k) ((lv k).hdr (decide (k < n)))
  | 0, k, e, hz, hc => by
    obtain rfl : k = n := by omega
    rw [show 10 - k = (9 - k) + 1 from by omega, show decide (k < k) = false from by simp]
    exact ⟨(lv k).LA, (lv k).lc, (lv k).KA, (lv k).kc, (lv k).rows, rfl, RdR.of_own h.lines.1 (fun g hg => h1 g (h.lines.2 g hg)), RdR.of_own h.inn.1 (fun g hg => hc g k (Nat.le_refl _) (Nat.le_refl _) (h.inn.2 g hg)), ⟨h.rl k hz (Nat.le_refl _), by have := (h.bd k hz (Nat.le_refl _)).1; show (lv k).lines.length ≤ _; omega, by have := (h.bd k hz (Nat.le_refl _)).2; show (lv k).ks.length ≤ _; omega⟩,
      fun j q s hq hs => (h.kids k hz (Nat.le_refl _) j q s hq hs).mono fun b hb _ => ⟨rfl, h0 b hb⟩⟩
  | m + 1, k, e, hz, hc => by
    have hk : k < n := by omega
    have ih := SubL.close h hn R h0 h1 m (k + 1) (by omega) (by omega) (fun b i h1 h2 h3 => hc b i (by omega) h2 h3)
    obtain ⟨hu1, hu2⟩ := h.up k hz hk
    have hrl := h.rl k hz (by omega)
    have hbd := h.bd k hz (by omega)
    rw [show 10 - k = (9 - k) + 1 from by omega, show decide (k < n) = true from by simpa using hk]
    refine ⟨(lv k).LA, (lv k).lc, (lv k).KA, (lv k).kc, (lv k).rows ++ [(lv (k + 1)).hdr (decide (k + 1 < n))], ?_, hu1.mono fun b hb _ => ⟨rfl, h0 b hb⟩, ?_, ⟨?_, ?_, ?_⟩, ?_⟩
    · simp [Lv.hdr, treeL]
    · rw [List.flatten_append, List.flatten_singleton]
      exact RdR.of_own hu2.1 (fun g hg => hc g k (Nat.le_refl _) (by omega) (hu2.2 g hg))
    · simp [treeL, hrl]
    · show (lv k).lines.length ≤ _
      omega
    · simp only [treeL, List.length_append, List.length_singleton]
      omega
    · intro j q s hq hs
      simp only [treeL] at hq
      by_cases hj : j < (lv k).ks.length
      · rw [List.getElem?_append_left hj] at hq
        rw [List.getElem?_append_left (by omega)] at hs
        exact (h.kids k hz (by omega) j q s hq hs).mono fun b hb _ => ⟨rfl, h0 b hb⟩
      · rw [List.getElem?_append_right (by omega)] at hq
        rw [List.getElem?_append_right (by omega)] at hs
        have e1 : j - (lv k).ks.length = 0 := by
          rcases Nat.eq_zero_or_pos (j - (lv k).ks.length) with e | e
          · exact e
          · rw [List.getElem?_eq_none (by simp; omega)] at hq
            cases hq
        rw [e1] at hq
        rw [hrl, e1] at hs
        simp only [List.getElem?_cons_zero, Option.some.injEq] at hq hs
        subst hq hs
        rw [show 9 - k = 10 - (k + 1) from by omega]
        exact ih
/-- what stays when something is put in from level c on -/
structure Chg (B : Nat) (col col' : Nat → Nat) (w w' : World) (c : Nat) : Prop where
  os : w'.os = w.os
  tape : w'.tape = w.tape
  output : w'.output = w.output
  size : w.heap.size ≤ w'.heap.size
  base : ∀ b, b < B → b < w.heap.size → w'.heap[b]? = w.heap[b]?
  blk : ∀ b, b < w.heap.size → col b < c → w'.heap[b]? = w.heap[b]? ∧ col' b = col b
theorem Chg.of {B : Nat} {col : Nat → Nat} {w w' : World} (h : Below w.heap.size w w') (c : Nat) : Chg B col col w w' c := ⟨h.os, h.tape, h.output, h.size, fun b _ hl => h.block b hl, fun b hl _ => ⟨h.block b hl, rfl⟩⟩
theorem Chg.trans {B : Nat} {c1 c2 c3 : Nat → Nat} {w1 w2 w3 : World} {c : Nat} (h : Chg B c1 c2 w1 w2 c) (h' : Chg B c2 c3 w2 w3 c) : Chg B c1 c3 w1 w3 c :=
  ⟨h'.os.trans h.os, h'.tape.trans h.tape, h'.output.trans h.output, Nat.le_trans h.size h'.size, fun b hb hl => (h'.base b hb (Nat.lt_of_lt_of_le hl h.size)).trans (h.base b hb hl), fun b hl hc => by
    obtain ⟨e1, e2⟩ := h.blk b hl hc
    obtain ⟨e3, e4⟩ := h'.blk b (Nat.lt_of_lt_of_le hl h.size) (by rw [e2]; exact hc)
    exact ⟨e3.trans e1, e4.trans e2⟩⟩
theorem Chg.less {B : Nat} {c1 c2 : Nat → Nat} {w1 w2 : World} {c c' : Nat} (h : Chg B c1 c2 w1 w2 c) (hc : c' ≤ c) : Chg B c1 c2 w1 w2 c' := ⟨h.os, h.tape, h.output, h.size, h.base, fun b hl h1 => h.blk b hl (by omega)⟩
theorem treeL_congr {lv lv' : Nat → Lv} : ∀ (m k : Nat), (∀ i, k ≤ i → lv' i = lv i) → treeL lv' m k = treeL lv m k
  | 0, k, h => by simp only [treeL, h k (Nat.le_refl _)]
  | m + 1, k, h => by simp only [treeL, h k (Nat.le_refl _), treeL_congr m (k + 1) fun i hi => h i (by omega)]
/-- a level's row, copied -/
def copyLv (l : Lv) (g c : Nat) : Lv := { l with KA := some ⟨g, 0, none⟩, kc := c }
/-- what a level gives back, when something was put in deeper: the tree is changed by f at level j; n' levels -/
def PutR (B : Nat) (col : Nat → Nat) (f : It → It) (w : World) (k j n n' : Nat) (lv : Nat → Lv) (V : List Value) (w' : World) : Prop :=
  ∃ (col' : Nat → Nat) (lv' : Nat → Lv), SubL B col' w' k n' lv' ∧ V = (lv' k).hdr (decide (k < n')) ∧ upd f (j - k) (treeL lv (n - k) k) = treeL lv' (n' - k) k ∧ Chg B col col' w w' (cK k) ∧ (∀ i, k ≤ i → i < j → (lv' i).ks.length = (lv i).ks.length) ∧ (lv' j).ks.length + (decide (j < n')).toNat = (f (treeL lv (n - j) j)).kids.length
theorem row_head4 {B : Nat} {col : Nat → Nat} {w : World} {g c n kc : Nat} {X : List Value} {a0 a1 a2 a3 v0 v1 v2 v3 : Value} (h : Own B col w 26 4 c (.slice (some ⟨g, 0, none⟩) (n + 1) kc) (n + 1) (X ++ [a0, a1, a2, a3])) (hX : X.length = n * 4) :
    Own B col ((((w.setCell ⟨g, n * 4, none⟩ v0).setCell ⟨g, n * 4 + 1, none⟩ v1).setCell ⟨g, n * 4 + 2, none⟩ v2).setCell ⟨g, n * 4 + 3, none⟩ v3) 26 4 c (.slice (some ⟨g, 0, none⟩) (n + 1) kc) (n + 1) (X ++ [v0, v1, v2, v3]) := by
  have h1 := row_head (j := 0) (v := v0) h hX
  have h2 := row_head (j := 1) (v := v1) h1 hX
  have h3 := row_head (j := 2) (v := v2) h2 hX
  exact row_head (j := 3) (v := v3) h3 hX
/-- behind a level's copy and what was put in deeper: the header is stored into the copy -/
theorem PutR.step {B : Nat} {col : Nat → Nat} {f : It → It} {w w1 w2 w3 : World} {k j n n' : Nat} {lv : Nat → Lv} {V : List Value} (h : SubL B col w k n lv) (_ : n ≤ 8) (hn' : n' ≤ 8) (hk : k < j) (hjn : j ≤ n) (g c1 : Nat)
    (hB : Below w.heap.size w w1) (hg : w.heap.size ≤ g) (_ : B ≤ g) (hg1 : g < w1.heap.size)
    (ho : w1.ownsRow B 26 4 (.slice (some ⟨g, 0, none⟩) ((lv k).ks.length + 1) c1) ((lv k).ks.length + 1) ((lv k).rows.flatten ++ (lv (k + 1)).hdr (decide (k + 1 < n))))
    (hp : PutR B (fun b => if b = g then cK k else col b) f w1 (k + 1) j n n' lv V w2)
    (hs : ∀ (X : List Value) (c : Nat) (col2 : Nat → Nat), X.length = (lv k).ks.length * 4 → Own B col2 w2 26 4 c (.slice (some ⟨g, 0, none⟩) ((lv k).ks.length + 1) c1) ((lv k).ks.length + 1) (X ++ (lv (k + 1)).hdr (decide (k + 1 < n))) → Own B col2 w3 26 4 c (.slice (some ⟨g, 0, none⟩) ((lv k).ks.length + 1) c1) ((lv k).ks.length + 1) (X ++ V))
    (hf : ∀ b, b ≠ g → w3.heap[b]? = w2.heap[b]?) (hsz : w3.heap.size = w2.heap.size) (ho3 : w3.os = w2.os ∧ w3.tape = w2.tape ∧ w3.output = w2.output) :
    PutR B col f w k j n n' lv [.string ⟨(lv k).label.toArray⟩, .string ⟨(lv k).head.toArray⟩, .slice (lv k).LA (lv k).lines.length (lv k).lc, .slice (some ⟨g, 0, none⟩) ((lv k).ks.length + 1) c1] w3 := by
  obtain ⟨col2, lv2, p1, p2, p3, p4, p5, p6⟩ := hp
  have hkn := p1.le
  have hc1 : ∀ b, b < w.heap.size → (if b = g then cK k else col b) = col b := fun b hb => by
    rw [if_neg (by omega)]
  have hgc : w2.heap[g]? = w1.heap[g]? ∧ col2 g = cK k := by
    obtain ⟨e1, e2⟩ := p4.blk g hg1 (by show (if g = g then cK k else col g) < _; rw [if_pos rfl]; unfold cK; omega)
    exact ⟨e1, by rw [e2]; show (if g = g then cK k else col g) = _; rw [if_pos rfl]⟩
  have hlow : ∀ b, b < w.heap.size → col b < cK k → w3.heap[b]? = w.heap[b]? ∧ col2 b = col b := fun b hb hc => by
    have hb1 : b < w1.heap.size := Nat.lt_of_lt_of_le hb hB.size
    obtain ⟨e1, e2⟩ := p4.blk b hb1 (by show (if b = g then cK k else col b) < _; rw [hc1 b hb]; unfold cK at hc ⊢; omega)
    refine ⟨?_, e2.trans (hc1 b hb)⟩
    rw [hf b (by omega), e1, hB.block b hb]
  have hz : ∀ b, col b = 0 → b < w.heap.size → w3.heap[b]? = w.heap[b]? ∧ col2 b = 0 := fun b h0 hb => by
    obtain ⟨e1, e2⟩ := hlow b hb (by rw [h0]; unfold cK; omega)
    exact ⟨e1, by rw [e2]; exact h0⟩
  have hsub : SubL B col2 w3 (k + 1) n' lv2 := p1.keep hn' fun b hb hl => ⟨hf b (fun e => by rw [e, hgc.2] at hb; unfold cK at hb; omega), rfl⟩
  obtain ⟨lv3, hlv3⟩ : ∃ lv3, lv3 = setLv lv2 k (copyLv (lv k) g c1) := ⟨_, rfl⟩
  have h3k : lv3 k = copyLv (lv k) g c1 := by rw [hlv3, setLv_at]
  have h3i : ∀ i, k + 1 ≤ i → lv3 i = lv2 i := fun i hi => by rw [hlv3, setLv_ne lv2 _ (by omega)]
  refine ⟨col2, lv3, ⟨by omega, fun i h1 h2 => ?_, fun i h1 h2 jj q s hq hs' => ?_, fun i h1 h2 => ?_, fun i h1 h2 => ?_, ?_, ?_⟩, ?_, ?_, ?_, ?_, ?_⟩
  · by_cases e : i = k
    · subst e; rw [h3k]; exact h.rl i (Nat.le_refl _) (by omega)
    · rw [h3i i (by omega)]; exact p1.rl i (by omega) h2
  · by_cases e : i = k
    · subst e
      rw [h3k] at hq hs'
      exact (h.kids i (Nat.le_refl _) (by omega) jj q s hq hs').mono hz
    · rw [h3i i (by omega)] at hq hs'
      exact hsub.kids i (by omega) h2 jj q s hq hs'
  · by_cases e : i = k
    · subst e; rw [h3k]; exact h.bd i (Nat.le_refl _) (by omega)
    · rw [h3i i (by omega)]; exact p1.bd i (by omega) h2
  · by_cases e : i = k
    · subst e
      rw [h3k, h3i (i + 1) (Nat.le_refl _)]
      refine ⟨(h.up i (Nat.le_refl _) (by omega)).1.mono hz, ?_⟩
      rw [← p2]
      refine hs _ _ _ (h.flat (Nat.le_refl _) (by omega)) ?_
      have h1 : Own B (fun b => if b = g then cK i else col b) w1 26 4 (cK i) (.slice (some ⟨g, 0, none⟩) ((lv i).ks.length + 1) c1) ((lv i).ks.length + 1) ((lv i).rows.flatten ++ (lv (i + 1)).hdr (decide (i + 1 < n))) := ⟨ho, fun b hb => by
        have hb : some g = some b := hb
        simp only [Option.some.injEq] at hb
        show (if b = g then cK i else col b) = cK i
        rw [if_pos hb.symm]⟩
      exact h1.keep fun b hb hl => by
        obtain ⟨e1, e2⟩ := p4.blk b hl (by rw [hb]; unfold cK; omega)
        exact ⟨e1, by rw [e2]; exact hb⟩
    · rw [h3i i (by omega), h3i (i + 1) (by omega)]
      exact hsub.up i (by omega) h2
  · rw [h3i n' hkn]; exact hsub.lines
  · rw [h3i n' hkn]; exact hsub.inn
  · rw [h3k, decide_eq_true (by omega : k < n')]
    rfl
  · rw [show n - k = (n - (k + 1)) + 1 from by omega, show j - k = (j - (k + 1)) + 1 from by omega, show n' - k = (n' - (k + 1)) + 1 from by omega]
    simp only [upd, treeL, List.getLast?_concat, List.dropLast_concat, p3, h3k]
    rw [treeL_congr (lv := lv2) (lv' := lv3) _ _ (fun i hi => h3i i hi)]
    rfl
  · exact ⟨ho3.1.trans (p4.os.trans hB.os), ho3.2.1.trans (p4.tape.trans hB.tape), ho3.2.2.trans (p4.output.trans hB.output), by rw [hsz]; exact Nat.le_trans hB.size p4.size, fun b hb hl => by
      rw [hf b (by omega), p4.base b hb (Nat.lt_of_lt_of_le hl hB.size), hB.block b hl], hlow⟩
  · intro i h1 h2
    by_cases e : i = k
    · subst e; rw [h3k]; rfl
    · rw [h3i i (by omega)]; exact p5 i (by omega) h2
  · rw [h3i j (by omega)]; exact p6
/-- a line more, at the innermost item -/
theorem PutR.line {B : Nat} {col : Nat → Nat} {w w2 : World} {n : Nat} {lv : Nat → Lv} (h : SubL B col w n n lv) (hn : n ≤ 8) (x : Tx) (hx : (lv n).lines.length < 1000) (g5 c5 : Nat)
    (ho : w2.ownsRow B 9 1 (.slice (some ⟨g5, 0, none⟩) ((lv n).lines.length + 1) c5) ((lv n).lines.length + 1) (strs (lv n).lines ++ [.string ⟨x.toArray⟩]))
    (hg : w.grownBy w2 (Value.slice (lv n).LA (lv n).lines.length (lv n).lc).ownBlock) (hA : (Value.slice (lv n).LA (lv n).lines.length (lv n).lc).ownBlock = some g5 ∨ g5 = w.heap.size) :
    PutR B col (addLine x) w n n n n lv [.string ⟨(lv n).label.toArray⟩, .string ⟨(lv n).head.toArray⟩, .slice (some ⟨g5, 0, none⟩) ((lv n).lines.length + 1) c5, .slice (lv n).KA (lv n).ks.length (lv n).kc] w2 := by
  obtain ⟨col', hc'⟩ : ∃ col' : Nat → Nat, col' = fun b => if b < w.heap.size then col b else 1000 := ⟨_, rfl⟩
  have hco : ∀ b, b < w.heap.size → col' b = col b := fun b hb => by rw [hc']; exact if_pos hb
  have hne : ∀ b, b < w.heap.size → col b ≠ 1000 → w2.heap[b]? = w.heap[b]? := fun b hb hc => hg.block b hb fun e => hc (h.lines.2 b e.symm)
  have hgc : col' g5 = 1000 := by
    rcases hA with e | e
    · rw [hco g5 (h.lines.1.lt g5 e).2]
      exact h.lines.2 g5 e
    · rw [hc', e]
      exact if_neg (Nat.lt_irrefl _)
  have hz : ∀ b, col b = 0 → b < w.heap.size → w2.heap[b]? = w.heap[b]? ∧ col' b = 0 := fun b hb hl => ⟨hne b hl (by omega), by rw [hco b hl]; exact hb⟩
  refine ⟨col', setLv lv n (withLine (lv n) x g5 c5), ⟨Nat.le_refl _, fun i h1 h2 => ?_, fun i h1 h2 j q s hq hs => ?_, fun i h1 h2 => ?_, fun i h1 h2 => by omega, ?_, ?_⟩, ?_, ?_, ⟨hg.os, hg.tape, hg.output, hg.size, fun b hb hl => hg.block b hl fun e => by have := (h.lines.1.lt b e.symm).1; omega, fun b hl hc => ⟨hne b hl (by unfold cK at hc; omega), hco b hl⟩⟩, fun i h1 h2 => by omega, ?_⟩
  · obtain rfl : i = n := by omega
    rw [setLv_at]; exact h.rl i h1 h2
  · obtain rfl : i = n := by omega
    rw [setLv_at] at hq hs
    exact (h.kids i h1 h2 j q s hq hs).mono hz
  · obtain rfl : i = n := by omega
    rw [setLv_at]
    exact ⟨by simp only [withLine, List.length_append, List.length_singleton]; omega, (h.bd i h1 h2).2⟩
  · rw [setLv_at]
    have h1 : Own B col' w2 9 1 1000 (.slice (some ⟨g5, 0, none⟩) ((lv n).lines.length + 1) c5) ((lv n).lines.length + 1) (strs (lv n).lines ++ [.string ⟨x.toArray⟩]) := ⟨ho, fun g hg' => by
      have e : some g5 = some g := hg'
      simp only [Option.some.injEq] at e
      rw [← e]
      exact hgc⟩
    simpa [withLine, strs_app, strs] using h1
  · rw [setLv_at]
    exact h.inn.keep fun b hb hl => ⟨hne b hl (by rw [hb]; unfold cK; omega), by rw [hco b hl]; exact hb⟩
  · rw [setLv_at]
    simp [Lv.hdr, withLine]
  · rw [Nat.sub_self]
    simp [upd, treeL, addLine, setLv_at, withLine]
  · rw [setLv_at, Nat.sub_self]
    simp [treeL, addLine, withLine]
/-- a kid more at a level: what lay deeper closes -/
theorem PutR.kid {B : Nat} {col : Nat → Nat} {w w2 : World} {n : Nat} {lv : Nat → Lv} {j : Nat} (h : SubL B col w j n lv) (hn : n ≤ 8) (nm tx : Tx) (hm : (lv j).ks.length + (decide (j < n)).toNat < 1000) (g5 c5 : Nat)
    (ho : w2.ownsRow B 26 4 (.slice (some ⟨g5, 0, none⟩) ((lv j).ks.length + (decide (j < n)).toNat + 1) c5) ((lv j).ks.length + (decide (j < n)).toNat + 1) ((rowsO lv n j).flatten ++ (newLv nm tx).hdr false))
    (hg : w.grownBy w2 (Value.slice (lv j).KA ((lv j).ks.length + (decide (j < n)).toNat) (lv j).kc).ownBlock)
    (hA : (Value.slice (lv j).KA ((lv j).ks.length + (decide (j < n)).toNat) (lv j).kc).ownBlock = some g5 ∨ w.heap.size ≤ g5) :
    PutR B col (addKid ⟨nm, tx, [], []⟩) w j j n (j + 1) lv [.string ⟨(lv j).label.toArray⟩, .string ⟨(lv j).head.toArray⟩, .slice (lv j).LA (lv j).lines.length (lv j).lc, .slice (some ⟨g5, 0, none⟩) ((lv j).ks.length + (decide (j < n)).toNat + 1) c5] w2 := by
  have hj := h.le
  have hown := h.own (Nat.le_refl _) hj
  have hkl := kids_len lv hj
  obtain ⟨M, hM⟩ : ∃ M, M = (lv j).ks.length + (decide (j < n)).toNat := ⟨_, rfl⟩
  rw [← hM] at hown hm ho hg hA hkl ⊢
  obtain ⟨col', hc'⟩ : ∃ col' : Nat → Nat, col' = fun b => if b < w.heap.size then (if cK j < col b then 0 else col b) else cK j := ⟨_, rfl⟩
  have hcl : ∀ b, b < w.heap.size → cK j < col b → col' b = 0 := fun b hb hc => by rw [hc']; simp only [if_pos hb, if_pos hc]
  have hco : ∀ b, b < w.heap.size → ¬ cK j < col b → col' b = col b := fun b hb hc => by rw [hc']; simp only [if_pos hb, if_neg hc]
  have hne : ∀ b, b < w.heap.size → col b ≠ cK j → w2.heap[b]? = w.heap[b]? := fun b hb hc => hg.block b hb fun e => hc (hown.2 b e.symm)
  have hz : ∀ b, (col b = 0 ∨ cK j < col b) → b < w.heap.size → w2.heap[b]? = w.heap[b]? ∧ col' b = 0 := fun b hb hl => by
    refine ⟨hne b hl (by unfold cK at hb ⊢; omega), ?_⟩
    rcases hb with hb | hb
    · rw [hco b hl (by unfold cK; omega)]; exact hb
    · exact hcl b hl hb
  have hz0 : ∀ b, col b = 0 → b < w.heap.size → w2.heap[b]? = w.heap[b]? ∧ col' b = 0 := fun b hb hl => hz b (.inl hb) hl
  have hgc : col' g5 = cK j := by
    rcases hA with e | e
    · have hl := (hown.1.lt g5 e).2
      have hc := hown.2 g5 e
      rw [hco g5 hl (by rw [hc]; exact Nat.lt_irrefl _)]
      exact hc
    · rw [hc']
      exact if_neg (by omega)
  have hrl : (rowsO lv n j).length = (treeL lv (n - j) j).kids.length := by
    rw [hkl, hM]
    unfold rowsO
    rw [List.length_append, h.rl j (Nat.le_refl _) hj]
    by_cases e : j < n
    · rw [if_pos e, decide_eq_true e]; rfl
    · rw [if_neg e, decide_eq_false e]; rfl
  refine ⟨col', lvK lv n j nm tx g5 c5, ⟨by omega, fun k h1 hk => ?_, fun k h1 hk i q s hq hs => ?_, fun k h1 hk => ?_, fun k h1 hk => ?_, ?_, ?_⟩, ?_, ?_, ⟨hg.os, hg.tape, hg.output, hg.size, fun b hb hl => hg.block b hl fun e => by have := (hown.1.lt b e.symm).1; omega, fun b hl hc => ⟨hne b hl (by omega), hco b hl (by omega)⟩⟩, fun i h1 h2 => by omega, ?_⟩
  · rcases Nat.lt_or_ge j k with e2 | e2
    · obtain rfl : k = j + 1 := by omega
      rw [lvK_new]
      rfl
    · obtain rfl : k = j := by omega
      rw [lvK_at]
      exact hrl
  · rcases Nat.lt_or_ge j k with e2 | e2
    · obtain rfl : k = j + 1 := by omega
      rw [lvK_new] at hq
      simp [newLv] at hq
    · obtain rfl : k = j := by omega
      rw [lvK_at] at hq hs
      replace hq : (treeL lv (n - k) k).kids[i]? = some q := hq
      replace hs : (rowsO lv n k)[i]? = some s := hs
      unfold rowsO at hs
      by_cases e3 : k < n
      · obtain ⟨m, hm3⟩ : ∃ m, n - k = m + 1 := ⟨n - k - 1, by omega⟩
        rw [hm3] at hq
        simp only [treeL] at hq
        rw [if_pos e3] at hs
        by_cases hi : i < (lv k).ks.length
        · rw [List.getElem?_append_left hi] at hq
          rw [List.getElem?_append_left (by rw [h.rl k (Nat.le_refl _) hj]; exact hi)] at hs
          exact (h.kids k (Nat.le_refl _) hj i q s hq hs).mono hz0
        · rw [List.getElem?_append_right (by omega)] at hq
          rw [List.getElem?_append_right (by rw [h.rl k (Nat.le_refl _) hj]; omega), h.rl k (Nat.le_refl _) hj] at hs
          have e4 : i - (lv k).ks.length = 0 := by
            rcases Nat.eq_zero_or_pos (i - (lv k).ks.length) with e | e
            · exact e
            · rw [List.getElem?_eq_none (by simp; omega)] at hq
              cases hq
          rw [e4] at hq hs
          simp only [List.getElem?_cons_zero, Option.some.injEq] at hq hs
          subst hq hs
          rw [show 9 - k = 10 - (k + 1) from by omega]
          exact (h.close hn (fun b => col b = 0 ∨ cK k < col b) (fun b hb => .inl hb) (fun b hb => .inr (by rw [hb]; unfold cK; omega)) m (k + 1) (by omega) (by omega) (fun b i h1 h2 h3 => .inr (by rw [h3]; unfold cK; omega))).mono hz
      · rw [show n - k = 0 from by omega] at hq
        simp only [treeL] at hq
        rw [if_neg e3, List.append_nil] at hs
        exact (h.kids k (Nat.le_refl _) hj i q s hq hs).mono hz0
  · rcases Nat.lt_or_ge j k with e2 | e2
    · obtain rfl : k = j + 1 := by omega
      rw [lvK_new]
      exact ⟨by simp [newLv], by simp [newLv]⟩
    · obtain rfl : k = j := by omega
      rw [lvK_at]
      exact ⟨(h.bd k (Nat.le_refl _) hj).1, by show (treeL lv (n - k) k).kids.length ≤ 1000; omega⟩
  · obtain rfl : k = j := by omega
    rw [lvK_at, lvK_new]
    refine ⟨?_, ?_⟩
    · show RdR w2 (fun b => col' b = 0) (lv k).LA (strs (lv k).lines)
      by_cases e3 : k < n
      · exact (h.up k (Nat.le_refl _) e3).1.mono hz0
      · obtain rfl : k = n := by omega
        exact (RdR.of_own (R := fun b => col b = 1000) h.lines.1 (fun g hg' => h.lines.2 g hg')).mono fun b hb hl => hz b (.inr (by rw [hb]; unfold cK; omega)) hl
    · have h1 : Own B col' w2 26 4 (cK k) (.slice (some ⟨g5, 0, none⟩) (M + 1) c5) (M + 1) ((rowsO lv n k).flatten ++ (newLv nm tx).hdr false) := ⟨ho, fun g hg' => by
        have e : some g5 = some g := hg'
        simp only [Option.some.injEq] at e
        rw [← e]
        exact hgc⟩
      rw [← hkl] at h1
      simpa [withKids] using h1
  · rw [lvK_new]
    exact ⟨World.ownsRow_nil _ _ _ _, fun g hg' => by cases hg'⟩
  · rw [lvK_new]
    exact ⟨World.ownsRow_nil _ _ _ _, fun g hg' => by cases hg'⟩
  · rw [lvK_at, decide_eq_true (by omega : j < j + 1)]
    simp [Lv.hdr, withKids, hkl]
  · rw [Nat.sub_self, show j + 1 - j = 0 + 1 from by omega]
    simp only [upd, treeL, addKid, lvK_at, lvK_new, withKids, newLv]
    cases h : n - j with
    | zero => simp [treeL]
    | succ m => simp [treeL]
  · rw [lvK_at, decide_eq_true (by omega : j < j + 1)]
    simp [withKids, addKid]
end Go.Proofs.YtflklbhgjfonbaaGreatDoor.Sc

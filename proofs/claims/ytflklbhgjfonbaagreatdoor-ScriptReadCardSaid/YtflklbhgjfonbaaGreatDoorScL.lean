/- Laws as texts: the way to the innermost item, level by level: its memory, and how it changes. -/
import Derived.Test.YtflklbhgjfonbaaGreatDoorScS
namespace Go.Proofs.YtflklbhgjfonbaaGreatDoor.Sc
open Go.RowKit Mem Nest Fk Err Lk

/-- a level: an item without its last kid, where that one lies deeper -/
structure Lv where
  label : Tx
  head : Tx
  lines : List Tx
  ks : List It
  rows : List (List Value)
  LA : Option Addr
  lc : Nat
  KA : Option Addr
  kc : Nat
/-- its four cells; o: is a kid open? -/
def Lv.hdr (l : Lv) (o : Bool) : List Value := [.string ⟨l.label.toArray⟩, .string ⟨l.head.toArray⟩, .slice l.LA l.lines.length l.lc, .slice l.KA (l.ks.length + o.toNat) l.kc]
/-- the tree from level k on, so many levels deeper -/
def treeL (lv : Nat → Lv) : Nat → Nat → It
  | 0, k => ⟨(lv k).label, (lv k).head, (lv k).lines, (lv k).ks⟩
  | m + 1, k => ⟨(lv k).label, (lv k).head, (lv k).lines, (lv k).ks ++ [treeL lv m (k + 1)]⟩
/-- colours: 0: closed; the kids of level k; 1000: the innermost item's lines -/
def cK (k : Nat) : Nat := k + 10
/-- an own row whose block has that colour -/
def Own (B : Nat) (col : Nat → Nat) (w : World) (T : TypeId) (sz c : Nat) (v : Value) (n : Nat) (xs : List Value) : Prop := w.ownsRow B T sz v n xs ∧ ∀ g, v.ownBlock = some g → col g = c
structure SpL (B : Nat) (col : Nat → Nat) (w : World) (n : Nat) (lv : Nat → Lv) : Prop where
  rl : ∀ k, k ≤ n → (lv k).rows.length = (lv k).ks.length
  kids : ∀ k, k ≤ n → ∀ (j : Nat) (q : It) (s : List Value), (lv k).ks[j]? = some q → (lv k).rows[j]? = some s → TrM w (fun b => col b = 0) (9 - k) q s
  bd : ∀ k, k ≤ n → (lv k).lines.length ≤ 1000 ∧ (lv k).ks.length ≤ 1000
  up : ∀ k, k < n → RdR w (fun b => col b = 0) (lv k).LA (strs (lv k).lines) ∧ Own B col w 26 4 (cK k) (.slice (lv k).KA ((lv k).ks.length + 1) (lv k).kc) ((lv k).ks.length + 1) ((lv k).rows.flatten ++ (lv (k + 1)).hdr (decide (k + 1 < n)))
  lines : Own B col w 9 1 1000 (.slice (lv n).LA (lv n).lines.length (lv n).lc) (lv n).lines.length (strs (lv n).lines)
  inn : Own B col w 26 4 (cK n) (.slice (lv n).KA (lv n).ks.length (lv n).kc) (lv n).ks.length (lv n).rows.flatten
/-- where the item of a level lies -/
def adr (L0 : Nat) (lv : Nat → Lv) : Nat → Addr
  | 0 => ⟨L0, 0, none⟩
  | k + 1 => ⟨((lv k).KA.map (·.block)).getD 0, (lv k).ks.length * 4, none⟩
theorem spn_tree (lv : Nat → Lv) : ∀ (j m k : Nat), j ≤ m → spn j (treeL lv m k) = treeL lv (m - j) (k + j)
  | 0, m, k, _ => rfl
  | j + 1, m + 1, k, h => by
    have ih := spn_tree lv j m (k + 1) (by omega)
    simp only [spn, treeL, List.getLast?_concat]
    rw [ih, show m + 1 - (j + 1) = m - j from by omega, show k + 1 + j = k + (j + 1) from by omega]
theorem upd_tree (f : It → It) (lv lv' : Nat → Lv) (m' : Nat) : ∀ (j m k : Nat), j ≤ m → (∀ i, k ≤ i → i < k + j → lv' i = lv i) → f (treeL lv (m - j) (k + j)) = treeL lv' m' (k + j) → upd f j (treeL lv m k) = treeL lv' (j + m') k
  | 0, m, k, _, _, h => by
    rw [Nat.zero_add]
    exact h
  | j + 1, m + 1, k, hj, hl, h => by
    have ih := upd_tree f lv lv' m' j m (k + 1) (by omega) (fun i h1 h2 => hl i (by omega) (by omega)) (by
      rw [show m - j = m + 1 - (j + 1) from by omega, show k + 1 + j = k + (j + 1) from by omega]
      exact h)
    have e0 := hl k (Nat.le_refl _) (by omega)
    rw [show j + 1 + m' = (j + m') + 1 from by omega]
    simp only [upd, treeL, List.getLast?_concat, List.dropLast_concat, ih, e0]
theorem strs_app (a b : List Tx) : strs (a ++ b) = strs a ++ strs b := by simp [strs]
theorem RdR.of_own {B : Nat} {w : World} {T : TypeId} {sz n c : Nat} {A : Option Addr} {xs : List Value} {R : Nat → Prop} (h : w.ownsRow B T sz (.slice A n c) n xs) (hr : ∀ g, (Value.slice A n c).ownBlock = some g → R g) : RdR w R A xs := fun j u hj => by
  obtain ⟨b, o, e, hc⟩ := Rd.of_own h j u hj
  refine ⟨b, o, e, hr b ?_, hc⟩
  rcases h.2 with ⟨h0, h1⟩ | ⟨g, cap, cur, hv, _⟩
  · have h2 := h.1
    subst h1
    rw [Nat.zero_mul] at h2
    rw [List.eq_nil_of_length_eq_zero h2] at hj
    simp at hj
  · simp only [Value.slice.injEq] at hv
    rw [e] at hv
    obtain ⟨hv, _⟩ := hv
    simp only [Option.some.injEq, Addr.mk.injEq] at hv
    rw [e]
    obtain ⟨rfl, rfl, _⟩ := hv
    rfl
/-- what is open closes -/
theorem SpL.close {B : Nat} {col : Nat → Nat} {w : World} {n : Nat} {lv : Nat → Lv} (h : SpL B col w n lv) (hn : n ≤ 8) (R : Nat → Prop) (h0 : ∀ b, col b = 0 → R b) (h1 : ∀ b, col b = 1000 → R b) :
    ∀ (m k : Nat), k + m = n → (∀ b i, k ≤ i → i ≤ n → col b = cK i → R b) → TrM w R (10 - k) (treeL lv m k) ((lv k).hdr (decide (k < n)))
  | 0, k, e, hc => by
    obtain rfl : k = n := by omega
    rw [show 10 - k = (9 - k) + 1 from by omega, show decide (k < k) = false from by simp]
    exact ⟨(lv k).LA, (lv k).lc, (lv k).KA, (lv k).kc, (lv k).rows, rfl, RdR.of_own h.lines.1 (fun g hg => h1 g (h.lines.2 g hg)), RdR.of_own h.inn.1 (fun g hg => hc g k (Nat.le_refl _) (Nat.le_refl _) (h.inn.2 g hg)), ⟨h.rl k (Nat.le_refl _), by have := (h.bd k (Nat.le_refl _)).1; show (lv k).lines.length ≤ _; omega, by have := (h.bd k (Nat.le_refl _)).2; show (lv k).ks.length ≤ _; omega⟩,
      fun j q s hq hs => (h.kids k (Nat.le_refl _) j q s hq hs).mono fun b hb _ => ⟨rfl, h0 b hb⟩⟩
  | m + 1, k, e, hc => by
    have hk : k < n := by omega
    have ih := SpL.close h hn R h0 h1 m (k + 1) (by omega) (fun b i h1 h2 h3 => hc b i (by omega) h2 h3)
    obtain ⟨hu1, hu2⟩ := h.up k hk
    have hrl := h.rl k (by omega)
    have hbd := h.bd k (by omega)
    rw [show 10 - k = (9 - k) + 1 from by omega, show decide (k < n) = true from by simpa using hk]
    refine ⟨(lv k).LA, (lv k).lc, (lv k).KA, (lv k).kc, (lv k).rows ++ [(lv (k + 1)).hdr (decide (k + 1 < n))], ?_, hu1.mono fun b hb _ => ⟨rfl, h0 b hb⟩, ?_, ⟨?_, ?_, ?_⟩, ?_⟩
    · simp [Lv.hdr, treeL]
    · rw [List.flatten_append, List.flatten_singleton]
      exact RdR.of_own hu2.1 (fun g hg => hc g k (Nat.le_refl _) (by omega) (hu2.2 g hg))
    · simp [treeL, hrl]
    · show (lv k).lines.length ≤ _
      omega
    · simp only [treeL, List.length_append, List.length_singleton]
      omega
    · intro j q s hq hs
      simp only [treeL] at hq
      by_cases hj : j < (lv k).ks.length
      · rw [List.getElem?_append_left hj] at hq
        rw [List.getElem?_append_left (by omega)] at hs
        exact (h.kids k (by omega) j q s hq hs).mono fun b hb _ => ⟨rfl, h0 b hb⟩
      · rw [List.getElem?_append_right (by omega)] at hq
        rw [List.getElem?_append_right (by omega)] at hs
        have e1 : j - (lv k).ks.length = 0 := by
          rcases Nat.eq_zero_or_pos (j - (lv k).ks.length) with e | e
          · exact e
          · rw [List.getElem?_eq_none (by simp; omega)] at hq
            cases hq
        rw [e1] at hq
        rw [hrl, e1] at hs
        simp only [List.getElem?_cons_zero, Option.some.injEq] at hq hs
        subst hq hs
        rw [show 9 - k = 10 - (k + 1) from by omega]
        exact ih
theorem Own.keep {B : Nat} {col col' : Nat → Nat} {w w' : World} {T : TypeId} {sz c : Nat} {v : Value} {n : Nat} {xs : List Value} (h : Own B col w T sz c v n xs) (hb : ∀ b, col b = c → b < w.heap.size → w'.heap[b]? = w.heap[b]? ∧ col' b = c) : Own B col' w' T sz c v n xs :=
  ⟨own_keepL h.1 fun g cc fz hg hk => by
    have hlt := (h.1.lt g hg).2
    rw [(hb g (h.2 g hg) hlt).1]
    exact hk, fun g hg => (hb g (h.2 g hg) (h.1.lt g hg).2).2⟩
theorem flat4 {rows : List (List Value)} (h : ∀ r ∈ rows, r.length = 4) : rows.flatten.length = rows.length * 4 := by
  induction rows with
  | nil => rfl
  | cons r rows ih =>
    rw [List.flatten_cons, List.length_append, ih fun q hq => h q (List.mem_cons_of_mem _ hq), h r List.mem_cons_self, List.length_cons]
    omega
theorem SpL.rows4 {B : Nat} {col : Nat → Nat} {w : World} {n : Nat} {lv : Nat → Lv} (h : SpL B col w n lv) {k : Nat} (hk : k ≤ n) : ∀ r ∈ (lv k).rows, r.length = 4 := fun r hr => by
  obtain ⟨j, hj, rfl⟩ := List.mem_iff_getElem.1 hr
  exact (h.kids k hk j ((lv k).ks[j]'(by rw [← h.rl k hk]; exact hj)) _ (List.getElem?_eq_getElem _) (List.getElem?_eq_getElem _)).len
theorem SpL.flat {B : Nat} {col : Nat → Nat} {w : World} {n : Nat} {lv : Nat → Lv} (h : SpL B col w n lv) {k : Nat} (hk : k ≤ n) : (lv k).rows.flatten.length = (lv k).ks.length * 4 := by
  rw [flat4 (h.rows4 hk), h.rl k hk]
theorem SpL.ka {B : Nat} {col : Nat → Nat} {w : World} {n : Nat} {lv : Nat → Lv} (h : SpL B col w n lv) {k : Nat} (hk : k < n) : ∃ g, (lv k).KA = some ⟨g, 0, none⟩ ∧ col g = cK k ∧ B ≤ g ∧ g < w.heap.size := by
  obtain ⟨_, h1, h2⟩ := h.up k hk
  obtain ⟨g, cap, hv, hb, hl⟩ := World.ownsRow.form h1 (by omega)
  simp only [Value.slice.injEq] at hv
  exact ⟨g, hv.1, h2 g (by rw [hv.1]; rfl), hb, hl⟩
/-- the four cells of a level's item, where it lies -/
theorem SpL.cells {B : Nat} {col : Nat → Nat} {w : World} {n : Nat} {lv : Nat → Lv} (h : SpL B col w n lv) {L0 : Nat} (h0 : Blk w L0 26 ((lv 0).hdr (decide (0 < n)))) : ∀ k, k ≤ n → ∀ j u, ((lv k).hdr (decide (k < n)))[j]? = some u → w.cell? ⟨(adr L0 lv k).block, (adr L0 lv k).off + j, none⟩ = some u
  | 0, _, j, u, hj => by
    show w.cell? ⟨L0, 0 + j, none⟩ = _
    rw [Nat.zero_add]
    exact h0.cell j hj
  | k + 1, hk, j, u, hj => by
    obtain ⟨g, e, _⟩ := h.ka (k := k) (by omega)
    obtain ⟨_, h1, _⟩ := h.up k (by omega)
    show w.cell? ⟨((lv k).KA.map (·.block)).getD 0, (lv k).ks.length * 4 + j, none⟩ = _
    rw [e] at h1 ⊢
    have hf := h.flat (k := k) (by omega)
    have hj4 : j < 4 := (List.getElem?_eq_some_iff.1 hj).1
    have := h1.cellAt ((lv k).ks.length * 4 + j) (by omega)
    show w.cell? ⟨g, (lv k).ks.length * 4 + j, none⟩ = _
    rw [this, List.getElem?_append_right (by omega), show (lv k).ks.length * 4 + j - (lv k).rows.flatten.length = j from by omega]
    exact hj
theorem SpL.free {B : Nat} {col : Nat → Nat} {w : World} {n : Nat} {lv : Nat → Lv} (h : SpL B col w n lv) {L0 : Nat} (h0 : Blk w L0 26 ((lv 0).hdr (decide (0 < n)))) : ∀ k, k ≤ n → ∀ j, w.frozen? ⟨(adr L0 lv k).block, (adr L0 lv k).off + j, none⟩ = false
  | 0, _, j => by
    show w.frozen? ⟨L0, 0 + j, none⟩ = _
    rw [Nat.zero_add]
    exact h0.free j
  | k + 1, hk, j => by
    obtain ⟨g, e, _⟩ := h.ka (k := k) (by omega)
    obtain ⟨_, h1, _⟩ := h.up k (by omega)
    show w.frozen? ⟨((lv k).KA.map (·.block)).getD 0, (lv k).ks.length * 4 + j, none⟩ = _
    rw [e] at h1 ⊢
    exact h1.frozenAt _
/-- the world may grow, blocks of the state's colours stay -/
theorem SpL.keep {B : Nat} {col col' : Nat → Nat} {w w' : World} {n : Nat} {lv : Nat → Lv} (h : SpL B col w n lv) (hb : ∀ b, (col b = 0 ∨ 10 ≤ col b) → b < w.heap.size → w'.heap[b]? = w.heap[b]? ∧ col' b = col b) : SpL B col' w' n lv := by
  have hz : ∀ b, col b = 0 → b < w.heap.size → w'.heap[b]? = w.heap[b]? ∧ col' b = 0 := fun b h0 hl => by
    obtain ⟨h1, h2⟩ := hb b (.inl h0) hl
    exact ⟨h1, by rw [h2]; exact h0⟩
  have hc : ∀ c, 10 ≤ c → ∀ b, col b = c → b < w.heap.size → w'.heap[b]? = w.heap[b]? ∧ col' b = c := fun c h10 b h0 hl => by
    obtain ⟨h1, h2⟩ := hb b (.inr (by omega)) hl
    exact ⟨h1, by rw [h2]; exact h0⟩
  exact ⟨h.rl, fun k hk j q s hq hs => (h.kids k hk j q s hq hs).mono hz, h.bd, fun k hk => ⟨(h.up k hk).1.mono hz, (h.up k hk).2.keep (hc _ (by unfold cK; omega))⟩, h.lines.keep (hc 1000 (by omega)), h.inn.keep (hc _ (by unfold cK; omega))⟩
theorem SpL.ext {B : Nat} {col : Nat → Nat} {w w' : World} {n : Nat} {lv : Nat → Lv} (h : SpL B col w n lv) (hb : Below w.heap.size w w') : SpL B col w' n lv := h.keep fun b _ hl => ⟨hb.block b hl, rfl⟩
end Go.Proofs.YtflklbhgjfonbaaGreatDoor.Sc

/- Laws as texts: one line more at the innermost item; one kid more at any level. -/
import Derived.Test.YtflklbhgjfonbaaGreatDoorScL
namespace Go.Proofs.YtflklbhgjfonbaaGreatDoor.Sc
open Go.RowKit Mem Nest Fk Err Lk

def setLv (lv : Nat → Lv) (k : Nat) (l : Lv) : Nat → Lv := fun i => if i = k then l else lv i
theorem setLv_at (lv : Nat → Lv) (k : Nat) (l : Lv) : setLv lv k l k = l := by simp [setLv]
theorem setLv_ne (lv : Nat → Lv) {k i : Nat} (l : Lv) (h : i ≠ k) : setLv lv k l i = lv i := by simp [setLv, h]
/-- a store into the last kid's header -/
theorem row_head {B : Nat} {col : Nat → Nat} {w : World} {g c n kc : Nat} {X H : List Value} {j : Nat} {v : Value} (h : Own B col w 26 4 c (.slice (some ⟨g, 0, none⟩) (n + 1) kc) (n + 1) (X ++ H)) (hX : X.length = n * 4) :
    Own B col (w.setCell ⟨g, n * 4 + j, none⟩ v) 26 4 c (.slice (some ⟨g, 0, none⟩) (n + 1) kc) (n + 1) (X ++ H.set j v) := by
  refine ⟨?_, h.2⟩
  have h1 := (h.1.stored (n * 4 + j) v).1
  rw [List.set_append_right _ _ (by omega), show n * 4 + j - X.length = j from by omega] at h1
  exact h1
theorem set_far {w : World} {a : Addr} {v : Value} {b : Nat} (h : b ≠ a.block) : (w.setCell a v).heap[b]? = w.heap[b]? := by
  simp [World.setCell, Array.getElem?_modify, Ne.symm h]
theorem SpL.adrc {B : Nat} {col : Nat → Nat} {w : World} {n : Nat} {lv : Nat → Lv} (h : SpL B col w n lv) {L0 : Nat} (hL : col L0 = 3) (hL2 : L0 < w.heap.size) (hB : B ≤ L0) : ∀ k, k ≤ n → (adr L0 lv k).block < w.heap.size ∧ B ≤ (adr L0 lv k).block ∧ (col (adr L0 lv k).block = 3 ∨ ∃ i, i < k ∧ col (adr L0 lv k).block = cK i)
  | 0, _ => ⟨hL2, hB, .inl hL⟩
  | k + 1, hk => by
    obtain ⟨g, e, h1, h2, h3⟩ := h.ka (k := k) (by omega)
    show (((lv k).KA.map (·.block)).getD 0) < _ ∧ B ≤ (((lv k).KA.map (·.block)).getD 0) ∧ (col (((lv k).KA.map (·.block)).getD 0) = 3 ∨ ∃ i, i < k + 1 ∧ col (((lv k).KA.map (·.block)).getD 0) = cK i)
    rw [e]
    exact ⟨h3, h2, .inr ⟨k, by omega, h1⟩⟩
/-- the levels above one that is changed: the world w2 is as w but for deeper blocks; then a cell of the header of level k turns -/
theorem SpL.above {B : Nat} {col col' : Nat → Nat} {w w2 : World} {n n' : Nat} {lv lv' : Nat → Lv} (h : SpL B col w n lv) {L0 : Nat} (hL : col L0 = 3) (h0 : Blk w L0 26 ((lv 0).hdr (decide (0 < n)))) (k : Nat) (hk : k ≤ n) (hkn : k ≤ n')
    (hw : ∀ b, (col b = 0 ∨ col b = 3 ∨ (10 ≤ col b ∧ col b < cK k)) → b < w.heap.size → w2.heap[b]? = w.heap[b]? ∧ col' b = col b) (hlv : ∀ i, i < k → lv' i = lv i) (c : Nat) (v : Value) (hh : (lv' k).hdr (decide (k < n')) = ((lv k).hdr (decide (k < n))).set c v) :
    (∀ i, i < k → RdR (w2.setCell ⟨(adr L0 lv k).block, (adr L0 lv k).off + c, none⟩ v) (fun b => col' b = 0) (lv' i).LA (strs (lv' i).lines) ∧ Own B col' (w2.setCell ⟨(adr L0 lv k).block, (adr L0 lv k).off + c, none⟩ v) 26 4 (cK i) (.slice (lv' i).KA ((lv' i).ks.length + 1) (lv' i).kc) ((lv' i).ks.length + 1) ((lv' i).rows.flatten ++ (lv' (i + 1)).hdr (decide (i + 1 < n')))) ∧
    Blk (w2.setCell ⟨(adr L0 lv k).block, (adr L0 lv k).off + c, none⟩ v) L0 26 ((lv' 0).hdr (decide (0 < n'))) := by
  have hL2 := h0.lt
  have hz : ∀ b, col b = 0 → b < w.heap.size → b ≠ (adr L0 lv k).block → (w2.setCell ⟨(adr L0 lv k).block, (adr L0 lv k).off + c, none⟩ v).heap[b]? = w.heap[b]? ∧ col' b = 0 := fun b hb hl hne => by
    obtain ⟨e1, e2⟩ := hw b (.inl hb) hl
    exact ⟨by rw [set_far (a := ⟨(adr L0 lv k).block, (adr L0 lv k).off + c, none⟩) hne]; exact e1, by rw [e2]; exact hb⟩
  have hcb : ∀ b, col b = 0 → b ≠ (adr L0 lv k).block := fun b hb e => by
    cases k with
    | zero => rw [e] at hb; rw [show (adr L0 lv 0).block = L0 from rfl, hL] at hb; cases hb
    | succ k =>
      obtain ⟨g, eg, h1, _⟩ := h.ka (k := k) (by omega)
      rw [e] at hb
      rw [show (adr L0 lv (k + 1)).block = ((lv k).KA.map (·.block)).getD 0 from rfl, eg] at hb
      have hb : col g = 0 := hb
      rw [h1] at hb
      unfold cK at hb
      omega
  refine ⟨fun i hi => ?_, ?_⟩
  · obtain ⟨hu1, hu2⟩ := h.up i (by omega)
    rw [hlv i hi]
    refine ⟨hu1.mono fun b hb hl => hz b hb hl (hcb b hb), ?_⟩
    obtain ⟨g, eg, h1, hgB, hgl⟩ := h.ka (k := i) (by omega)
    have hkeep : Own B col' w2 26 4 (cK i) (.slice (lv i).KA ((lv i).ks.length + 1) (lv i).kc) ((lv i).ks.length + 1) ((lv i).rows.flatten ++ (lv (i + 1)).hdr (decide (i + 1 < n))) := hu2.keep fun b hb hl => by
      obtain ⟨e1, e2⟩ := hw b (.inr (.inr ⟨by rw [hb]; unfold cK; omega, by rw [hb]; unfold cK; omega⟩)) hl
      exact ⟨e1, by rw [e2]; exact hb⟩
    by_cases e : i + 1 = k
    · subst e
      rw [show (adr L0 lv (i + 1)).block = ((lv i).KA.map (·.block)).getD 0 from rfl, show (adr L0 lv (i + 1)).off = (lv i).ks.length * 4 from rfl]
      rw [eg] at hkeep ⊢
      rw [hh]
      exact row_head hkeep (h.flat (by omega))
    · rw [hlv (i + 1) (by omega), show decide (i + 1 < n') = decide (i + 1 < n) from by rw [decide_eq_true (by omega : i + 1 < n'), decide_eq_true (by omega : i + 1 < n)]]
      refine hkeep.keep fun b hb hl => ⟨set_far ?_, hb⟩
      show b ≠ (adr L0 lv k).block
      intro eb
      cases k with
      | zero => omega
      | succ k =>
        obtain ⟨g2, eg2, h2, _, hl2⟩ := h.ka (k := k) (by omega)
        rw [show (adr L0 lv (k + 1)).block = ((lv k).KA.map (·.block)).getD 0 from rfl, eg2] at eb
        have eb : b = g2 := eb
        obtain ⟨_, e2⟩ := hw b (.inr (.inr ⟨by rw [eb, h2]; unfold cK; omega, by rw [eb, h2]; unfold cK; omega⟩)) (by rw [eb]; exact hl2)
        rw [e2, eb, h2] at hb
        unfold cK at hb
        omega
  · obtain ⟨e1, _⟩ := hw L0 (.inr (.inl hL)) hL2
    have hb2 : Blk w2 L0 26 ((lv 0).hdr (decide (0 < n))) := by
      unfold Blk at h0 ⊢
      rw [e1]
      exact h0
    cases k with
    | zero =>
      rw [show (adr L0 lv 0).block = L0 from rfl, show (adr L0 lv 0).off = 0 from rfl, Nat.zero_add, hh]
      exact hb2.set c v
    | succ k =>
      rw [show decide (0 < n') = decide (0 < n) from by rw [decide_eq_true (by omega : 0 < n'), decide_eq_true (by omega : 0 < n)], hlv 0 (by omega)]
      unfold Blk at hb2 ⊢
      rw [set_far]
      · exact hb2
      · intro eb
        obtain ⟨g2, eg2, h2, _⟩ := h.ka (k := k) (by omega)
        rw [show (adr L0 lv (k + 1)).block = ((lv k).KA.map (·.block)).getD 0 from rfl, eg2] at eb
        have eb : L0 = g2 := eb
        rw [eb, h2] at hL
        unfold cK at hL
        omega
def withLine (l : Lv) (x : Tx) (g c : Nat) : Lv := { l with lines := l.lines ++ [x], LA := some ⟨g, 0, none⟩, lc := c }
/-- one line more at the innermost item: the row is appended to, then the header turns -/
theorem SpL.line {B : Nat} {col : Nat → Nat} {w w2 : World} {n : Nat} {lv : Nat → Lv} (h : SpL B col w n lv) (hn : n ≤ 8) {L0 : Nat} (hL : col L0 = 3) (hB : B ≤ L0) (h0 : Blk w L0 26 ((lv 0).hdr (decide (0 < n)))) (x : Tx) (hx : (lv n).lines.length < 1000) (g5 c5 : Nat)
    (ho : w2.ownsRow B 9 1 (.slice (some ⟨g5, 0, none⟩) ((lv n).lines.length + 1) c5) ((lv n).lines.length + 1) (strs (lv n).lines ++ [.string ⟨x.toArray⟩]))
    (hg : w.grownBy w2 (Value.slice (lv n).LA (lv n).lines.length (lv n).lc).ownBlock) (hA : (Value.slice (lv n).LA (lv n).lines.length (lv n).lc).ownBlock = some g5 ∨ g5 = w.heap.size) :
    ∃ col' : Nat → Nat, (∀ b, b < w.heap.size → col' b = col b) ∧ SpL B col' (w2.setCell ⟨(adr L0 lv n).block, (adr L0 lv n).off + 2, none⟩ (.slice (some ⟨g5, 0, none⟩) ((lv n).lines.length + 1) c5)) n (setLv lv n (withLine (lv n) x g5 c5)) ∧
      Blk (w2.setCell ⟨(adr L0 lv n).block, (adr L0 lv n).off + 2, none⟩ (.slice (some ⟨g5, 0, none⟩) ((lv n).lines.length + 1) c5)) L0 26 ((setLv lv n (withLine (lv n) x g5 c5) 0).hdr (decide (0 < n))) := by
  obtain ⟨col', hc'⟩ : ∃ col' : Nat → Nat, col' = fun b => if b < w.heap.size then col b else 1000 := ⟨_, rfl⟩
  have hco : ∀ b, b < w.heap.size → col' b = col b := fun b hb => by rw [hc']; exact if_pos hb
  obtain ⟨ha1, _, ha3⟩ := h.adrc hL h0.lt hB n (Nat.le_refl _)
  have hne : ∀ b, b < w.heap.size → col b ≠ 1000 → w2.heap[b]? = w.heap[b]? := fun b hb hc => hg.block b hb fun e => hc (h.lines.2 b e.symm)
  have hw : ∀ b, (col b = 0 ∨ col b = 3 ∨ (10 ≤ col b ∧ col b < cK n)) → b < w.heap.size → w2.heap[b]? = w.heap[b]? ∧ col' b = col b := fun b hb hl => ⟨hne b hl (by unfold cK at hb; omega), hco b hl⟩
  have hab : ∀ b, (col b = 0 ∨ cK n ≤ col b) → b ≠ (adr L0 lv n).block := fun b hb e => by
    rw [e] at hb
    unfold cK at ha3 hb
    rcases ha3 with ha3 | ⟨i, hi, ha3⟩ <;> omega
  have hz : ∀ b, col b = 0 → b < w.heap.size → (w2.setCell ⟨(adr L0 lv n).block, (adr L0 lv n).off + 2, none⟩ (.slice (some ⟨g5, 0, none⟩) ((lv n).lines.length + 1) c5)).heap[b]? = w.heap[b]? ∧ col' b = 0 := fun b hb hl => ⟨by rw [set_far (a := ⟨(adr L0 lv n).block, (adr L0 lv n).off + 2, none⟩) (hab b (.inl hb))]; exact (hw b (.inl hb) hl).1, by rw [hco b hl]; exact hb⟩
  have hgc : col' g5 = 1000 := by
    rcases hA with e | e
    · rw [hco g5 (h.lines.1.lt g5 e).2]
      exact h.lines.2 g5 e
    · rw [hc', e]
      exact if_neg (Nat.lt_irrefl _)
  have habv := h.above (n' := n) (lv' := setLv lv n (withLine (lv n) x g5 c5)) (col' := col') (w2 := w2) hL h0 n (Nat.le_refl _) (Nat.le_refl _) hw (fun i hi => setLv_ne lv _ (by omega)) 2 (.slice (some ⟨g5, 0, none⟩) ((lv n).lines.length + 1) c5) (by
    rw [setLv_at]
    simp [Lv.hdr, withLine])
  refine ⟨col', hco, ⟨fun k hk => ?_, fun k hk j q s hq hs => ?_, fun k hk => ?_, habv.1, ?_, ?_⟩, habv.2⟩
  · by_cases e : k = n
    · subst e
      rw [setLv_at]
      exact h.rl k hk
    · rw [setLv_ne lv _ e]
      exact h.rl k hk
  · by_cases e : k = n
    · subst e
      rw [setLv_at] at hq hs
      exact (h.kids k hk j q s hq hs).mono hz
    · rw [setLv_ne lv _ e] at hq hs
      exact (h.kids k hk j q s hq hs).mono hz
  · by_cases e : k = n
    · subst e
      rw [setLv_at]
      exact ⟨by simp only [withLine, List.length_append, List.length_singleton]; omega, (h.bd k hk).2⟩
    · rw [setLv_ne lv _ e]
      exact h.bd k hk
  · rw [setLv_at]
    have h1 : Own B col' w2 9 1 1000 (.slice (some ⟨g5, 0, none⟩) ((lv n).lines.length + 1) c5) ((lv n).lines.length + 1) (strs (lv n).lines ++ [.string ⟨x.toArray⟩]) := ⟨ho, fun g hg' => by
      have e : some g5 = some g := hg'
      simp only [Option.some.injEq] at e
      rw [← e]
      exact hgc⟩
    have h2 := h1.keep (col' := col') (w' := w2.setCell ⟨(adr L0 lv n).block, (adr L0 lv n).off + 2, none⟩ (.slice (some ⟨g5, 0, none⟩) ((lv n).lines.length + 1) c5)) fun b hb hl => ⟨set_far (fun e => by
      have e : b = (adr L0 lv n).block := e
      rw [e, hco _ ha1] at hb
      unfold cK at ha3
      rcases ha3 with ha3 | ⟨i, hi, ha3⟩ <;> omega), hb⟩
    simpa [withLine, strs_app, strs] using h2
  · rw [setLv_at]
    exact h.inn.keep fun b hb hl => ⟨by
      rw [set_far (a := ⟨(adr L0 lv n).block, (adr L0 lv n).off + 2, none⟩) (hab b (.inr (by omega)))]
      exact hne b hl (by rw [hb]; unfold cK; omega), by rw [hco b hl]; exact hb⟩
theorem tree_line (lv : Nat → Lv) (n : Nat) (x : Tx) (g c : Nat) : upd (addLine x) n (treeL lv n 0) = treeL (setLv lv n (withLine (lv n) x g c)) n 0 := by
  refine upd_tree _ lv _ 0 n n 0 (Nat.le_refl _) (fun i h1 h2 => setLv_ne lv _ (by omega)) ?_
  rw [Nat.sub_self, Nat.zero_add]
  simp [treeL, addLine, setLv_at, withLine]
/-- the kids' row of a level as it lies: what is closed, and the open kid's header -/
def rowsO (lv : Nat → Lv) (n j : Nat) : List (List Value) := (lv j).rows ++ (if j < n then [(lv (j + 1)).hdr (decide (j + 1 < n))] else [])
def withKids (l : Lv) (ks : List It) (rows : List (List Value)) (g c : Nat) : Lv := { l with ks := ks, rows := rows, KA := some ⟨g, 0, none⟩, kc := c }
def newLv (nm tx : Tx) : Lv := ⟨nm, tx, [], [], [], none, 0, none, 0⟩
def lvK (lv : Nat → Lv) (n j : Nat) (nm tx : Tx) (g c : Nat) : Nat → Lv := setLv (setLv lv j (withKids (lv j) (treeL lv (n - j) j).kids (rowsO lv n j) g c)) (j + 1) (newLv nm tx)
theorem lvK_lt (lv : Nat → Lv) (n : Nat) {j i : Nat} (nm tx : Tx) (g c : Nat) (h : i < j) : lvK lv n j nm tx g c i = lv i := by
  unfold lvK
  rw [setLv_ne _ _ (by omega), setLv_ne _ _ (by omega)]
theorem lvK_at (lv : Nat → Lv) (n j : Nat) (nm tx : Tx) (g c : Nat) : lvK lv n j nm tx g c j = withKids (lv j) (treeL lv (n - j) j).kids (rowsO lv n j) g c := by
  unfold lvK
  rw [setLv_ne _ _ (by omega), setLv_at]
theorem lvK_new (lv : Nat → Lv) (n j : Nat) (nm tx : Tx) (g c : Nat) : lvK lv n j nm tx g c (j + 1) = newLv nm tx := by
  unfold lvK
  rw [setLv_at]
theorem kids_len (lv : Nat → Lv) {n j : Nat} (h : j ≤ n) : (treeL lv (n - j) j).kids.length = (lv j).ks.length + (decide (j < n)).toNat := by
  by_cases e : j < n
  · obtain ⟨m, hm⟩ : ∃ m, n - j = m + 1 := ⟨n - j - 1, by omega⟩
    rw [hm, decide_eq_true e]
    simp [treeL]
  · rw [show n - j = 0 from by omega, decide_eq_false e]
    simp [treeL]
theorem SpL.own {B : Nat} {col : Nat → Nat} {w : World} {n : Nat} {lv : Nat → Lv} (h : SpL B col w n lv) {j : Nat} (hj : j ≤ n) : Own B col w 26 4 (cK j) (.slice (lv j).KA ((lv j).ks.length + (decide (j < n)).toNat) (lv j).kc) ((lv j).ks.length + (decide (j < n)).toNat) (rowsO lv n j).flatten := by
  unfold rowsO
  by_cases e : j < n
  · rw [decide_eq_true e, if_pos e, List.flatten_append, List.flatten_singleton]
    exact (h.up j e).2
  · obtain rfl : j = n := by omega
    rw [decide_eq_false e, if_neg e, List.append_nil]
    exact h.inn
/-- one kid more at a level: what lay deeper closes -/
theorem SpL.kid {B : Nat} {col : Nat → Nat} {w w2 : World} {n : Nat} {lv : Nat → Lv} (h : SpL B col w n lv) (hn : n ≤ 8) {L0 : Nat} (hL : col L0 = 3) (hB : B ≤ L0) (h0 : Blk w L0 26 ((lv 0).hdr (decide (0 < n)))) (j : Nat) (hj : j ≤ n) (nm tx : Tx) (hm : (lv j).ks.length + (decide (j < n)).toNat < 1000) (g5 c5 : Nat)
    (ho : w2.ownsRow B 26 4 (.slice (some ⟨g5, 0, none⟩) ((lv j).ks.length + (decide (j < n)).toNat + 1) c5) ((lv j).ks.length + (decide (j < n)).toNat + 1) ((rowsO lv n j).flatten ++ (newLv nm tx).hdr false))
    (hg : ∀ b, b < w.heap.size → some b ≠ (Value.slice (lv j).KA ((lv j).ks.length + (decide (j < n)).toNat) (lv j).kc).ownBlock → w2.heap[b]? = w.heap[b]?)
    (hA : (Value.slice (lv j).KA ((lv j).ks.length + (decide (j < n)).toNat) (lv j).kc).ownBlock = some g5 ∨ w.heap.size ≤ g5) :
    ∃ col' : Nat → Nat, (∀ b, b < w.heap.size → col b < 10 → col' b = col b) ∧ SpL B col' (w2.setCell ⟨(adr L0 lv j).block, (adr L0 lv j).off + 3, none⟩ (.slice (some ⟨g5, 0, none⟩) ((lv j).ks.length + (decide (j < n)).toNat + 1) c5)) (j + 1) (lvK lv n j nm tx g5 c5) ∧
      Blk (w2.setCell ⟨(adr L0 lv j).block, (adr L0 lv j).off + 3, none⟩ (.slice (some ⟨g5, 0, none⟩) ((lv j).ks.length + (decide (j < n)).toNat + 1) c5)) L0 26 ((lvK lv n j nm tx g5 c5 0).hdr (decide (0 < j + 1))) := by
  have hown := h.own hj
  have hkl := kids_len lv hj
  obtain ⟨M, hM⟩ : ∃ M, M = (lv j).ks.length + (decide (j < n)).toNat := ⟨_, rfl⟩
  rw [← hM] at hown hm ho hg hA hkl ⊢
  obtain ⟨col', hc'⟩ : ∃ col' : Nat → Nat, col' = fun b => if b < w.heap.size then (if cK j < col b then 0 else col b) else cK j := ⟨_, rfl⟩
  have hcl : ∀ b, b < w.heap.size → cK j < col b → col' b = 0 := fun b hb hc => by rw [hc']; simp only [if_pos hb, if_pos hc]
  have hco : ∀ b, b < w.heap.size → ¬ cK j < col b → col' b = col b := fun b hb hc => by rw [hc']; simp only [if_pos hb, if_neg hc]
  obtain ⟨ha1, _, ha3⟩ := h.adrc hL h0.lt hB j hj
  have hne : ∀ b, b < w.heap.size → col b ≠ cK j → w2.heap[b]? = w.heap[b]? := fun b hb hc => hg b hb fun e => hc (hown.2 b e.symm)
  have hw : ∀ b, (col b = 0 ∨ col b = 3 ∨ (10 ≤ col b ∧ col b < cK j)) → b < w.heap.size → w2.heap[b]? = w.heap[b]? ∧ col' b = col b := fun b hb hl => ⟨hne b hl (by unfold cK at hb ⊢; omega), hco b hl (by unfold cK at hb ⊢; omega)⟩
  have hab : ∀ b, (col b = 0 ∨ cK j ≤ col b) → b ≠ (adr L0 lv j).block := fun b hb e => by
    rw [e] at hb
    unfold cK at ha3 hb
    rcases ha3 with ha3 | ⟨i, hi, ha3⟩ <;> omega
  obtain ⟨w3, hw3⟩ : ∃ w3, w3 = w2.setCell ⟨(adr L0 lv j).block, (adr L0 lv j).off + 3, none⟩ (.slice (some ⟨g5, 0, none⟩) (M + 1) c5) := ⟨_, rfl⟩
  have hfar : ∀ b, b ≠ (adr L0 lv j).block → w3.heap[b]? = w2.heap[b]? := fun b hb => by rw [hw3]; exact set_far (a := ⟨(adr L0 lv j).block, (adr L0 lv j).off + 3, none⟩) hb
  have hz : ∀ b, (col b = 0 ∨ cK j < col b) → b < w.heap.size → w3.heap[b]? = w.heap[b]? ∧ col' b = 0 := fun b hb hl => by
    refine ⟨?_, ?_⟩
    · rw [hfar b (hab b (by omega))]
      exact hne b hl (by unfold cK at hb ⊢; omega)
    · rcases hb with hb | hb
      · rw [hco b hl (by unfold cK; omega)]; exact hb
      · exact hcl b hl hb
  have hz0 : ∀ b, col b = 0 → b < w.heap.size → w3.heap[b]? = w.heap[b]? ∧ col' b = 0 := fun b hb hl => hz b (.inl hb) hl
  have hgc : col' g5 = cK j := by
    rcases hA with e | e
    · have hl := (hown.1.lt g5 e).2
      have hc := hown.2 g5 e
      rw [hco g5 hl (by rw [hc]; exact Nat.lt_irrefl _)]
      exact hc
    · rw [hc']
      exact if_neg (by omega)
  have habv := h.above (n' := j + 1) (lv' := lvK lv n j nm tx g5 c5) (col' := col') (w2 := w2) hL h0 j hj (by omega) hw (fun i hi => lvK_lt lv n nm tx g5 c5 hi) 3 (.slice (some ⟨g5, 0, none⟩) (M + 1) c5) (by
    rw [lvK_at, decide_eq_true (by omega : j < j + 1)]
    simp [Lv.hdr, withKids, hkl])
  rw [← hw3] at habv ⊢
  have hrl : (rowsO lv n j).length = (treeL lv (n - j) j).kids.length := by
    rw [hkl, hM]
    unfold rowsO
    rw [List.length_append, h.rl j hj]
    by_cases e : j < n
    · rw [if_pos e, decide_eq_true e]; rfl
    · rw [if_neg e, decide_eq_false e]; rfl
  refine ⟨col', fun b hb hc => hco b hb (by unfold cK; omega), ⟨fun k hk => ?_, fun k hk i q s hq hs => ?_, fun k hk => ?_, fun k hk => ?_, ?_, ?_⟩, habv.2⟩
  · rcases Nat.lt_or_ge k j with e | e
    · rw [lvK_lt lv n nm tx g5 c5 e]
      exact h.rl k (by omega)
    · rcases Nat.lt_or_ge j k with e2 | e2
      · obtain rfl : k = j + 1 := by omega
        rw [lvK_new]
        rfl
      · obtain rfl : k = j := by omega
        rw [lvK_at]
        exact hrl
  · rcases Nat.lt_or_ge k j with e | e
    · rw [lvK_lt lv n nm tx g5 c5 e] at hq hs
      exact (h.kids k (by omega) i q s hq hs).mono hz0
    · rcases Nat.lt_or_ge j k with e2 | e2
      · obtain rfl : k = j + 1 := by omega
        rw [lvK_new] at hq
        simp [newLv] at hq
      · obtain rfl : k = j := by omega
        rw [lvK_at] at hq hs
        replace hq : (treeL lv (n - k) k).kids[i]? = some q := hq
        replace hs : (rowsO lv n k)[i]? = some s := hs
        unfold rowsO at hs
        by_cases e3 : k < n
        · obtain ⟨m, hm3⟩ : ∃ m, n - k = m + 1 := ⟨n - k - 1, by omega⟩
          rw [hm3] at hq
          simp only [treeL] at hq
          rw [if_pos e3] at hs
          by_cases hi : i < (lv k).ks.length
          · rw [List.getElem?_append_left hi] at hq
            rw [List.getElem?_append_left (by rw [h.rl k hj]; exact hi)] at hs
            exact (h.kids k hj i q s hq hs).mono hz0
          · rw [List.getElem?_append_right (by omega)] at hq
            rw [List.getElem?_append_right (by rw [h.rl k hj]; omega), h.rl k hj] at hs
            have e4 : i - (lv k).ks.length = 0 := by
              rcases Nat.eq_zero_or_pos (i - (lv k).ks.length) with e | e
              · exact e
              · rw [List.getElem?_eq_none (by simp; omega)] at hq
                cases hq
            rw [e4] at hq hs
            simp only [List.getElem?_cons_zero, Option.some.injEq] at hq hs
            subst hq hs
            rw [show 9 - k = 10 - (k + 1) from by omega]
            exact (h.close hn (fun b => col b = 0 ∨ cK k < col b) (fun b hb => .inl hb) (fun b hb => .inr (by rw [hb]; unfold cK; omega)) m (k + 1) (by omega) (fun b i h1 h2 h3 => .inr (by rw [h3]; unfold cK; omega))).mono hz
        · rw [show n - k = 0 from by omega] at hq
          simp only [treeL] at hq
          rw [if_neg e3, List.append_nil] at hs
          exact (h.kids k hj i q s hq hs).mono hz0
  · rcases Nat.lt_or_ge k j with e | e
    · rw [lvK_lt lv n nm tx g5 c5 e]
      exact h.bd k (by omega)
    · rcases Nat.lt_or_ge j k with e2 | e2
      · obtain rfl : k = j + 1 := by omega
        rw [lvK_new]
        exact ⟨by simp [newLv], by simp [newLv]⟩
      · obtain rfl : k = j := by omega
        rw [lvK_at]
        exact ⟨(h.bd k hj).1, by show (treeL lv (n - k) k).kids.length ≤ 1000; omega⟩
  · rcases Nat.lt_or_ge k j with e | e
    · exact habv.1 k e
    · obtain rfl : k = j := by omega
      rw [lvK_at, lvK_new]
      refine ⟨?_, ?_⟩
      · show RdR w3 (fun b => col' b = 0) (lv k).LA (strs (lv k).lines)
        by_cases e3 : k < n
        · exact (h.up k e3).1.mono hz0
        · obtain rfl : k = n := by omega
          exact (RdR.of_own (R := fun b => col b = 1000) h.lines.1 (fun g hg' => h.lines.2 g hg')).mono fun b hb hl => hz b (.inr (by rw [hb]; unfold cK; omega)) hl
      · have h1 : Own B col' w2 26 4 (cK k) (.slice (some ⟨g5, 0, none⟩) (M + 1) c5) (M + 1) ((rowsO lv n k).flatten ++ (newLv nm tx).hdr false) := ⟨ho, fun g hg' => by
          have e : some g5 = some g := hg'
          simp only [Option.some.injEq] at e
          rw [← e]
          exact hgc⟩
        have h2 := h1.keep (col' := col') (w' := w3) fun b hb hl => ⟨hfar b (fun e => by
          rw [e, hco _ ha1 (by unfold cK at ha3 ⊢; rcases ha3 with ha3 | ⟨i, hi, ha3⟩ <;> omega)] at hb
          unfold cK at ha3 hb
          rcases ha3 with ha3 | ⟨i, hi, ha3⟩ <;> omega), hb⟩
        rw [← hkl] at h2
        simpa [withKids] using h2
  · rw [lvK_new]
    exact ⟨World.ownsRow_nil _ _ _ _, fun g hg' => by cases hg'⟩
  · rw [lvK_new]
    exact ⟨World.ownsRow_nil _ _ _ _, fun g hg' => by cases hg'⟩
theorem tree_kid (lv : Nat → Lv) (n j : Nat) (hj : j ≤ n) (nm tx : Tx) (g c : Nat) : upd (addKid ⟨nm, tx, [], []⟩) j (treeL lv n 0) = treeL (lvK lv n j nm tx g c) (j + 1) 0 := by
  refine upd_tree _ lv _ 1 j n 0 hj (fun i h1 h2 => lvK_lt lv n nm tx g c (by omega)) ?_
  rw [Nat.zero_add]
  simp only [treeL, addKid, lvK_at, lvK_new, withKids, newLv]
  cases h : n - j with
  | zero => simp [treeL]
  | succ m => simp [treeL]
end Go.Proofs.YtflklbhgjfonbaaGreatDoor.Sc

/- Laws as texts: the program's reader: what it holds, and how it changes. -/
import Derived.Test.YtflklbhgjfonbaaGreatDoorScM
import Derived.Test.YtflklbhgjfonbaaGreatDoorScW
namespace Go.Proofs.YtflklbhgjfonbaaGreatDoor.Sc
open Go.RowKit Mem Nest Fk Err Lk Gp

def ptrs (L0 : Nat) (lv : Nat → Lv) (n : Nat) : List Value := (List.range (n + 1)).map fun k => .pointer (some (adr L0 lv k))
/-- the reader at block rb; colours: 1: the reader; 2: its row of pointers; 3: the law -/
structure Rdr (B : Nat) (col : Nat → Nat) (w : World) (rb L0 n m : Nat) (lv : Nat → Lv) : Prop where
  sp : SpL B col w n lv
  l0 : Blk w L0 26 ((lv 0).hdr (decide (0 < n)))
  cl : col L0 = 3
  hB : B ≤ L0
  rd : ∃ PA pc, Blk w rb 103 [.slice PA (n + 1) pc, .int .i64 (m : Int)] ∧ Own B col w 58 1 2 (.slice PA (n + 1) pc) (n + 1) (ptrs L0 lv n)
  cr : col rb = 1
  hR : B ≤ rb
  n6 : n ≤ 6
  m3 : m ≤ 300
  km : ∀ k, k ≤ n → (lv k).ks.length + (decide (k < n)).toNat ≤ m
theorem Rdr.ext {B : Nat} {col : Nat → Nat} {w w' : World} {rb L0 n m : Nat} {lv : Nat → Lv} (h : Rdr B col w rb L0 n m lv) (hb : Below w.heap.size w w') : Rdr B col w' rb L0 n m lv := by
  obtain ⟨PA, pc, h1, h2⟩ := h.rd
  exact ⟨h.sp.ext hb, blk_ext2 h.l0 hb, h.cl, h.hB, ⟨PA, pc, blk_ext2 h1 hb, h2.keep fun b hc hl => ⟨hb.block b hl, hc⟩⟩, h.cr, h.hR, h.n6, h.m3, h.km⟩
theorem Rdr.ptr {B : Nat} {col : Nat → Nat} {w : World} {rb L0 n m : Nat} {lv : Nat → Lv} (h : Rdr B col w rb L0 n m lv) : ∃ pg pc, w.cell? ⟨rb, 0, none⟩ = some (.slice (some ⟨pg, 0, none⟩) (n + 1) pc) ∧ w.cell? ⟨rb, 1, none⟩ = some (.int .i64 (m : Int)) ∧ ∀ k, k ≤ n → w.cell? ⟨pg, k, none⟩ = some (.pointer (some (adr L0 lv k))) := by
  obtain ⟨PA, pc, h1, h2⟩ := h.rd
  obtain ⟨g, cap, hv, _, _⟩ := World.ownsRow.form h2.1 (by omega)
  simp only [Value.slice.injEq] at hv
  obtain ⟨rfl, _, rfl⟩ := hv
  refine ⟨g, pc, h1.cell 0 rfl, h1.cell 1 rfl, fun k hk => ?_⟩
  rw [h2.1.cellAt k (by omega)]
  simp [ptrs, List.getElem?_map, List.getElem?_range (show k < n + 1 by omega)]
/-- what other parts of the reading stay: blocks of colours 4 to 9 -/
def Kept (B : Nat) (col col' : Nat → Nat) (w w' : World) : Prop := (w'.os = w.os ∧ w'.tape = w.tape ∧ w'.output = w.output ∧ w.heap.size ≤ w'.heap.size ∧ ∀ b, b < B → b < w.heap.size → w'.heap[b]? = w.heap[b]?) ∧ ∀ b, b < w.heap.size → 4 ≤ col b → col b < 10 → w'.heap[b]? = w.heap[b]? ∧ col' b = col b
def RowP (E : Nat → Addr) (B : Nat) (col : Nat → Nat) (rb L0 n m : Nat) (lv : Nat → Lv) (s : Tx) (w : World) (e : Ending) (w' : World) : Prop :=
  ∃ (c : Int) (st : St), rowF ⟨treeL lv n 0, n, m⟩ s = (c, st) ∧ e = .returned (errI E c) ∧ ((c ≠ 0 ∧ Below w.heap.size w w') ∨ (c = 0 ∧ ∃ (col' : Nat → Nat) (lv' : Nat → Lv), Rdr B col' w' rb L0 st.n st.m lv' ∧ st.t = treeL lv' st.n 0 ∧ Kept B col col' w w'))
theorem rowp_bad {E : Nat → Addr} {B : Nat} {col : Nat → Nat} {rb L0 n m : Nat} {lv : Nat → Lv} {s : Tx} {w w' : World} (c : Int) (v : Value) (hv : v = errI E c) (h : rowF ⟨treeL lv n 0, n, m⟩ s = (c, ⟨treeL lv n 0, n, m⟩)) (hc : c ≠ 0) (hb : Below w.heap.size w w') : RowP E B col rb L0 n m lv s w (.returned v) w' :=
  ⟨c, _, h, by rw [hv], .inl ⟨hc, hb⟩⟩
theorem lead_body (s : Tx) : leadF s + (bodyF s).length = s.length := by
  unfold leadF bodyF
  rw [← List.length_append, List.takeWhile_append_dropWhile]
theorem row_deep {st : St} {s : Tx} (hp : prnB s = true) (h : leadF s % 2 = 1 ∨ st.n < leadF s / 2) : rowF st s = (1, st) := by
  unfold rowF
  rw [if_neg (by rw [hp]; decide), if_pos h]
theorem row_line {st : St} {s b : Tx} (hp : prnB s = true) (h : ¬ (leadF s % 2 = 1 ∨ st.n < leadF s / 2)) (hb : bodyF s = 124 :: b) : rowF st s = if leadF s / 2 ≠ st.n then (1, st) else lineRow st b := by
  unfold rowF
  rw [if_neg (by rw [hp]; decide), if_neg h, hb]
  rfl
theorem row_item {st : St} {s : Tx} (hp : prnB s = true) (h : ¬ (leadF s % 2 = 1 ∨ st.n < leadF s / 2)) (hb : Lib.hasPrefix (bodyF s) [124] = false) : rowF st s = itemRow st (leadF s / 2) (bodyF s) := by
  unfold rowF
  rw [if_neg (by rw [hp]; decide), if_neg h]
  split
  · rename_i b e
    rw [e] at hb
    simp [Lib.hasPrefix] at hb
  · rfl
theorem adr_form (L0 : Nat) (lv : Nat → Lv) : ∀ k, adr L0 lv k = ⟨(adr L0 lv k).block, (adr L0 lv k).off, none⟩
  | 0 => rfl
  | _ + 1 => rfl
theorem adr_congr {L0 : Nat} {lv lv' : Nat → Lv} : ∀ {k : Nat}, (∀ i, i < k → lv' i = lv i) → adr L0 lv' k = adr L0 lv k
  | 0, _ => rfl
  | k + 1, h => by simp only [adr, h k (by omega)]
theorem ptrs_congr {L0 n : Nat} {lv lv' : Nat → Lv} (h : ∀ i, i < n → lv' i = lv i) : ptrs L0 lv' n = ptrs L0 lv n := by
  unfold ptrs
  refine List.map_congr_left fun k hk => ?_
  rw [List.mem_range] at hk
  rw [adr_congr fun i hi => h i (by omega)]
theorem str_infoR : (Tryz.prog.info? 9).map (fun i => (i.zero, i.size, i.bytes)) = some (some (.string ByteArray.empty), 1, 16) := by kernel_rfl
theorem it_infoR : (Tryz.prog.info? 26).map (fun i => (i.zero, i.size, i.bytes)) = some (some (.agg #[.string ⟨#[]⟩, .string ⟨#[]⟩, .slice none 0 0, .slice none 0 0]), 4, 80) := by kernel_rfl
/-- the reader behind a line more -/
theorem Rdr.line {B : Nat} {col : Nat → Nat} {w w0 w7 : World} {rb L0 n m : Nat} {lv : Nat → Lv} (h : Rdr B col w rb L0 n m lv) (h0 : Below w0.heap.size w0 w) (_ : B ≤ w0.heap.size) (x : Tx) (hx : (lv n).lines.length < 1000) (g5 c5 : Nat)
    (ho : w7.ownsRow B 9 1 (.slice (some ⟨g5, 0, none⟩) ((lv n).lines.length + 1) c5) ((lv n).lines.length + 1) (strs (lv n).lines ++ [.string ⟨x.toArray⟩]))
    (hg : w.grownBy w7 (Value.slice (lv n).LA (lv n).lines.length (lv n).lc).ownBlock) (hA : (Value.slice (lv n).LA (lv n).lines.length (lv n).lc).ownBlock = some g5 ∨ g5 = w.heap.size) :
    ∃ (col' : Nat → Nat) (lv' : Nat → Lv), Rdr B col' (w7.setCell ⟨(adr L0 lv n).block, (adr L0 lv n).off + 2, none⟩ (.slice (some ⟨g5, 0, none⟩) ((lv n).lines.length + 1) c5)) rb L0 n m lv' ∧ upd (addLine x) n (treeL lv n 0) = treeL lv' n 0 ∧
      Kept B col col' w0 (w7.setCell ⟨(adr L0 lv n).block, (adr L0 lv n).off + 2, none⟩ (.slice (some ⟨g5, 0, none⟩) ((lv n).lines.length + 1) c5)) := by
  obtain ⟨col', hc1, hsp, hl0⟩ := h.sp.line (by have := h.n6; omega) h.cl h.hB h.l0 x hx g5 c5 ho hg hA
  obtain ⟨ha1, haB, ha3⟩ := h.sp.adrc h.cl h.l0.lt h.hB n (Nat.le_refl _)
  obtain ⟨w9, hw9⟩ : ∃ w9, w9 = w7.setCell ⟨(adr L0 lv n).block, (adr L0 lv n).off + 2, none⟩ (.slice (some ⟨g5, 0, none⟩) ((lv n).lines.length + 1) c5) := ⟨_, rfl⟩
  rw [← hw9] at hsp hl0 ⊢
  have hfr : ∀ b, b < w.heap.size → col b < 10 → col b ≠ 0 → col b ≠ 3 → w9.heap[b]? = w.heap[b]? := fun b hl h1 h2 h3 => by
    rw [hw9, set_far (a := ⟨(adr L0 lv n).block, (adr L0 lv n).off + 2, none⟩) (fun e => by
      have e : b = (adr L0 lv n).block := e
      rw [← e] at ha3
      unfold cK at ha3
      rcases ha3 with ha3 | ⟨i, hi, ha3⟩ <;> omega)]
    exact hg.block b hl fun e => by have := h.sp.lines.2 b e.symm; omega
  obtain ⟨PA, pc, h1, h2⟩ := h.rd
  refine ⟨col', _, ⟨hsp, hl0, by rw [hc1 L0 h.l0.lt]; exact h.cl, h.hB, ⟨PA, pc, ?_, ?_⟩, by rw [hc1 rb h1.lt]; exact h.cr, h.hR, h.n6, h.m3, fun k hk => by
    by_cases e : k = n
    · subst e; rw [setLv_at]; exact h.km k hk
    · rw [setLv_ne lv _ e]; exact h.km k hk⟩, tree_line lv n x g5 c5, ⟨?_, ?_⟩⟩
  · unfold Blk at h1 ⊢
    rw [hfr rb (Array.getElem?_eq_some_iff.1 h1).1 (by rw [h.cr]; omega) (by rw [h.cr]; omega) (by rw [h.cr]; omega)]
    exact h1
  · rw [ptrs_congr fun i hi => setLv_ne lv _ (by omega)]
    exact h2.keep fun b hb hl => ⟨hfr b hl (by omega) (by omega) (by omega), by rw [hc1 b hl]; exact hb⟩
  · refine ⟨by rw [hw9]; exact hg.os.trans h0.os, by rw [hw9]; exact hg.tape.trans h0.tape, by rw [hw9]; exact hg.output.trans h0.output, by rw [hw9]; have := hg.size; have := h0.size; simp; omega, fun b hb hl => ?_⟩
    rw [← h0.block b hl, hw9, set_far (a := ⟨(adr L0 lv n).block, (adr L0 lv n).off + 2, none⟩) (fun e => by have e : b = (adr L0 lv n).block := e; omega)]
    exact hg.block b (Nat.lt_of_lt_of_le hl h0.size) fun e => by have := (h.sp.lines.1.lt b e.symm).1; omega
  · intro b hl h4 h10
    have hl2 := Nat.lt_of_lt_of_le hl h0.size
    exact ⟨by rw [hfr b hl2 h10 (by omega) (by omega)]; exact h0.block b hl, hc1 b hl2⟩
theorem idx_name : ∀ r : Tx, (Lib.indexByte r 32 = -1 ∧ nameF r = r ∧ restF r = []) ∨ (Lib.indexByte r 32 = ((nameF r).length : Int) ∧ (nameF r).length ≤ r.length ∧ r.take (nameF r).length = nameF r ∧ r.drop (nameF r).length = restF r)
  | [] => .inl ⟨rfl, rfl, rfl⟩
  | c :: t => by
    by_cases hc : c = 32
    · subst hc
      exact .inr ⟨by simp [Lib.indexByte, nameF], by simp [nameF], by simp [nameF], by simp [nameF, restF]⟩
    · have e1 : nameF (c :: t) = c :: nameF t := by simp [nameF, hc]
      have e2 : restF (c :: t) = restF t := by simp [restF, hc]
      have e3 : Lib.indexByte (c :: t) 32 = if Lib.indexByte t 32 == -1 then -1 else Lib.indexByte t 32 + 1 := by
        rw [Lib.indexByte, if_neg (by simpa using hc)]
      rcases idx_name t with ⟨h1, h2, h3⟩ | ⟨h1, h2, h3, h4⟩
      · exact .inl ⟨by rw [e3, h1]; rfl, by rw [e1, h2], by rw [e2, h3]⟩
      · refine .inr ⟨?_, ?_, ?_, ?_⟩
        · rw [e3, h1, if_neg (by rw [beq_iff_eq]; omega), e1, List.length_cons]
          omega
        · rw [e1, List.length_cons, List.length_cons]
          omega
        · rw [e1, List.length_cons, List.take_succ_cons, h3]
        · rw [e1, e2, List.length_cons, List.drop_succ_cons, h4]
/-- one item more is counted -/
theorem Rdr.inc {B : Nat} {col : Nat → Nat} {w : World} {rb L0 n m : Nat} {lv : Nat → Lv} (h : Rdr B col w rb L0 n m lv) (hm : m < 300) : Rdr B col (w.setCell ⟨rb, 1, none⟩ (.int .i64 ((m + 1 : Nat) : Int))) rb L0 n (m + 1) lv := by
  have hf : ∀ b, col b ≠ 1 → (w.setCell ⟨rb, 1, none⟩ (.int .i64 ((m + 1 : Nat) : Int))).heap[b]? = w.heap[b]? := fun b hb => set_far (a := ⟨rb, 1, none⟩) (fun e => hb (by rw [show b = rb from e]; exact h.cr))
  obtain ⟨PA, pc, h1, h2⟩ := h.rd
  refine ⟨h.sp.keep fun b hb _ => ⟨hf b (by omega), rfl⟩, ?_, h.cl, h.hB, ⟨PA, pc, h1.set 1 _, h2.keep fun b hb _ => ⟨hf b (by omega), hb⟩⟩, h.cr, h.hR, h.n6, by omega, fun k hk => Nat.le_succ_of_le (h.km k hk)⟩
  have h0 := h.l0
  unfold Blk at h0 ⊢
  rw [hf L0 (by rw [h.cl]; omega)]
  exact h0
theorem tree_label (lv : Nat → Lv) (m k : Nat) : (treeL lv m k).label = (lv k).label := by cases m <;> rfl
theorem SpL.krows {B : Nat} {col : Nat → Nat} {w : World} {n : Nat} {lv : Nat → Lv} (h : SpL B col w n lv) {j : Nat} (hj : j ≤ n) : KRows w (lv j).KA (treeL lv (n - j) j).kids (rowsO lv n j) := by
  refine ⟨Rd.of_own (h.own hj).1, ?_, fun i k r hk hr => ?_⟩
  · rw [kids_len lv hj]
    unfold rowsO
    rw [List.length_append, h.rl j hj]
    by_cases e : j < n
    · rw [if_pos e, decide_eq_true e]; rfl
    · rw [if_neg e, decide_eq_false e]; rfl
  · unfold rowsO at hr
    by_cases e3 : j < n
    · obtain ⟨m, hm3⟩ : ∃ m, n - j = m + 1 := ⟨n - j - 1, by omega⟩
      rw [hm3] at hk
      simp only [treeL] at hk
      rw [if_pos e3] at hr
      by_cases hi : i < (lv j).ks.length
      · rw [List.getElem?_append_left hi] at hk
        rw [List.getElem?_append_left (by rw [h.rl j hj]; exact hi)] at hr
        obtain ⟨LA, lc, KA, kc, e⟩ := (h.kids j hj i k r hk hr).form
        exact ⟨k.head, _, _, e⟩
      · rw [List.getElem?_append_right (by omega)] at hk
        rw [List.getElem?_append_right (by rw [h.rl j hj]; omega), h.rl j hj] at hr
        have e4 : i - (lv j).ks.length = 0 := by
          rcases Nat.eq_zero_or_pos (i - (lv j).ks.length) with e | e
          · exact e
          · rw [List.getElem?_eq_none (by simp; omega)] at hk
            cases hk
        rw [e4] at hk hr
        simp only [List.getElem?_cons_zero, Option.some.injEq] at hk hr
        subst hk hr
        exact ⟨(lv (j + 1)).head, _, _, by rw [tree_label]; rfl⟩
    · rw [show n - j = 0 from by omega] at hk
      simp only [treeL] at hk
      rw [if_neg e3, List.append_nil] at hr
      obtain ⟨LA, lc, KA, kc, e⟩ := (h.kids j hj i k r hk hr).form
      exact ⟨k.head, _, _, e⟩
theorem spn_in (lv : Nat → Lv) (n : Nat) : spn n (treeL lv n 0) = ⟨(lv n).label, (lv n).head, (lv n).lines, (lv n).ks⟩ := by
  rw [spn_tree lv n n 0 (Nat.le_refl _), Nat.sub_self, Nat.zero_add]
  rfl
theorem Kept.of {B : Nat} {col : Nat → Nat} {w w' : World} (h : Below w.heap.size w w') : Kept B col col w w' := ⟨⟨h.os, h.tape, h.output, h.size, fun b _ hl => h.block b hl⟩, fun b hl _ _ => ⟨h.block b hl, rfl⟩⟩
theorem Kept.trans {B : Nat} {c1 c2 c3 : Nat → Nat} {w1 w2 w3 : World} (h : Kept B c1 c2 w1 w2) (h' : Kept B c2 c3 w2 w3) : Kept B c1 c3 w1 w3 := by
  obtain ⟨⟨a1, a2, a3, a4, a5⟩, a6⟩ := h
  obtain ⟨⟨b1, b2, b3, b4, b5⟩, b6⟩ := h'
  refine ⟨⟨b1.trans a1, b2.trans a2, b3.trans a3, Nat.le_trans a4 b4, fun b hb hl => (b5 b hb (Nat.lt_of_lt_of_le hl a4)).trans (a5 b hb hl)⟩, fun b hl h4 h10 => ?_⟩
  obtain ⟨e1, e2⟩ := a6 b hl h4 h10
  obtain ⟨e3, e4⟩ := b6 b (Nat.lt_of_lt_of_le hl a4) (by rw [e2]; exact h4) (by rw [e2]; exact h10)
  exact ⟨e3.trans e1, e4.trans e2⟩
theorem Kept.set {B : Nat} {col : Nat → Nat} (w : World) (a : Addr) (v : Value) (hB : B ≤ a.block) (hc : ¬ (4 ≤ col a.block ∧ col a.block < 10)) : Kept B col col w (w.setCell a v) :=
  ⟨⟨rfl, rfl, rfl, by simp, fun b hb _ => set_far (fun e => by omega)⟩, fun b _ h4 h10 => ⟨set_far (fun e => hc (by rw [← e]; exact ⟨h4, h10⟩)), rfl⟩⟩
/-- the reader behind a kid more, but for its pointers -/
structure Mid (B : Nat) (col : Nat → Nat) (w : World) (rb L0 n d m : Nat) (lv : Nat → Lv) (PA : Option Addr) (pc : Nat) (ps : List Value) : Prop where
  sp : SpL B col w (d + 1) lv
  l0 : Blk w L0 26 ((lv 0).hdr (decide (0 < d + 1)))
  cl : col L0 = 3
  hB : B ≤ L0
  blk : Blk w rb 103 [.slice PA (n + 1) pc, .int .i64 (m : Int)]
  own : Own B col w 58 1 2 (.slice PA (n + 1) pc) (n + 1) ps
  ps : ps.take (d + 1) = ptrs L0 lv d
  dn : d ≤ n
  cr : col rb = 1
  hR : B ≤ rb
  m3 : m ≤ 300
  km : ∀ k, k ≤ d + 1 → (lv k).ks.length + (decide (k < d + 1)).toNat ≤ m
theorem ptrs_take (L0 n d : Nat) (lv lv' : Nat → Lv) (hd : d ≤ n) (h : ∀ i, i < d → lv' i = lv i) : (ptrs L0 lv n).take (d + 1) = ptrs L0 lv' d := by
  rw [ptrs_congr h]
  unfold ptrs
  rw [← List.map_take, List.take_range, Nat.min_eq_left (by omega)]
theorem Rdr.kid {B : Nat} {col : Nat → Nat} {w w2 : World} {rb L0 n m : Nat} {lv : Nat → Lv} (h : Rdr B col w rb L0 n m lv) (j : Nat) (hj : j ≤ n) (nm tx : Tx) (hm : (lv j).ks.length + (decide (j < n)).toNat + 1 ≤ m) (g5 c5 : Nat)
    (ho : w2.ownsRow B 26 4 (.slice (some ⟨g5, 0, none⟩) ((lv j).ks.length + (decide (j < n)).toNat + 1) c5) ((lv j).ks.length + (decide (j < n)).toNat + 1) ((rowsO lv n j).flatten ++ (newLv nm tx).hdr false))
    (hg0 : w2.os = w.os ∧ w2.tape = w.tape ∧ w2.output = w.output ∧ w.heap.size ≤ w2.heap.size)
    (hg : ∀ b, b < w.heap.size → some b ≠ (Value.slice (lv j).KA ((lv j).ks.length + (decide (j < n)).toNat) (lv j).kc).ownBlock → w2.heap[b]? = w.heap[b]?)
    (hA : (Value.slice (lv j).KA ((lv j).ks.length + (decide (j < n)).toNat) (lv j).kc).ownBlock = some g5 ∨ w.heap.size ≤ g5) :
    ∃ (col' : Nat → Nat) (PA : Option Addr) (pc : Nat) (ps : List Value), Mid B col' (w2.setCell ⟨(adr L0 lv j).block, (adr L0 lv j).off + 3, none⟩ (.slice (some ⟨g5, 0, none⟩) ((lv j).ks.length + (decide (j < n)).toNat + 1) c5)) rb L0 n j m (lvK lv n j nm tx g5 c5) PA pc ps ∧
      Kept B col col' w (w2.setCell ⟨(adr L0 lv j).block, (adr L0 lv j).off + 3, none⟩ (.slice (some ⟨g5, 0, none⟩) ((lv j).ks.length + (decide (j < n)).toNat + 1) c5)) := by
  obtain ⟨col', hc1, hsp, hl0⟩ := h.sp.kid (by have := h.n6; omega) h.cl h.hB h.l0 j hj nm tx (by have := h.m3; omega) g5 c5 ho hg hA
  obtain ⟨ha1, haB, ha3⟩ := h.sp.adrc h.cl h.l0.lt h.hB j hj
  have hown := h.sp.own hj
  obtain ⟨w9, hw9⟩ : ∃ w9, w9 = w2.setCell ⟨(adr L0 lv j).block, (adr L0 lv j).off + 3, none⟩ (.slice (some ⟨g5, 0, none⟩) ((lv j).ks.length + (decide (j < n)).toNat + 1) c5) := ⟨_, rfl⟩
  rw [← hw9] at hsp hl0 ⊢
  have hfr : ∀ b, b < w.heap.size → col b < 10 → col b ≠ 3 → w9.heap[b]? = w.heap[b]? := fun b hl h1 h3 => by
    rw [hw9, set_far (a := ⟨(adr L0 lv j).block, (adr L0 lv j).off + 3, none⟩) (fun e => by
      have e : b = (adr L0 lv j).block := e
      rw [← e] at ha3
      unfold cK at ha3
      rcases ha3 with ha3 | ⟨i, hi, ha3⟩ <;> omega)]
    exact hg b hl fun e => by have := hown.2 b e.symm; unfold cK at this; omega
  obtain ⟨PA, pc, h1, h2⟩ := h.rd
  refine ⟨col', PA, pc, ptrs L0 lv n, ⟨hsp, hl0, by rw [hc1 L0 h.l0.lt (by rw [h.cl]; omega)]; exact h.cl, h.hB, ?_, ?_, ptrs_take L0 n j lv _ hj fun i hi => lvK_lt lv n nm tx g5 c5 hi, hj, by rw [hc1 rb h1.lt (by rw [h.cr]; omega)]; exact h.cr, h.hR, h.m3, fun k hk => ?_⟩, ⟨?_, ?_⟩⟩
  rotate_left 2
  · rcases Nat.lt_or_ge k j with e | e
    · rw [lvK_lt lv n nm tx g5 c5 e, decide_eq_true (by omega : k < j + 1)]
      have := h.km k (by omega)
      rwa [decide_eq_true (by omega : k < n)] at this
    · rcases Nat.lt_or_ge j k with e2 | e2
      · obtain rfl : k = j + 1 := by omega
        rw [lvK_new]
        simp [newLv]
      · obtain rfl : k = j := by omega
        rw [lvK_at, decide_eq_true (by omega : k < k + 1)]
        show (treeL lv (n - k) k).kids.length + 1 ≤ m
        rw [kids_len lv hj]
        exact hm
  rotate_right 2
  · unfold Blk at h1 ⊢
    rw [hfr rb (Array.getElem?_eq_some_iff.1 h1).1 (by rw [h.cr]; omega) (by rw [h.cr]; omega)]
    exact h1
  · exact h2.keep fun b hb hl => ⟨hfr b hl (by omega) (by omega), by rw [hc1 b hl (by omega)]; exact hb⟩
  · refine ⟨by rw [hw9]; exact hg0.1, by rw [hw9]; exact hg0.2.1, by rw [hw9]; exact hg0.2.2.1, by rw [hw9]; have := hg0.2.2.2; simpa using this, fun b hb hl => ?_⟩
    rw [hw9, set_far (a := ⟨(adr L0 lv j).block, (adr L0 lv j).off + 3, none⟩) (fun e => by have e : b = (adr L0 lv j).block := e; omega)]
    exact hg b hl fun e => by have := (hown.1.lt b e.symm).1; omega
  · intro b hl h4 h10
    exact ⟨hfr b hl h10 (by omega), hc1 b hl h10⟩
/-- the pointers' row, cut and appended to, is stored -/
theorem Mid.push {B : Nat} {col : Nat → Nat} {w w2 : World} {rb L0 n d m : Nat} {lv : Nat → Lv} {PA : Option Addr} {pc : Nat} {ps : List Value} (h : Mid B col w rb L0 n d m lv PA pc ps) (hd : d < 6) (g c : Nat)
    (ho : w2.ownsRow B 58 1 (.slice (some ⟨g, 0, none⟩) (d + 1 + 1) c) (d + 1 + 1) (ps.take (d + 1) ++ [.pointer (some (adr L0 lv (d + 1)))]))
    (hg0 : w2.os = w.os ∧ w2.tape = w.tape ∧ w2.output = w.output ∧ w.heap.size ≤ w2.heap.size)
    (hg : ∀ b, b < w.heap.size → some b ≠ (Value.slice PA (n + 1) pc).ownBlock → w2.heap[b]? = w.heap[b]?)
    (hA : (Value.slice PA (n + 1) pc).ownBlock = some g ∨ w.heap.size ≤ g) :
    ∃ col' : Nat → Nat, Rdr B col' (w2.setCell ⟨rb, 0, none⟩ (.slice (some ⟨g, 0, none⟩) (d + 1 + 1) c)) rb L0 (d + 1) m lv ∧ Kept B col col' w (w2.setCell ⟨rb, 0, none⟩ (.slice (some ⟨g, 0, none⟩) (d + 1 + 1) c)) := by
  obtain ⟨col', hc'⟩ : ∃ col' : Nat → Nat, col' = fun b => if b < w.heap.size then col b else 2 := ⟨_, rfl⟩
  have hco : ∀ b, b < w.heap.size → col' b = col b := fun b hb => by rw [hc']; exact if_pos hb
  obtain ⟨w9, hw9⟩ : ∃ w9, w9 = w2.setCell ⟨rb, 0, none⟩ (.slice (some ⟨g, 0, none⟩) (d + 1 + 1) c) := ⟨_, rfl⟩
  rw [← hw9]
  have hrl := h.blk.lt
  have hfr : ∀ b, b < w.heap.size → col b ≠ 1 → col b ≠ 2 → w9.heap[b]? = w.heap[b]? := fun b hl h1 h2 => by
    rw [hw9, set_far (a := ⟨rb, 0, none⟩) (fun e => h1 (by rw [show b = rb from e]; exact h.cr))]
    exact hg b hl fun e => h2 (h.own.2 b e.symm)
  have hgc : col' g = 2 := by
    rcases hA with e | e
    · rw [hco g (h.own.1.lt g e).2]
      exact h.own.2 g e
    · rw [hc']
      exact if_neg (by omega)
  refine ⟨col', ⟨h.sp.keep fun b hb hl => ⟨hfr b hl (by omega) (by omega), hco b hl⟩, ?_, by rw [hco L0 h.l0.lt]; exact h.cl, h.hB, ⟨some ⟨g, 0, none⟩, c, ?_, ?_⟩, by rw [hco rb hrl]; exact h.cr, h.hR, by omega, h.m3, h.km⟩, ⟨?_, fun b hl h4 h10 => ⟨hfr b hl (by omega) (by omega), hco b hl⟩⟩⟩
  · have h0 := h.l0
    unfold Blk at h0 ⊢
    rw [hfr L0 (Array.getElem?_eq_some_iff.1 h0).1 (by rw [h.cl]; omega) (by rw [h.cl]; omega)]
    exact h0
  · have h1 := h.blk
    have h2 : Blk w2 rb 103 [.slice PA (n + 1) pc, .int .i64 (m : Int)] := by
      unfold Blk at h1 ⊢
      rw [hg rb hrl fun e => by have := h.own.2 rb e.symm; rw [h.cr] at this; omega]
      exact h1
    rw [hw9]
    exact h2.set 0 _
  · have h1 : Own B col' w2 58 1 2 (.slice (some ⟨g, 0, none⟩) (d + 1 + 1) c) (d + 1 + 1) (ptrs L0 lv (d + 1)) := by
      refine ⟨?_, fun b hb => ?_⟩
      · rw [h.ps] at ho
        have e : ptrs L0 lv (d + 1) = ptrs L0 lv d ++ [.pointer (some (adr L0 lv (d + 1)))] := by
          unfold ptrs
          rw [List.range_succ, List.map_append]
          rfl
        rw [e]
        exact ho
      · have e : some g = some b := hb
        simp only [Option.some.injEq] at e
        rw [← e]
        exact hgc
    rw [hw9]
    exact h1.keep fun b hb hl => ⟨set_far (fun e => by
      rw [show b = rb from e, hco rb hrl, h.cr] at hb
      omega), hb⟩
  · refine ⟨by rw [hw9]; exact hg0.1, by rw [hw9]; exact hg0.2.1, by rw [hw9]; exact hg0.2.2.1, by rw [hw9]; have := hg0.2.2.2; simpa using this, fun b hb hl => ?_⟩
    rw [hw9, set_far (a := ⟨rb, 0, none⟩) (fun e => by have e : b = rb := e; have := h.hR; omega)]
    exact hg b hl fun e => by have := (h.own.1.lt b e.symm).1; omega
theorem set_comm {w : World} {a b : Addr} {u v : Value} (h : a.block ≠ b.block) : (w.setCell a u).setCell b v = (w.setCell b v).setCell a u := by
  unfold World.setCell
  congr 1
  apply Array.ext_getElem?
  intro i
  simp only [Array.getElem?_modify]
  by_cases h1 : a.block = i
  · have h2 : ¬ b.block = i := fun e => h (h1.trans e.symm)
    simp [h1, h2]
  · by_cases h2 : b.block = i <;> simp [h1, h2]
end Go.Proofs.YtflklbhgjfonbaaGreatDoor.Sc

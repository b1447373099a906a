/- Laws as texts: the document's builder behind what was put in. -/
import Derived.Test.YtflklbhgjfonbaaGreatDoorScY
namespace Go.Proofs.YtflklbhgjfonbaaGreatDoor.Sc
open Go.RowKit Mem Nest Fk Err Lk Gp

theorem spn_upd (f : It → It) (lv : Nat → Lv) : ∀ (j m k : Nat), j ≤ m → spn j (upd f j (treeL lv m k)) = f (spn j (treeL lv m k))
  | 0, m, k, _ => rfl
  | j + 1, m + 1, k, h => by
    simp only [spn, upd, treeL, List.getLast?_concat, List.dropLast_concat]
    exact spn_upd f lv j m (k + 1) (by omega)
theorem spn_upd_kid (q : It) (lv : Nat → Lv) : ∀ (j m k : Nat), j ≤ m → spn (j + 1) (upd (addKid q) j (treeL lv m k)) = q
  | 0, 0, k, _ => by simp [spn, upd, treeL, addKid]
  | 0, m + 1, k, _ => by simp [spn, upd, treeL, addKid]
  | j + 1, m + 1, k, h => by
    simp only [upd, treeL, List.getLast?_concat, List.dropLast_concat]
    rw [spn]
    simp only [List.getLast?_concat]
    exact spn_upd_kid q lv j m (k + 1) (by omega)
theorem spn_in' (lv : Nat → Lv) (n : Nat) : spn n (treeL lv n 0) = ⟨(lv n).label, (lv n).head, (lv n).lines, (lv n).ks⟩ := by
  rw [spn_tree lv n n 0 (Nat.le_refl _), Nat.sub_self, Nat.zero_add]
  rfl
theorem waysF_congr {lv lv' : Nat → Lv} {d : Nat} (h : ∀ i, i < d → (lv' i).ks.length = (lv i).ks.length) : waysF lv' 0 d = waysF lv 0 d := by
  unfold waysF
  refine List.map_congr_left fun i hi => ?_
  rw [List.mem_range] at hi
  show Value.int .i64 ((lv' (0 + i)).ks.length : Int) = Value.int .i64 ((lv (0 + i)).ks.length : Int)
  rw [Nat.zero_add, h i hi]
/-- the four cells of the law are stored -/
structure Put0 (B : Nat) (col : Nat → Nat) (f : It → It) (w : World) (bb j n n' m : Nat) (lv : Nat → Lv) (WA : Option Addr) (cq : Nat) (wF : World) (col' : Nat → Nat) (lv' : Nat → Lv) : Prop where
  sp : SpL B col' wF n' lv'
  blk : Blk wF bb 62 ((lv' 0).hdr (decide (0 < n')) ++ [.slice WA n cq, .int .i64 (m : Int)])
  way : RdR wF (fun b => col' b = 2) WA (waysF lv 0 n)
  tree : upd f j (treeL lv n 0) = treeL lv' n' 0
  cl : col' bb = 3
  ks : ∀ i, i < j → (lv' i).ks.length = (lv i).ks.length
  kj : (lv' j).ks.length + (decide (j < n')).toNat = (f (treeL lv (n - j) j)).kids.length
  kept : Kept B col col' w wF
theorem Bdr.put {B : Nat} {col : Nat → Nat} {f : It → It} {w w2 : World} {bb j n n' m : Nat} {lv : Nat → Lv} {WA : Option Addr} {cq : Nat} (h : Bdr B col w bb n m lv WA cq) (hn' : n' ≤ 8) (l : Lv) (o : Bool) (hp : PutR B col f w 0 j n n' lv (l.hdr o) w2) :
    ∃ (col' : Nat → Nat) (lv' : Nat → Lv), Put0 B col f w bb j n n' m lv WA cq ((((w2.setCell ⟨bb, 0, none⟩ (.string ⟨l.label.toArray⟩)).setCell ⟨bb, 1, none⟩ (.string ⟨l.head.toArray⟩)).setCell ⟨bb, 2, none⟩ (.slice l.LA l.lines.length l.lc)).setCell ⟨bb, 3, none⟩ (.slice l.KA (l.ks.length + o.toNat) l.kc)) col' lv' := by
  obtain ⟨col', lv', p1, p2, p3, p4, p5, p6⟩ := hp
  obtain ⟨wF, hwF⟩ : ∃ wF, wF = (((w2.setCell ⟨bb, 0, none⟩ (.string ⟨l.label.toArray⟩)).setCell ⟨bb, 1, none⟩ (.string ⟨l.head.toArray⟩)).setCell ⟨bb, 2, none⟩ (.slice l.LA l.lines.length l.lc)).setCell ⟨bb, 3, none⟩ (.slice l.KA (l.ks.length + o.toNat) l.kc) := ⟨_, rfl⟩
  have hfar : ∀ b, b ≠ bb → wF.heap[b]? = w2.heap[b]? := fun b hb => by
    rw [hwF, set_far (by exact hb), set_far (by exact hb), set_far (by exact hb), set_far (by exact hb)]
  have hbl := h.blk.lt
  obtain ⟨e1, e2⟩ := p4.blk bb hbl (by rw [h.cl]; unfold cK; omega)
  have hcb : col' bb = 3 := by rw [e2]; exact h.cl
  have hb2 := blk_same h.blk e1
  have hs := (((hb2.set 0 (.string ⟨l.label.toArray⟩)).set 1 (.string ⟨l.head.toArray⟩)).set 2 (.slice l.LA l.lines.length l.lc)).set 3 (.slice l.KA (l.ks.length + o.toNat) l.kc)
  rw [← hwF] at hs ⊢
  have hlow : ∀ b, b < w.heap.size → col b < 10 → col b ≠ 3 → wF.heap[b]? = w.heap[b]? ∧ col' b = col b := fun b hl hc h3 => by
    obtain ⟨a1, a2⟩ := p4.blk b hl (by unfold cK; omega)
    exact ⟨(hfar b fun e => h3 (by rw [e]; exact h.cl)).trans a1, a2⟩
  refine ⟨col', lv', ⟨(p1.keep hn' fun b hb hl => ⟨hfar b fun e => by rw [e, hcb] at hb; unfold cK at hb; omega, rfl⟩).all, ?_, h.way.mono fun b hb hl => ?_, p3, hcb, fun i hi => p5 i (Nat.zero_le _) hi, p6, ⟨⟨?_, ?_, ?_, ?_, fun b hb hl => ?_⟩, fun b hl h4 h10 => hlow b hl h10 (by omega)⟩⟩⟩
  · rw [← p2]
    exact hs
  · obtain ⟨a1, a2⟩ := hlow b hl (by omega) (by omega)
    exact ⟨a1, by rw [a2]; exact hb⟩
  · rw [hwF]; simp only [set_os]; exact p4.os
  · rw [hwF]; simp only [set_tape]; exact p4.tape
  · rw [hwF]; simp only [set_out]; exact p4.output
  · rw [hwF]; simp only [World.size_setCell]; exact p4.size
  · rw [hfar b (by have := h.hB; omega)]
    exact p4.base b hb hl
/-- behind a line -/
theorem Put0.line {B : Nat} {col : Nat → Nat} {w wF : World} {bb n m : Nat} {lv : Nat → Lv} {WA : Option Addr} {cq : Nat} {x : Tx} {col' : Nat → Nat} {lv' : Nat → Lv} (h : Bdr B col w bb n m lv WA cq) (hp : Put0 B col (addLine x) w bb n n n m lv WA cq wF col' lv') (hl : (lv n).lines.length < 40) :
    Bdr B col' wF bb n m lv' WA cq := by
  have ht := congrArg (spn n) hp.tree
  rw [spn_upd _ lv n n 0 (Nat.le_refl _), spn_in', spn_in'] at ht
  have hkj := hp.kj
  rw [Nat.sub_self, decide_eq_false (Nat.lt_irrefl n)] at hkj
  have hkj : (lv' n).ks.length = (lv n).ks.length := hkj
  refine ⟨hp.sp, hp.blk, by rw [waysF_congr hp.ks]; exact hp.way, h.cap, h.nil, hp.cl, h.hB, h.n6, h.m3, fun k hk => ?_, ?_⟩
  · have h1 := h.km k hk
    rcases Nat.lt_or_ge k n with e | e
    · rw [hp.ks k e]; exact h1
    · obtain rfl : k = n := by omega
      rw [hkj]; exact h1
  · have h2 := congrArg (fun t => t.lines.length) ht
    simp only [addLine, List.length_append, List.length_singleton] at h2
    omega
/-- behind a kid, the way and the number turned -/
theorem Put0.kid {B : Nat} {col : Nat → Nat} {w wF wG : World} {bb j n m : Nat} {lv : Nat → Lv} {WA WB : Option Addr} {cq cr : Nat} {nm tx : Tx} {col' : Nat → Nat} {lv' : Nat → Lv} (h : Bdr B col w bb n m lv WA cq) (hp : Put0 B col (addKid ⟨nm, tx, [], []⟩) w bb j n (j + 1) m lv WA cq wF col' lv') (hj : j ≤ n) (hj6 : j < 6) (hm : m < 300) (gw : Nat)
    (hb : ∀ b, b < wF.heap.size → b ≠ bb → wG.heap[b]? = wF.heap[b]?) (ho : wG.os = wF.os ∧ wG.tape = wF.tape ∧ wG.output = wF.output ∧ wF.heap.size ≤ wG.heap.size) (hg : wF.heap.size ≤ gw)
    (hblk : Blk wG bb 62 ((lv' 0).hdr (decide (0 < j + 1)) ++ [.slice WB (j + 1) cr, .int .i64 ((m + 1 : Nat) : Int)]))
    (hW : RdR wG (fun b => b = gw) WB (waysF lv 0 j ++ [.int .i64 ((treeL lv (n - j) j).kids.length : Int)])) (hc : j + 1 ≤ cr ∧ cr ≤ 9223372036854775807) (hnil : WB = none → cr = 0) :
    ∃ col2 : Nat → Nat, Bdr B col2 wG bb (j + 1) (m + 1) lv' WB cr ∧ Kept B col col2 w wG := by
  obtain ⟨⟨k1, k2, k3, k4, k5⟩, k6⟩ := hp.kept
  have hbl := h.blk.lt
  have ht := congrArg (spn (j + 1)) hp.tree
  rw [spn_upd_kid _ lv j n 0 hj, spn_in'] at ht
  have hls : ([] : List Tx) = (lv' (j + 1)).lines := congrArg (fun t => t.lines) ht
  have hks : ([] : List It) = (lv' (j + 1)).ks := congrArg (fun t => t.kids) ht
  have hkj := hp.kj
  rw [decide_eq_true (by omega : j < j + 1)] at hkj
  have hkj : (lv' j).ks.length = (treeL lv (n - j) j).kids.length := by
    simp only [addKid, List.length_append, List.length_singleton, Bool.toNat_true] at hkj
    omega
  refine ⟨fun b => if b = gw then 2 else col' b, ⟨hp.sp.keep fun b hc' hl => ⟨hb b hl fun e => by rw [e, hp.cl] at hc'; omega, if_neg (by omega)⟩, hblk, ?_, hc, hnil, ?_, h.hB, by omega, by omega, fun k hk => ?_, ?_⟩, ⟨⟨ho.1.trans k1, ho.2.1.trans k2, ho.2.2.1.trans k3, Nat.le_trans k4 ho.2.2.2, fun b hB' hl => ?_⟩, fun b hl h4 h10 => ?_⟩⟩
  · have e : waysF lv' 0 (j + 1) = waysF lv 0 j ++ [.int .i64 ((treeL lv (n - j) j).kids.length : Int)] := by
      unfold waysF
      rw [List.range_succ, List.map_append, List.map_singleton, Nat.zero_add, hkj]
      congr 1
      refine List.map_congr_left fun i hi => ?_
      rw [List.mem_range] at hi
      rw [Nat.zero_add, hp.ks i hi]
    rw [e]
    exact hW.mono fun b hb' _ => ⟨rfl, if_pos hb'⟩
  · show (if bb = gw then 2 else col' bb) = 3
    rw [if_neg (by omega)]
    exact hp.cl
  · rcases Nat.lt_or_ge k j with e | e
    · rw [hp.ks k e, decide_eq_true (by omega : k < j + 1)]
      have := h.km k (by omega)
      rw [decide_eq_true (by omega : k < n)] at this
      omega
    · rcases Nat.lt_or_ge j k with e2 | e2
      · obtain rfl : k = j + 1 := by omega
        have h0 : (lv' (j + 1)).ks.length = 0 := by rw [← hks]; rfl
        rw [h0, decide_eq_false (Nat.lt_irrefl _)]
        exact Nat.zero_le _
      · obtain rfl : k = j := by omega
        rw [hkj, kids_len lv hj, decide_eq_true (by omega : k < k + 1)]
        have := h.km k hj
        show _ + 1 ≤ m + 1
        omega
  · show (lv' (j + 1)).lines.length ≤ 40
    rw [← hls]
    exact Nat.zero_le _
  · have hne : b ≠ bb := by have := h.hB; omega
    exact (hb b (Nat.lt_of_lt_of_le hl k4) hne).trans (k5 b hB' hl)
  · obtain ⟨a1, a2⟩ := k6 b hl h4 h10
    refine ⟨(hb b (Nat.lt_of_lt_of_le hl k4) fun e => by rw [e, h.cl] at h4; omega).trans a1, ?_⟩
    show (if b = gw then 2 else col' b) = col b
    rw [if_neg (by omega)]
    exact a2
theorem Bdr.five {B : Nat} {col : Nat → Nat} {w w' : World} {bb n m : Nat} {lv : Nat → Lv} {WA : Option Addr} {cq : Nat} (h : Bdr B col w bb n m lv WA cq) (hb : Below w.heap.size w w') : Bdr B (col5 w col) w' bb n m lv WA cq := by
  have hc : ∀ b, b < w.heap.size → col5 w col b = col b := fun b hl => if_pos hl
  exact ⟨h.sp.keep fun b _ hl => ⟨hb.block b hl, hc b hl⟩, blk_ext2 h.blk hb, h.way.mono fun b hc' hl => ⟨hb.block b hl, by rw [hc b hl]; exact hc'⟩, h.cap, h.nil, by rw [hc bb h.blk.lt]; exact h.cl, h.hB, h.n6, h.m3, h.km, h.l40⟩
theorem Kept.five {B : Nat} {col c2 : Nat → Nat} {w w1 w2 : World} (h : Kept B (col5 w col) c2 w1 w2) (hb : Below w.heap.size w w1) : Kept B col c2 w w2 := by
  obtain ⟨⟨a1, a2, a3, a4, a5⟩, a6⟩ := h
  refine ⟨⟨a1.trans hb.os, a2.trans hb.tape, a3.trans hb.output, Nat.le_trans hb.size a4, fun b hB hl => (a5 b hB (Nat.lt_of_lt_of_le hl hb.size)).trans (hb.block b hl)⟩, fun b hl h4 h10 => ?_⟩
  have hc : col5 w col b = col b := if_pos hl
  obtain ⟨e1, e2⟩ := a6 b (Nat.lt_of_lt_of_le hl hb.size) (by rw [hc]; exact h4) (by rw [hc]; exact h10)
  exact ⟨e1.trans (hb.block b hl), e2.trans hc⟩
theorem own_cap2 {B : Nat} {w : World} {T : TypeId} {g n c : Nat} {xs : List Value} (h : w.ownsRow B T 1 (.slice (some ⟨g, 0, none⟩) n c) n xs) : n ≤ c ∧ c ≤ maxLen := by
  rcases h.2 with ⟨h0, _⟩ | ⟨g', cap, cur, hv, _, _, h1, h2, _⟩
  · cases h0
  · simp only [Value.slice.injEq] at hv
    obtain ⟨_, _, rfl⟩ := hv
    exact ⟨h1, h2⟩
end Go.Proofs.YtflklbhgjfonbaaGreatDoor.Sc

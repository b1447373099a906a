/- Laws as texts: the document's way of putting a line or a kid in. -/
import Derived.Test.YtflklbhgjfonbaaGreatDoorScV
import Derived.Test.YtflklbhgjfonbaaGreatDoorScQ
import Derived.Deep.AppendLies
import Derived.Deep.RegionHeld3
namespace Go.Proofs.YtflklbhgjfonbaaGreatDoor.Sc
open Go.RowKit Mem Nest Fk Err Lk Gp

theorem set_os (w : World) (a : Addr) (v : Value) : (w.setCell a v).os = w.os := rfl
theorem set_tape (w : World) (a : Addr) (v : Value) : (w.setCell a v).tape = w.tape := rfl
theorem set_out (w : World) (a : Addr) (v : Value) : (w.setCell a v).output = w.output := rfl
def col5 (w : World) (col : Nat → Nat) : Nat → Nat := fun b => if b < w.heap.size then col b else 5
/-- what was made on the way is of no colour that counts -/
theorem PutR.wrap {B : Nat} {col : Nat → Nat} {f : It → It} {w w1 w2 w3 : World} {k j n n' : Nat} {lv : Nat → Lv} {V : List Value} (hB : Below w.heap.size w w1) (hn' : n' ≤ 8)
    (hp : PutR B (col5 w col) f w1 k j n n' lv V w2) (hf : ∀ b, (b < w.heap.size ∨ w1.heap.size ≤ b) → w3.heap[b]? = w2.heap[b]?) (hsz : w3.heap.size = w2.heap.size) (ho3 : w3.os = w2.os ∧ w3.tape = w2.tape ∧ w3.output = w2.output) : PutR B col f w k j n n' lv V w3 := by
  obtain ⟨col', lv', p1, p2, p3, p4, p5, p6⟩ := hp
  have h5 : ∀ b, w.heap.size ≤ b → b < w1.heap.size → col' b = 5 := fun b h1 h2 => by
    obtain ⟨_, e⟩ := p4.blk b h2 (by show (if b < w.heap.size then col b else 5) < _; rw [if_neg (by omega)]; unfold cK; omega)
    rw [e]
    show (if b < w.heap.size then col b else 5) = 5
    rw [if_neg (by omega)]
  refine ⟨col', lv', p1.keep hn' (fun b hb hl => ⟨hf b ?_, rfl⟩), p2, p3, ⟨ho3.1.trans (p4.os.trans hB.os), ho3.2.1.trans (p4.tape.trans hB.tape), ho3.2.2.trans (p4.output.trans hB.output), by rw [hsz]; exact Nat.le_trans hB.size p4.size, fun b hb hl => ?_, fun b hl hc => ?_⟩, p5, p6⟩
  · rcases Nat.lt_or_ge b w.heap.size with h | h
    · exact .inl h
    · rcases Nat.lt_or_ge b w1.heap.size with h' | h'
      · have := h5 b h h'
        unfold cK at hb
        omega
      · exact .inr h'
  · rw [hf b (.inl hl), p4.base b hb (Nat.lt_of_lt_of_le hl hB.size), hB.block b hl]
  · obtain ⟨e1, e2⟩ := p4.blk b (Nat.lt_of_lt_of_le hl hB.size) (by show (if b < w.heap.size then col b else 5) < _; rw [if_pos hl]; exact hc)
    refine ⟨by rw [hf b (.inl hl), e1, hB.block b hl], ?_⟩
    rw [e2]
    show (if b < w.heap.size then col b else 5) = col b
    rw [if_pos hl]
theorem SubL.col5 {B : Nat} {col : Nat → Nat} {w w1 : World} {k n : Nat} {lv : Nat → Lv} (h : SubL B col w k n lv) (hn : n ≤ 8) (hB : Below w.heap.size w w1) : SubL B (col5 w col) w1 k n lv :=
  h.keep hn fun b _ hl => ⟨hB.block b hl, if_pos hl⟩
theorem blk_grown {w w' : World} {b : Nat} {T : TypeId} {cs : List Value} {row : Option Nat} (h : Blk w b T cs) (hg : w.grownBy w' row) (hn : some b ≠ row ∧ b < w.heap.size) : Blk w' b T cs := by
  unfold Blk at h ⊢
  rw [hg.block b hn.2 hn.1]
  exact h
def itV (l : Lv) (o : Bool) : Value := .agg #[.string ⟨l.label.toArray⟩, .string ⟨l.head.toArray⟩, .slice l.LA l.lines.length l.lc, .slice l.KA (l.ks.length + o.toNat) l.kc]
def kidV (nm tx : Tx) : Value := .agg #[.string ⟨nm.toArray⟩, .string ⟨tx.toArray⟩, .slice none 0 0, .slice none 0 0]
def PutP (B : Nat) (col : Nat → Nat) (f : It → It) (k j n n' : Nat) (lv : Nat → Lv) (w : World) (e : Ending) (w' : World) : Prop :=
  ∃ (l : Lv) (o : Bool), e = .returned (itV l o) ∧ PutR B col f w k j n n' lv (l.hdr o) w'
theorem putp_of {B : Nat} {col : Nat → Nat} {f : It → It} {k j n n' : Nat} {lv : Nat → Lv} {w w' : World} {V : List Value} {v : Value} (hv : v = .agg V.toArray) (hp : PutR B col f w k j n n' lv V w') : PutP B col f k j n n' lv w (.returned v) w' := by
  obtain ⟨col', lv', p1, p2, p3⟩ := hp
  exact ⟨lv' k, decide (k < n'), by rw [hv, p2]; rfl, col', lv', p1, rfl, p3⟩
set_option maxRecDepth 100000 in
set_option maxHeartbeats 4000000 in
/-- at the innermost level, a line -/
theorem put_line (x nm tx : Tx) (n : Nat) (hn : n ≤ 7) (B : Nat) (lv : Nat → Lv) (hx : (lv n).lines.length < 1000) (col : Nat → Nat) (w : World) (WA : Option Addr) (wc : Nat) (h : SubL B col w n n lv) (hB : B ≤ w.heap.size) :
    Calls Tryz.prog 57 #[itV (lv n) false, .slice WA 0 wc, .bool true, .string ⟨x.toArray⟩, kidV nm tx] w (PutP B col (addLine x) n n n n lv w) := by
  have H := Lib.hid h
  obtain ⟨w1, hw1⟩ : ∃ w1, w1 = w.alloc (.cells #[.string ⟨(lv n).label.toArray⟩, .string ⟨(lv n).head.toArray⟩, .slice (lv n).LA (lv n).lines.length (lv n).lc, .slice (lv n).KA (lv n).ks.length (lv n).kc] 26) := ⟨_, rfl⟩
  have x1 : Below w.heap.size w w1 := by rw [hw1]; exact ext_alloc w _
  have c1 : Blk w1 w.heap.size 26 [.string ⟨(lv n).label.toArray⟩, .string ⟨(lv n).head.toArray⟩, .slice (lv n).LA (lv n).lines.length (lv n).lc, .slice (lv n).KA (lv n).ks.length (lv n).kc] := by rw [hw1]; exact Blk.new w _ _
  have z1 : w1.heap.size = w.heap.size + 1 := by rw [hw1]; simp
  obtain ⟨w2, hw2⟩ : ∃ w2, w2 = w1.alloc (.cells #[.string ⟨nm.toArray⟩, .string ⟨tx.toArray⟩, .slice none 0 0, .slice none 0 0] 26) := ⟨_, rfl⟩
  have x2 : Below w1.heap.size w1 w2 := by rw [hw2]; exact ext_alloc w1 _
  have z2 : w2.heap.size = w.heap.size + 1 + 1 := by rw [hw2]; simp [z1]
  obtain ⟨w3, hw3⟩ : ∃ w3, w3 = w2.alloc (.cells #[.string ⟨#[]⟩, .string ⟨#[]⟩, .slice none 0 0, .slice none 0 0] 26) := ⟨_, rfl⟩
  have x3 : Below w2.heap.size w2 w3 := by rw [hw3]; exact ext_alloc w2 _
  have c3 : Blk w3 (w.heap.size + 1 + 1) 26 zeroI := by rw [hw3, ← z2]; exact Blk.new w2 _ zeroI
  have z3 : w3.heap.size = w.heap.size + 1 + 1 + 1 := by rw [hw3]; simp [z2]
  have X3 := ext_trans x1 (ext_trans x2 x3)
  have X4 := ext_trans X3 (ext_alloc w3 (.cells #[.string ⟨x.toArray⟩] 9))
  have HX4 := Lib.hid X4
  have HS := Lib.hid (H.out.col5 (by omega) X4)
  have HC1 := Lib.hid (blk_ext2 c1 (ext_trans x2 (ext_trans x3 (ext_alloc w3 (.cells #[.string ⟨x.toArray⟩] 9)))))
  have HC3 := Lib.hid (blk_ext2 c3 (ext_alloc w3 (.cells #[.string ⟨x.toArray⟩] 9)))
  obtain ⟨Q0, hQ0⟩ : ∃ Q0, Q0 = w.heap.size := ⟨_, rfl⟩
  obtain ⟨Q2, hQ2⟩ : ∃ Q2, Q2 = w.heap.size + 1 + 1 := ⟨_, rfl⟩
  rw [← hQ2] at HC3 c3
  rw [← hQ0] at HC1 c1
  have c1 := blk_ext2 c1 (ext_trans x2 x3)
  have l2 := c1.cell 2 rfl
  have HQ := Lib.hid (And.intro hQ0 hQ2)
  have HZ := Lib.hid z3
  have hq02 : Q0 ≠ Q2 := by omega
  obtain ⟨j0, hj0, hz0, hz1, hz2⟩ := info_parts str_infoR
  have HJ := Lib.hid hj0
  have HJ0 := Lib.hid hz0
  have HJ1 := Lib.hid hz1
  have HJ2 := Lib.hid hz2
  have HB := Lib.hid hB
  have hxb : (lv n).lines.length ≤ 1000 := by omega
  have HX1 := Lib.hid hx
  clear h hj0 hz0 hz1 hz2 c1 c3 x1 x2 x3 X3 X4 z1 z2 z3 hB hx
  unfold itV kidV
  go_enter Tryz.func57, Tryz.ntmps57
  go_upto_region 1 with fail
  simp only [Bool.toNat_false, Nat.add_zero]
  rw [← hw1, ← hw2, ← hw3, ← hQ2, ← hQ0]
  clear hw1 hw2 hw3 hQ2 hQ0
  go_wp2_with (at_builtin; refine wpList_append_lies _ rfl _ _ 23 rfl B 9 j0 _ 1 16 Tryz.underlying23 HJ.out HJ0.out HJ1.out HJ2.out rfl (by omega) (.slice (lv n).LA (lv n).lines.length (lv n).lc) (lv n).lines.length _ rfl HS.out.lines.1 ⟨w3.heap.size, 0, none⟩ 1 1 [.string ⟨x.toArray⟩] rfl rfl (new_cells w3 [.string ⟨x.toArray⟩] _ _ rfl) (by intro v hv; simp only [List.mem_singleton] at hv; subst hv; rfl) (by omega) (by simp only [maxLen]; omega) (by omega) (by have := HX4.out.size; have := HB.out; omega) _ rfl ?_; intro g5 c5 w7 hown1 hg1 hfr _; have HO7 := Lib.hid hown1; have HG7 := Lib.hid hg1; have HFr := Lib.hid hfr; have HN1 := Lib.hid (show ∀ q, w.heap.size ≤ q → q < w.heap.size + 1 + 1 + 1 → some q ≠ (Value.slice (lv n).LA (lv n).lines.length (lv n).lc).ownBlock ∧ q < (w3.alloc (.cells #[.string ⟨x.toArray⟩] 9)).heap.size from fun q h1 h2 => ⟨fun e => by have := (H.out.lines.1.lt q e.symm).2; omega, by have := HZ.out; simp; omega⟩); have d1 : Blk w7 Q0 26 _ := blk_grown HC1.out hg1 (HN1.out Q0 (by have := HQ.out; omega) (by have := HQ.out; omega)); have d3 : Blk w7 Q2 26 _ := blk_grown HC3.out hg1 (HN1.out Q2 (by have := HQ.out; omega) (by have := HQ.out; omega)); have HD1 := Lib.hid d1; have HD3 := Lib.hid d3; have y0 := d1.cell 0 rfl; have y1 := d1.cell 1 rfl; have y2 := d1.cell 2 rfl; have y3 := d1.cell 3 rfl; have e0 := d1.free 2; have m0 := d3.cell 0 rfl; have m1 := d3.cell 1 rfl; have m2 := d3.cell 2 rfl; have m3 := d3.cell 3 rfl; have f0 := d3.free 0; have f1 := d3.free 1; have f2 := d3.free 2; have f3 := d3.free 3; clear hown1 hg1 hfr d1 d3 l2)
  have s := ((((blk_far (a := ⟨Q0, 2, none⟩) HD3.out (by exact hq02.symm) (.slice (some ⟨g5, 0, none⟩) ((lv n).lines.length + 1) c5)).set 0 (.string ⟨(lv n).label.toArray⟩)).set 1 (.string ⟨(lv n).head.toArray⟩)).set 2 (.slice (some ⟨g5, 0, none⟩) ((lv n).lines.length + 1) c5)).set 3 (.slice (lv n).KA (lv n).ks.length (lv n).kc)
  have s0 := s.cell 0 rfl
  have s1 := s.cell 1 rfl
  have s2 := s.cell 2 rfl
  have s3 := s.cell 3 rfl
  refine bodyPost_ret (v := .agg #[.string ⟨(lv n).label.toArray⟩, .string ⟨(lv n).head.toArray⟩, .slice (some ⟨g5, 0, none⟩) ((lv n).lines.length + 1) c5, .slice (lv n).KA (lv n).ks.length (lv n).kc]) (by simp [results, Tryz.results57, go_sem, s0, s1, s2, s3]) rfl (putp_of rfl (PutR.wrap HX4.out (by omega) (PutR.line HS.out (by omega) x HX1.out g5 c5 HO7.out HG7.out HFr.out) (fun b hb => ?_) (by simp) ⟨by simp only [set_os], by simp only [set_tape], by simp only [set_out]⟩))
  have hz := HZ.out
  have hq := HQ.out
  have hb2 : b < w.heap.size ∨ w3.heap.size + 1 ≤ b := by simpa using hb
  have h0 : b ≠ Q0 := by omega
  have h2 : b ≠ Q2 := by omega
  rw [set_far (by exact h2), set_far (by exact h2), set_far (by exact h2), set_far (by exact h2), set_far (by exact h0)]
set_option maxRecDepth 100000 in
set_option maxHeartbeats 4000000 in
/-- at a level, a kid -/
theorem put_kid (x nm tx : Tx) (j n : Nat) (hn : n ≤ 6) (hjn : j ≤ n) (B : Nat) (lv : Nat → Lv) (hm : (lv j).ks.length + (decide (j < n)).toNat < 1000) (col : Nat → Nat) (w : World) (WA : Option Addr) (wc : Nat) (h : SubL B col w j n lv) (hB : B ≤ w.heap.size) :
    Calls Tryz.prog 57 #[itV (lv j) (decide (j < n)), .slice WA 0 wc, .bool false, .string ⟨x.toArray⟩, kidV nm tx] w (PutP B col (addKid ⟨nm, tx, [], []⟩) j j n (j + 1) lv w) := by
  have H := Lib.hid h
  have hown := h.own (Nat.le_refl _) hjn
  obtain ⟨M, hM⟩ : ∃ M, M = (lv j).ks.length + (decide (j < n)).toNat := ⟨_, rfl⟩
  unfold itV kidV
  rw [← hM] at hm ⊢
  obtain ⟨w1, hw1⟩ : ∃ w1, w1 = w.alloc (.cells #[.string ⟨(lv j).label.toArray⟩, .string ⟨(lv j).head.toArray⟩, .slice (lv j).LA (lv j).lines.length (lv j).lc, .slice (lv j).KA M (lv j).kc] 26) := ⟨_, rfl⟩
  have x1 : Below w.heap.size w w1 := by rw [hw1]; exact ext_alloc w _
  have c1 : Blk w1 w.heap.size 26 [.string ⟨(lv j).label.toArray⟩, .string ⟨(lv j).head.toArray⟩, .slice (lv j).LA (lv j).lines.length (lv j).lc, .slice (lv j).KA M (lv j).kc] := by rw [hw1]; exact Blk.new w _ _
  have z1 : w1.heap.size = w.heap.size + 1 := by rw [hw1]; simp
  obtain ⟨w2, hw2⟩ : ∃ w2, w2 = w1.alloc (.cells #[.string ⟨nm.toArray⟩, .string ⟨tx.toArray⟩, .slice none 0 0, .slice none 0 0] 26) := ⟨_, rfl⟩
  have x2 : Below w1.heap.size w1 w2 := by rw [hw2]; exact ext_alloc w1 _
  have c2 : Blk w2 (w.heap.size + 1) 26 [.string ⟨nm.toArray⟩, .string ⟨tx.toArray⟩, .slice none 0 0, .slice none 0 0] := by rw [hw2, ← z1]; exact Blk.new w1 _ _
  have z2 : w2.heap.size = w.heap.size + 1 + 1 := by rw [hw2]; simp [z1]
  obtain ⟨w3, hw3⟩ : ∃ w3, w3 = w2.alloc (.cells #[.string ⟨#[]⟩, .string ⟨#[]⟩, .slice none 0 0, .slice none 0 0] 26) := ⟨_, rfl⟩
  have x3 : Below w2.heap.size w2 w3 := by rw [hw3]; exact ext_alloc w2 _
  have c3 : Blk w3 (w.heap.size + 1 + 1) 26 zeroI := by rw [hw3, ← z2]; exact Blk.new w2 _ zeroI
  have z3 : w3.heap.size = w.heap.size + 1 + 1 + 1 := by rw [hw3]; simp [z2]
  have X3 := ext_trans x1 (ext_trans x2 x3)
  have X4 := ext_trans X3 (ext_alloc w3 (.cells #[.string ⟨nm.toArray⟩, .string ⟨tx.toArray⟩, .slice none 0 0, .slice none 0 0] 26))
  have HX4 := Lib.hid X4
  have HS := Lib.hid (H.out.col5 (by omega) X4)
  have HC1 := Lib.hid (blk_ext2 c1 (ext_trans x2 (ext_trans x3 (ext_alloc w3 (.cells #[.string ⟨nm.toArray⟩, .string ⟨tx.toArray⟩, .slice none 0 0, .slice none 0 0] 26)))))
  have HC3 := Lib.hid (blk_ext2 c3 (ext_alloc w3 (.cells #[.string ⟨nm.toArray⟩, .string ⟨tx.toArray⟩, .slice none 0 0, .slice none 0 0] 26)))
  obtain ⟨Q0, hQ0⟩ : ∃ Q0, Q0 = w.heap.size := ⟨_, rfl⟩
  obtain ⟨Q1, hQ1⟩ : ∃ Q1, Q1 = w.heap.size + 1 := ⟨_, rfl⟩
  obtain ⟨Q2, hQ2⟩ : ∃ Q2, Q2 = w.heap.size + 1 + 1 := ⟨_, rfl⟩
  rw [← hQ2] at HC3 c3
  rw [← hQ0] at HC1 c1
  rw [← hQ1] at c2
  have c1 := blk_ext2 c1 (ext_trans x2 x3)
  have c2 := blk_ext2 c2 x3
  have l3 := c1.cell 3 rfl
  have k0 := c2.cell 0 rfl
  have k1 := c2.cell 1 rfl
  have k2 := c2.cell 2 rfl
  have k3 := c2.cell 3 rfl
  have HQ := Lib.hid (And.intro hQ0 (And.intro hQ1 hQ2))
  have HZ := Lib.hid z3
  have hq02 : Q0 ≠ Q2 := by omega
  obtain ⟨j0, hj0, hz0, hz1, hz2⟩ := info_parts it_infoR
  have HJ := Lib.hid hj0
  have HJ0 := Lib.hid hz0
  have HJ1 := Lib.hid hz1
  have HJ2 := Lib.hid hz2
  have HB := Lib.hid hB
  have HM := Lib.hid hM
  have HOw := Lib.hid (show (w3.alloc (.cells #[.string ⟨nm.toArray⟩, .string ⟨tx.toArray⟩, .slice none 0 0, .slice none 0 0] 26)).ownsRow B 26 4 (.slice (lv j).KA M (lv j).kc) M (rowsO lv n j).flatten from by rw [hM]; exact (HS.out.own (Nat.le_refl _) hjn).1)
  have HLt := Lib.hid (show ∀ q, (Value.slice (lv j).KA M (lv j).kc).ownBlock = some q → q < w.heap.size from fun q e => (hown.1.lt q (by rw [← hM]; exact e)).2)
  clear h hown hj0 hz0 hz1 hz2 c1 c2 c3 x1 x2 x3 X3 X4 z1 z2 z3 hB hM
  go_enter Tryz.func57, Tryz.ntmps57
  go_upto_region 1 with fail
  rw [← hw1, ← hw2, ← hw3, ← hQ2, ← hQ1, ← hQ0]
  clear hw1 hw2 hw3 hQ2 hQ1 hQ0
  go_wp2_with (at_builtin; refine wpList_append_lies _ rfl _ _ 24 rfl B 26 j0 _ 4 80 Tryz.underlying24 HJ.out HJ0.out HJ1.out HJ2.out rfl (by omega) (.slice (lv j).KA M (lv j).kc) M (rowsO lv n j).flatten rfl HOw.out ⟨w3.heap.size, 0, none⟩ 1 1 [.string ⟨nm.toArray⟩, .string ⟨tx.toArray⟩, .slice none 0 0, .slice none 0 0] rfl rfl (new_cells w3 [.string ⟨nm.toArray⟩, .string ⟨tx.toArray⟩, .slice none 0 0, .slice none 0 0] _ _ rfl) (by intro v hv; simp only [List.mem_cons, List.not_mem_nil, or_false] at hv; rcases hv with rfl | rfl | rfl | rfl <;> rfl) (by omega) (by simp only [maxLen]; omega) (by omega) (by have := HX4.out.size; have := HB.out; omega) _ rfl ?_; intro g5 c5 w7 hown1 hg1 hfr _; have HO7 := Lib.hid hown1; have HG7 := Lib.hid hg1; have HFr := Lib.hid hfr; have HN1 := Lib.hid (show ∀ q, w.heap.size ≤ q → q < w.heap.size + 1 + 1 + 1 → some q ≠ (Value.slice (lv j).KA M (lv j).kc).ownBlock ∧ q < (w3.alloc (.cells #[.string ⟨nm.toArray⟩, .string ⟨tx.toArray⟩, .slice none 0 0, .slice none 0 0] 26)).heap.size from fun q h1 h2 => ⟨fun e => by have := HLt.out q e.symm; omega, by have := HZ.out; simp; omega⟩); have d1 : Blk w7 Q0 26 _ := blk_grown HC1.out hg1 (HN1.out Q0 (by have := HQ.out; omega) (by have := HQ.out; omega)); have d3 : Blk w7 Q2 26 _ := blk_grown HC3.out hg1 (HN1.out Q2 (by have := HQ.out; omega) (by have := HQ.out; omega)); have HD1 := Lib.hid d1; have HD3 := Lib.hid d3; have y0 := d1.cell 0 rfl; have y1 := d1.cell 1 rfl; have y2 := d1.cell 2 rfl; have y3 := d1.cell 3 rfl; have e0 := d1.free 3; have m0 := d3.cell 0 rfl; have m1 := d3.cell 1 rfl; have m2 := d3.cell 2 rfl; have m3 := d3.cell 3 rfl; have f0 := d3.free 0; have f1 := d3.free 1; have f2 := d3.free 2; have f3 := d3.free 3; clear hown1 hg1 hfr d1 d3 l3)
  have s := ((((blk_far (a := ⟨Q0, 3, none⟩) HD3.out (by exact hq02.symm) (.slice (some ⟨g5, 0, none⟩) (M + 1) c5)).set 0 (.string ⟨(lv j).label.toArray⟩)).set 1 (.string ⟨(lv j).head.toArray⟩)).set 2 (.slice (lv j).LA (lv j).lines.length (lv j).lc)).set 3 (.slice (some ⟨g5, 0, none⟩) (M + 1) c5)
  have s0 := s.cell 0 rfl
  have s1 := s.cell 1 rfl
  have s2 := s.cell 2 rfl
  have s3 := s.cell 3 rfl
  have hM := HM.out
  have hp := PutR.kid HS.out (by omega) nm tx (by rw [← hM]; exact hm) g5 c5 (by rw [← hM]; exact HO7.out) (by rw [← hM]; exact HG7.out) (by rw [← hM]; rcases HFr.out with e | e; exact .inl e; exact .inr (by omega))
  rw [← hM] at hp
  refine bodyPost_ret (v := .agg #[.string ⟨(lv j).label.toArray⟩, .string ⟨(lv j).head.toArray⟩, .slice (lv j).LA (lv j).lines.length (lv j).lc, .slice (some ⟨g5, 0, none⟩) (M + 1) c5]) (by simp [results, Tryz.results57, go_sem, s0, s1, s2, s3]) rfl (putp_of rfl (PutR.wrap HX4.out (by omega) hp (fun b hb => ?_) (by simp) ⟨by simp only [set_os], by simp only [set_tape], by simp only [set_out]⟩))
  have hz := HZ.out
  have hq := HQ.out
  have hb2 : b < w.heap.size ∨ w3.heap.size + 1 ≤ b := by simpa using hb
  have h0 : b ≠ Q0 := by omega
  have h2 : b ≠ Q2 := by omega
  rw [set_far (by exact h2), set_far (by exact h2), set_far (by exact h2), set_far (by exact h2), set_far (by exact h0)]
end Go.Proofs.YtflklbhgjfonbaaGreatDoor.Sc

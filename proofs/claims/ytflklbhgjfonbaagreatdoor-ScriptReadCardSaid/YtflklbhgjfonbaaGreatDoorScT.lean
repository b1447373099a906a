/- Laws as texts: what the program's Read leans on: a new reader, a blank row, what the loop keeps. -/
import Derived.Test.YtflklbhgjfonbaaGreatDoorScQ
import Derived.Test.YtflklbhgjfonbaaGreatDoorScF
import Derived.Test.YtflklbhgjfonbaaGreatDoorWtR
namespace Go.Proofs.YtflklbhgjfonbaaGreatDoor.Sc
open Go.RowKit Mem Nest Fk Err Lk Gp

def zeroI : List Value := [.string ⟨#[]⟩, .string ⟨#[]⟩, .slice none 0 0, .slice none 0 0]
theorem dw_nil (p : UInt8 → Bool) : ∀ l : Tx, l.dropWhile p = [] ↔ ∀ x, x ∈ l → p x = true
  | [] => by simp
  | a :: l => by
    by_cases h : p a = true
    · rw [List.dropWhile_cons_of_pos h, dw_nil p l]
      simp [h]
    · rw [List.dropWhile_cons_of_neg h]
      simp [h]
theorem trim_blank (s : Tx) : (Lib.trimB s 32 = []) ↔ blankB s = true := by
  unfold Lib.trimB Lib.trimLeftB Lib.trimRightB blankB
  rw [dw_nil, List.all_eq_true]
  constructor
  · intro h x hx
    by_cases hr : s.reverse.dropWhile (· == 32) = []
    · rw [dw_nil] at hr
      exact hr x (List.mem_reverse.2 hx)
    · obtain ⟨y, t, e⟩ := List.exists_cons_of_ne_nil hr
      have h1 : (y == 32) = false := by
        have h2 := List.head?_dropWhile_not (p := (· == 32)) (l := s.reverse)
        rw [e] at h2
        simpa using h2
      have h2 := h y (by rw [e]; simp)
      rw [h1] at h2
      cases h2
  · intro h x hx
    rw [List.mem_reverse] at hx
    exact h x (List.mem_reverse.1 ((List.dropWhile_sublist _).subset hx))
def NewP (L0 : Nat) (w : World) (e : Ending) (w' : World) : Prop :=
  e = .returned (.pointer (some ⟨w.heap.size + 1, 0, none⟩)) ∧ w' = (w.alloc (.cells #[.pointer (some ⟨L0, 0, none⟩)] 58)).alloc (.cells #[.slice (some ⟨w.heap.size, 0, none⟩) 1 1, .int .i64 0] 103)
theorem pnew (L0 : Nat) (w : World) : Calls Tryz.prog 23 #[.pointer (some ⟨L0, 0, none⟩)] w (NewP L0 w) := by
  go_enter Tryz.func23, Tryz.ntmps23
  go_wp2_with fail
  go_ret
  exact ⟨by simp, by simp⟩
def lv0 (x : Tx) : Nat → Lv := fun _ => newLv [] x
theorem Rdr.start {B : Nat} {w : World} {L0 : Nat} {x : Tx} (hB : B ≤ L0) (h0 : Blk w L0 26 ((lv0 x 0).hdr false)) :
    Rdr B (fun b => if b = L0 then 3 else if b = w.heap.size then 2 else if b = w.heap.size + 1 then 1 else 4) ((w.alloc (.cells #[.pointer (some ⟨L0, 0, none⟩)] 58)).alloc (.cells #[.slice (some ⟨w.heap.size, 0, none⟩) 1 1, .int .i64 0] 103)) (w.heap.size + 1) L0 0 0 (lv0 x) := by
  have hl := h0.lt
  have x1 := ext_alloc w (.cells #[.pointer (some ⟨L0, 0, none⟩)] 58)
  have o1 := World.ownsRow_lit (base := B) (e := 58) (size := 1) w #[.pointer (some ⟨L0, 0, none⟩)] 1 (by omega) (by simp [maxLen]) rfl
  obtain ⟨V, hV⟩ : ∃ V, V = w.alloc (.cells #[.pointer (some ⟨L0, 0, none⟩)] 58) := ⟨_, rfl⟩
  have hsz : V.heap.size = w.heap.size + 1 := by rw [hV]; simp
  rw [← hV] at x1 o1 ⊢
  have x2 := ext_alloc V (.cells #[.slice (some ⟨w.heap.size, 0, none⟩) 1 1, .int .i64 0] 103)
  have b2 := Blk.new V 103 [.slice (some ⟨w.heap.size, 0, none⟩) 1 1, .int .i64 0]
  rw [hsz] at b2
  refine ⟨⟨fun k hk => rfl, fun k hk j q s hq hs => by simp [lv0, newLv] at hq, fun k hk => by simp [lv0, newLv], fun k hk => by omega, ⟨World.ownsRow_nil _ _ _ _, fun g hg => by cases hg⟩, ⟨World.ownsRow_nil _ _ _ _, fun g hg => by cases hg⟩⟩, blk_ext2 h0 (ext_trans x1 x2), by simp, hB, ⟨some ⟨w.heap.size, 0, none⟩, 1, b2, ⟨?_, ?_⟩⟩, by simp only; rw [if_neg (by omega), if_neg (by omega)]; simp, by omega, by omega, by omega, fun k hk => by simp [lv0, newLv]⟩
  · exact World.ownsRow.alloc o1 _
  · intro g hg
    have e : some w.heap.size = some g := hg
    simp only [Option.some.injEq] at e
    simp only
    rw [if_neg (by omega), if_pos e.symm]
/-- what reading leaves as it is: all blocks of before but one -/
structure Fr (L0 : Nat) (w w' : World) : Prop where
  os : w'.os = w.os
  tape : w'.tape = w.tape
  output : w'.output = w.output
  size : w.heap.size ≤ w'.heap.size
  blk : ∀ b, b < w.heap.size → b ≠ L0 → w'.heap[b]? = w.heap[b]?
theorem Fr.refl (L0 : Nat) (w : World) : Fr L0 w w := ⟨rfl, rfl, rfl, Nat.le_refl _, fun _ _ _ => rfl⟩
theorem Fr.ext {L0 : Nat} {w w1 w2 : World} (h : Fr L0 w w1) (hb : Below w1.heap.size w1 w2) : Fr L0 w w2 := ⟨hb.os.trans h.os, hb.tape.trans h.tape, hb.output.trans h.output, Nat.le_trans h.size hb.size, fun b hl hn => (hb.block b (Nat.lt_of_lt_of_le hl h.size)).trans (h.blk b hl hn)⟩
theorem Fr.kept {L0 B : Nat} {col col' : Nat → Nat} {w w1 w2 : World} (h : Fr L0 w w1) (hc : ∀ b, b < w.heap.size → b ≠ L0 → col b = 4) (hk : Kept B col col' w1 w2) : Fr L0 w w2 ∧ ∀ b, b < w.heap.size → b ≠ L0 → col' b = 4 := by
  obtain ⟨⟨a1, a2, a3, a4, _⟩, a6⟩ := hk
  have hb : ∀ b, b < w.heap.size → b ≠ L0 → w2.heap[b]? = w1.heap[b]? ∧ col' b = col b := fun b hl hn => a6 b (Nat.lt_of_lt_of_le hl h.size) (by rw [hc b hl hn]; omega) (by rw [hc b hl hn]; omega)
  exact ⟨⟨a1.trans h.os, a2.trans h.tape, a3.trans h.output, Nat.le_trans h.size a4, fun b hl hn => ((hb b hl hn).1).trans (h.blk b hl hn)⟩, fun b hl hn => ((hb b hl hn).2).trans (hc b hl hn)⟩
theorem Fr.set {L0 : Nat} {w w1 : World} (h : Fr L0 w w1) (k : Nat) (v : Value) : Fr L0 w (w1.setCell ⟨L0, k, none⟩ v) := ⟨h.os, h.tape, h.output, by have := h.size; simpa using this, fun b hl hn => by rw [set_far (a := ⟨L0, k, none⟩) hn]; exact h.blk b hl hn⟩
theorem Fr.below {L0 : Nat} {w0 w w1 : World} (h : Fr L0 w w1) (h0 : Below w0.heap.size w0 w) (hL : w0.heap.size ≤ L0) : Below w0.heap.size w0 w1 :=
  ⟨h.os.trans h0.os, h.tape.trans h0.tape, h.output.trans h0.output, Nat.le_trans h0.size h.size, fun b hb => (h.blk b (Nat.lt_of_lt_of_le hb h0.size) (by omega)).trans (h0.block b hb)⟩
theorem Fr.at_blk {L0 : Nat} {w w1 : World} (h : Fr L0 w w1) {b : Nat} {T : TypeId} {cs : List Value} (hb : Blk w b T cs) (hn : b ≠ L0) : Blk w1 b T cs := by
  have hl := hb.lt
  unfold Blk at hb ⊢
  rw [h.blk b hl hn]
  exact hb
theorem Fr.rd {L0 : Nat} {w w1 : World} (h : Fr L0 w w1) {A : Option Addr} {cs : List Value} (hr : Rd w A cs) (hn : ∀ b o, A = some ⟨b, o, none⟩ → b ≠ L0) : Rd w1 A cs := fun j u hj => by
  obtain ⟨b, o, e, hc⟩ := hr j u hj
  exact ⟨b, o, e, by rw [World.cell?_of_block (w := w) (h.blk b (Mem.cell_lt hc) (hn b o e))]; exact hc⟩
/-- what reading comes to: the law and no error, or an error with its row -/
def ReadP (E : Nat → Addr) (s : Tx) (w : World) (e : Ending) (w' : World) : Prop :=
  Below w.heap.size w w' ∧ match readF s with
    | .inl (c, k) => ∃ pb, e = .returned (.tuple #[.agg zeroI.toArray, .iface 47 (.pointer (some ⟨pb, 0, none⟩))]) ∧ w'.cell? ⟨pb, 0, none⟩ = some (.int .i64 (k : Int)) ∧ w'.cell? ⟨pb, 1, none⟩ = some (errI E c)
    | .inr t => ∃ V : List Value, e = .returned (.tuple #[.agg V.toArray, .nilIface]) ∧ TrM w' (fun _ => True) 10 t V
theorem readp_bad {E : Nat → Addr} {s : Tx} {w w' : World} {c : Int} {k : Nat} (h : readF s = .inl (c, k)) (pb : Nat) (hb : Below w.heap.size w w') (h0 : w'.cell? ⟨pb, 0, none⟩ = some (.int .i64 (k : Int))) (h1 : w'.cell? ⟨pb, 1, none⟩ = some (errI E c)) :
    ReadP E s w (.returned (.tuple #[.agg zeroI.toArray, .iface 47 (.pointer (some ⟨pb, 0, none⟩))])) w' := by
  refine ⟨hb, ?_⟩
  rw [h]
  exact ⟨pb, rfl, h0, h1⟩
theorem readp_good {E : Nat → Addr} {s : Tx} {w w' : World} {t : It} (h : readF s = .inr t) (V : List Value) (hb : Below w.heap.size w w') (hT : TrM w' (fun _ => True) 10 t V) : ReadP E s w (.returned (.tuple #[.agg V.toArray, .nilIface])) w' := by
  refine ⟨hb, ?_⟩
  rw [h]
  exact ⟨V, rfl, hT⟩
theorem read_bad {s : Tx} (hl : ¬ 30000 < s.length) {c : Int} {k : Nat} (h : loopF (Wt.rowsF s) 0 none = .inl (c, k)) : readF s = .inl (c, k) := by
  unfold readF
  rw [if_neg hl, h]
  rfl
theorem read_none {s : Tx} (hl : ¬ 30000 < s.length) (h : At (Wt.rowsF s) (Wt.rowsF s).length none) : readF s = .inl (1, (Wt.rowsF s).length) := by
  unfold readF
  rw [if_neg hl, h.done]
  rfl
theorem read_done {s : Tx} (hl : ¬ 30000 < s.length) {st : St} (h : At (Wt.rowsF s) (Wt.rowsF s).length (some st)) : readF s = .inr st.t := by
  unfold readF
  rw [if_neg hl, h.done]
  rfl
theorem bh_le {s : Tx} (h : bhC s = 0) : (bhP s).length ≤ 300 := by
  unfold bhC Gp.lineC at h
  unfold bhP
  by_cases e : s = []
  · rw [if_pos e]; simp
  · rw [if_neg e] at h ⊢
    by_cases e2 : s.head? = some 32 ∧ s.length ≠ 1
    · rw [if_pos e2] at h
      rw [if_pos e2.1]
      by_cases e3 : 300 < (s.drop 1).length
      · rw [if_pos e3] at h; cases h
      · omega
    · rw [if_neg e2] at h; cases h
def Rows2 (s : Tx) (w : World) (e : Ending) (w' : World) : Prop := ∃ (A : Option Addr) (c : Nat), e = .returned (.slice A (Wt.rowsF s).length c) ∧ Rd w' A ((Wt.rowsF s).map Wt.strV) ∧ (∀ b o, A = some ⟨b, o, none⟩ → w.heap.size ≤ b) ∧ Below w.heap.size w w'
set_option maxHeartbeats 1000000 in
theorem prows2 (s : Tx) (hl : s.length ≤ 30000) (m : Int) (w : World) (hm : w.cell? ⟨14, 0, none⟩ = some (.int .i64 m)) :
    Calls Tryz.prog 17 #[.string ⟨s.toArray⟩] w (Rows2 s w) := by
  have HM := Lib.hid hm
  clear hm
  by_cases hs : s = []
  · subst hs
    go_enter Tryz.func17, Tryz.ntmps17
    go_wp2_with fail
    go_ret
    exact ⟨none, 0, rfl, Rd.nil, (fun b o h => by cases h), Below.refl _ _⟩
  · have he : s.isEmpty = false := by cases s with
      | nil => exact absurd rfl hs
      | cons _ _ => rfl
    have HS := Lib.hid hs
    clear hs
    go_enter Tryz.func17, Tryz.ntmps17
    go_wp2_with fail
    refine (Tryz.strings_TrimSuffix ⟨s.toArray⟩ ⟨#[10]⟩ _ (by rw [Wt.ba_len]; omega)).mono ?_
    rintro e w1 ⟨rfl, rfl⟩
    go_wp2_with fail
    refine (Wt.split_any 10 (Lib.trimSuffix s [10]) m _ (Nat.le_trans (Wt.trim_len s) hl) HM.out).mono ?_
    rintro e w2 ⟨rfl, rfl⟩
    go_wp2_with fail
    go_ret
    have h := Wt.rows_prog s HS.out
    rw [h]
    exact ⟨_, _, rfl, Wt.rd_new _ _ _, (fun b o h => by simp only [Option.some.injEq, Addr.mk.injEq] at h; omega), ext_alloc _ _⟩
end Go.Proofs.YtflklbhgjfonbaaGreatDoor.Sc

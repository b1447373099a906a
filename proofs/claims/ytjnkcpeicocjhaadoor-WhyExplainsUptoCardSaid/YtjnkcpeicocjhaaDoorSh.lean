/- What is shown, as the document keeps it: four marks of each place; plain. What the document's reasoning reads of what is shown: has, every, some, isOver, help, lost. -/
import Derived.Test.YtjnkcpeicocjhaaDoorCheck
import Derived.Test.YtjnkcpeicocjhaaDoorLawT
namespace Go.Proofs.YtjnkcpeicocjhaaDoor.Sh
open Thy Sol Mem

def mk4 (x : Int × Int) : List Value := [.bool (x.1 == 1), .bool (x.1 == 2), .bool (x.2 == 1), .bool (x.2 == 2)]
theorem mk4_len (x : Int × Int) : (mk4 x).length = 4 := rfl
/-- the marks' cells -/
def marks (S H : List Int) : List Value := (S.zip H).flatMap mk4
def kind (a b : Bool) : Nat := match a, b with
  | true, true => 0
  | true, false => 1
  | false, true => 2
  | false, false => 3
theorem kind_lt (a b : Bool) : kind a b < 4 := by cases a <;> cases b <;> decide
theorem marks_len {S H : List Int} (h : S.length = H.length) : (marks S H).length = S.length * 4 := by
  unfold marks
  rw [flat_len mk4_len, List.length_zip, ← h, Nat.min_self]
theorem marks_at {S H : List Int} (h : S.length = H.length) (a b : Bool) {q : Int} (hq : q ≠ 0) (hp : place q < S.length) :
    (marks S H)[place q * 4 + kind a b]? = some (.bool (pick a (stOf S) (stOf H) q == val b)) := by
  unfold marks
  have hz : (S.zip H)[place q]? = some (S[place q], H[place q]'(h ▸ hp)) := by
    rw [List.getElem?_eq_getElem (by rw [List.length_zip]; omega), List.getElem_zip]
  have hS : stOf S q = S[place q] := by simp [stOf, hq, List.getD, hp]
  have hH : stOf H q = H[place q]'(h ▸ hp) := by simp [stOf, hq, List.getD, h ▸ hp]
  rw [flat_at mk4_len _ _ _ (kind_lt a b), hz]
  cases a <;> cases b <;> simp [mk4, kind, pick, val, hS, hH]
theorem flat_set {α : Type} {sz : Nat} {f : α → List Value} (hf : ∀ x, (f x).length = sz) {v : Value} {y : α} : ∀ (l : List α) (k j : Nat) (hk : k < l.length), j < sz → f y = (f l[k]).set j v → (l.flatMap f).set (k * sz + j) v = (l.set k y).flatMap f
  | [], k, j, hk, _, _ => by simp at hk
  | x :: l, 0, j, _, hj, he => by
    simp only [List.flatMap_cons, Nat.zero_mul, Nat.zero_add, List.set_cons_zero]
    rw [List.set_append_left _ _ (by rw [hf]; exact hj)]
    simp only [List.getElem_cons_zero] at he
    rw [he]
  | x :: l, k + 1, j, hk, hj, he => by
    have ih := flat_set hf l k j (by simpa using hk) hj (by simpa using he)
    simp only [List.flatMap_cons, List.set_cons_succ]
    rw [List.set_append_right _ _ (by rw [hf, Nat.add_mul]; omega), hf, show (k + 1) * sz + j - sz = k * sz + j by rw [Nat.add_mul]; omega, ih]
theorem zip_set_l {S H : List Int} (k : Nat) (v : Int) (hk : k < H.length) : (S.zip H).set k (v, H[k]) = (S.set k v).zip H := by
  induction S generalizing H k with
  | nil => simp
  | cons x S ih =>
    cases H with
    | nil => simp at hk
    | cons y H =>
      cases k with
      | zero => simp
      | succ k =>
        have := ih (H := H) k (by simpa using hk)
        simp only [List.zip_cons_cons, List.set_cons_succ, List.getElem_cons_succ, this]
theorem zip_set_r {S H : List Int} (k : Nat) (v : Int) (hk : k < S.length) : (S.zip H).set k (S[k], v) = S.zip (H.set k v) := by
  induction S generalizing H k with
  | nil => simp at hk
  | cons x S ih =>
    cases H with
    | nil => simp
    | cons y H =>
      cases k with
      | zero => simp
      | succ k =>
        have := ih (H := H) k (by simpa using hk)
        simp only [List.zip_cons_cons, List.set_cons_succ, List.getElem_cons_succ, this]
/-- a mark is laid where none against it lies -/
theorem marks_set {S H : List Int} (h : S.length = H.length) (a b : Bool) {q : Int} (hq : q ≠ 0) (hp : place q < S.length) (hz : pick a (stOf S) (stOf H) q = 0 ∨ pick a (stOf S) (stOf H) q = val b) :
    (marks S H).set (place q * 4 + kind a b) (.bool true) = marks (setS a b q S) (setH a b q H) := by
  have hS : stOf S q = S[place q] := by simp [stOf, hq, List.getD, hp]
  have hH : stOf H q = H[place q]'(h ▸ hp) := by simp [stOf, hq, List.getD, h ▸ hp]
  have hl : place q < (S.zip H).length := by rw [List.length_zip]; omega
  unfold marks
  cases a
  · simp only [pick, hH] at hz
    rw [flat_set mk4_len (y := (S[place q], val b)) _ _ _ hl (kind_lt _ _) (by
      rw [List.getElem_zip]
      generalize S[place q] = x at *
      generalize H[place q] = y at *
      cases b <;> rcases hz with hz | hz <;> simp [mk4, kind, val] at hz ⊢ <;> simp [hz]), zip_set_r _ _ hp]
    rfl
  · simp only [pick, hS] at hz
    rw [flat_set mk4_len (y := (val b, H[place q]'(h ▸ hp))) _ _ _ hl (kind_lt _ _) (by
      rw [List.getElem_zip]
      generalize S[place q] = x at *
      generalize H[place q]'_ = y at *
      cases b <;> rcases hz with hz | hz <;> simp [mk4, kind, val] at hz ⊢ <;> simp [hz]), zip_set_l _ _ (h ▸ hp)]
    rfl
theorem marks_zeros (n : Nat) : marks (List.replicate n 0) (List.replicate n 0) = List.replicate (n * 4) (.bool false) := by
  unfold marks
  induction n with
  | zero => rfl
  | succ n ih =>
    simp only [List.replicate_succ, List.zip_cons_cons, List.flatMap_cons]
    rw [ih, Nat.add_mul]
    simp [mk4, List.replicate_succ]
/-- what is marked agrees: nothing against it lies there -/
theorem Good_free {t : Th} {s h : St} (g : Thy.Good t s h) {a b : Bool} {q : Int} (f : Fol t s h a b q) : pick a s h q = 0 ∨ pick a s h q = val b := by
  rcases g.each a q with z | ⟨b', e', f'⟩
  · exact .inl z
  · refine .inr ?_
    cases b <;> cases b'
    · exact e'
    · exact (f'.excl f).elim
    · exact (f.excl f').elim
    · exact e'
end Go.Proofs.YtjnkcpeicocjhaaDoor.Sh
namespace Go.Proofs.YtjnkcpeicocjhaaDoor.Sh
open Go.RowKit Mem Thy Nest Day Thm Sol Val Solve LawT

/-- where what is shown and its theory lie -/
structure ShP where
  w0 : World
  B : Nat
  lb : Nat
  b : Nat
  o : Nat
  n : Nat
  rs : List Rw
  RA : Option Addr
  rc : Nat
  ov : List (Int × Int)
  OA : Option Addr
  oc : Nat
def ShP.th (p : ShP) : Th := thOf p.n p.rs p.ov
structure ShP.Ok (p : ShP) : Prop where
  a : ThA p.w0 p.b p.o p.n p.rs p.RA p.rc p.ov p.OA p.oc
  r : Right p.n p.rs p.ov
  d1 : p.w0.heap.size ≤ p.B
  d2 : p.w0.heap.size ≤ p.lb
  ne : p.B ≠ p.lb
structure Sh (w : World) (p : ShP) (S H : List Int) : Prop where
  below : Below p.w0.heap.size p.w0 w
  blk : Blk w p.B 80 [.pointer (some ⟨p.b, p.o, none⟩), .slice (some ⟨p.lb, 0, none⟩) (2 * p.n) (2 * p.n)]
  l : Blk w p.lb 77 (marks S H)
  ls : S.length = 2 * p.n
  lh : H.length = 2 * p.n
section
variable {w w' : World} {p : ShP} {S H : List Int}
theorem Sh.ext (h : Sh w p S H) (hb : Below w.heap.size w w') : Sh w' p S H :=
  ⟨h.below.trans (hb.mono h.below.size), blk_ext h.blk hb, blk_ext h.l hb, h.ls, h.lh⟩
theorem Sh.a (h : Sh w p S H) (ok : p.Ok) : ThA w p.b p.o p.n p.rs p.RA p.rc p.ov p.OA p.oc := ok.a.ext h.below
theorem lit_bd {q : Int} (hq : p.th.Lit q) : q ≠ 0 ∧ -(p.n : Int) ≤ q ∧ q ≤ p.n := hq
theorem ShP.Ok.n (ok : p.Ok) : p.n ≤ 120 := by have := ok.r.names; omega
theorem lit_place {q : Int} (hq : p.th.Lit q) : place q < 2 * p.n := by
  obtain ⟨a, b, c⟩ := lit_bd hq
  have := place_lt a b c
  omega
theorem Sh.at_ (h : Sh w p S H) (a b : Bool) {q : Int} (hq : p.th.Lit q) : w.cell? ⟨p.lb, place q * 4 + kind a b, none⟩ = some (.bool (pick a (stOf S) (stOf H) q == val b)) :=
  h.l.cell _ (marks_at (by rw [h.ls, h.lh]) a b (lit_bd hq).1 (by rw [h.ls]; exact lit_place hq))
end
set_option maxHeartbeats 400000 in
theorem has_any (p : ShP) (S H : List Int) (ok : p.Ok) (a b : Bool) (q : Int) (hq : p.th.Lit q) (w : World) (h : Sh w p S H) :
    Calls Tryd.prog 58 #[.pointer (some ⟨p.B, 0, none⟩), .int .i64 q, .int .i64 (kind a b : Nat)] w fun e w' => e = .returned (.bool (pick a (stOf S) (stOf H) q == val b)) ∧ ∃ n, w' = w.drewN n := by
  have hc := h.at_ a b hq
  have hs : w.cell? ⟨p.B, 1, none⟩ = some (.slice (some ⟨p.lb, 0, none⟩) (2 * p.n) (2 * p.n)) := h.blk.cell 1 rfl
  have hn := ok.n
  obtain ⟨q0, q1, q2⟩ := lit_bd hq
  have hp0 : (0 : Int) ≤ ((place q : Nat) : Int) := by omega
  have hp1 : ((place q : Nat) : Int) < ((2 * p.n : Nat) : Int) := by
    have := lit_place hq
    omega
  have hk0 : (0 : Int) ≤ ((kind a b : Nat) : Int) := by omega
  have hk1 : ((kind a b : Nat) : Int) < 4 := by
    have := kind_lt a b
    omega
  have HP := Lib.hid (ReasonTotal.place4_any q q0 (by omega) (by omega))
  generalize kind a b = k at *
  generalize (pick a (stOf S) (stOf H) q == val b) = r at *
  clear h hq ok
  go_enter Tryd.func58, Tryd.ntmps58
  go_wp2_with fail
  go_quiet ((go_at_call 28; exact quiet_same (HP.out _)))
  go_wp2_with fail
  go_ret
  exact ⟨rfl, _, rfl⟩
theorem rs_len {p : ShP} (ok : p.Ok) : p.rs.length ≤ 120 := by
  have h : ¬ Bound0 p.n p.rs p.ov := fun x => ok.r.b (.inl x)
  unfold Bound0 at h
  omega
theorem body_len {p : ShP} (ok : p.Ok) : ∀ r ∈ p.rs, r.body.length ≤ 120 := fun r hr => Nat.not_lt.1 fun c => ok.r.b (.inr ⟨r, hr, c⟩)
theorem body_lit {p : ShP} (ok : p.Ok) : ∀ r ∈ p.rs, ∀ x ∈ r.body, p.th.Lit x := fun r hr x hx => by
  have hN := ok.r.names
  exact (litW_iff (by omega) hN.2).1 (Classical.byContradiction fun c => ok.r.n (.inl ⟨r, hr, .inr ⟨x, hx, c⟩⟩))
set_option maxHeartbeats 400000 in
theorem every_any (p : ShP) (S H : List Int) (ok : p.Ok) (a b : Bool) (A : Option Addr) (c : Nat) (l : List Int) (hl : ∀ x ∈ l, p.th.Lit x) (hm : l.length ≤ 120) (w : World) (h : Sh w p S H) (hr : Rd w A (ints l)) :
    Calls Tryd.prog 119 #[.pointer (some ⟨p.B, 0, none⟩), .slice A l.length c, .int .i64 (kind a b : Nat)] w (BoolOf w (∀ x ∈ l, pick a (stOf S) (stOf H) x = val b)) := by
  have HS := Lib.hid h
  have HR := Lib.hid hr
  have OK := Lib.hid ok
  have HL := Lib.hid hl
  clear h hr ok hl
  go_enter Tryd.func119, Tryd.ntmps119
  go_wp2_with fail
  go_loopw [7] (fun t7 wr => ∃ k : Nat, t7 = .int .i64 k ∧ k ≤ l.length ∧ Hid (Below w.heap.size w wr) ∧ Hid (∀ j (h : j < l.length), j < k → pick a (stOf S) (stOf H) l[j] = val b)) (fun t7 _ => l.length - (intOf t7).toNat)
  case atStart => exact ⟨0, rfl, Nat.zero_le _, Below.refl _ _, fun j _ hj => absurd hj (by omega)⟩
  case round =>
    obtain ⟨k, rfl, hk, HB, HA⟩ := hrel
    by_cases hlt : k < l.length
    · obtain ⟨b', o', rfl, hc⟩ := (HR.out.ext HB.out).int hlt
      go_wp2_with fail
      refine (has_any p S H OK.out a b _ (HL.out _ (List.getElem_mem hlt)) _ (HS.out.ext HB.out)).mono ?_
      rintro e w1 ⟨rfl, n1, rfl⟩
      cases hv : (pick a (stOf S) (stOf H) l[k] == val b)
      · go_wp2_with fail
        go_ret
        refine ⟨_, rfl, ?_, ext_trans HB.out (ext_drewN _ _)⟩
        have h : ¬ (∀ x ∈ l, pick a (stOf S) (stOf H) x = val b) := fun h => by
          have := h _ (List.getElem_mem hlt)
          rw [beq_eq_false_iff_ne] at hv
          exact hv this
        exact iff_of_false (by simp) h
      · go_wp2_with fail
        go_roundw
        case rel =>
          refine ⟨k + 1, by go_num, by omega, ext_trans HB.out (ext_drewN _ _), fun j h hj => ?_⟩
          by_cases e : j = k
          · subst e; exact of_decide_eq_true (by simpa using hv)
          · exact HA.out j h (by omega)
        case measure => simp [intOf]; omega
    · go_wp2_with fail
      go_ret
      refine ⟨_, rfl, ?_, HB.out⟩
      have h : ∀ x ∈ l, pick a (stOf S) (stOf H) x = val b := fun x hx => by
        obtain ⟨j, hj, rfl⟩ := List.mem_iff_getElem.1 hx
        exact HA.out j hj (by omega)
      exact iff_of_true rfl h
set_option maxHeartbeats 400000 in
theorem some_any (p : ShP) (S H : List Int) (ok : p.Ok) (a b : Bool) (A : Option Addr) (c : Nat) (l : List Int) (hl : ∀ x ∈ l, p.th.Lit x) (hm : l.length ≤ 120) (w : World) (h : Sh w p S H) (hr : Rd w A (ints l)) :
    Calls Tryd.prog 120 #[.pointer (some ⟨p.B, 0, none⟩), .slice A l.length c, .int .i64 (kind a b : Nat)] w (BoolOf w (∃ x ∈ l, pick a (stOf S) (stOf H) x = val b)) := by
  have HS := Lib.hid h
  have HR := Lib.hid hr
  have OK := Lib.hid ok
  have HL := Lib.hid hl
  clear h hr ok hl
  go_enter Tryd.func120, Tryd.ntmps120
  go_wp2_with fail
  go_loopw [7] (fun t7 wr => ∃ k : Nat, t7 = .int .i64 k ∧ k ≤ l.length ∧ Hid (Below w.heap.size w wr) ∧ Hid (∀ j (h : j < l.length), j < k → pick a (stOf S) (stOf H) l[j] ≠ val b)) (fun t7 _ => l.length - (intOf t7).toNat)
  case atStart => exact ⟨0, rfl, Nat.zero_le _, Below.refl _ _, fun j _ hj => absurd hj (by omega)⟩
  case round =>
    obtain ⟨k, rfl, hk, HB, HA⟩ := hrel
    by_cases hlt : k < l.length
    · obtain ⟨b', o', rfl, hc⟩ := (HR.out.ext HB.out).int hlt
      go_wp2_with fail
      refine (has_any p S H OK.out a b _ (HL.out _ (List.getElem_mem hlt)) _ (HS.out.ext HB.out)).mono ?_
      rintro e w1 ⟨rfl, n1, rfl⟩
      cases hv : (pick a (stOf S) (stOf H) l[k] == val b)
      · go_wp2_with fail
        go_roundw
        case rel =>
          refine ⟨k + 1, by go_num, by omega, ext_trans HB.out (ext_drewN _ _), fun j h hj => ?_⟩
          by_cases e : j = k
          · subst e; exact fun c => by rw [beq_eq_false_iff_ne] at hv; exact hv c
          · exact HA.out j h (by omega)
        case measure => simp [intOf]; omega
      · go_wp2_with fail
        go_ret
        refine ⟨_, rfl, ?_, ext_trans HB.out (ext_drewN _ _)⟩
        have h : ∃ x ∈ l, pick a (stOf S) (stOf H) x = val b := ⟨_, List.getElem_mem hlt, of_decide_eq_true (by simpa using hv)⟩
        exact iff_of_true rfl h
    · go_wp2_with fail
      go_ret
      refine ⟨_, rfl, ?_, HB.out⟩
      have h : ¬ ∃ x ∈ l, pick a (stOf S) (stOf H) x = val b := fun ⟨x, hx, hc⟩ => by
        obtain ⟨j, hj, rfl⟩ := List.mem_iff_getElem.1 hx
        exact HA.out j hj (by omega) hc
      exact iff_of_false (by simp) h
/-- a truth value comes back; nothing has turned -/
def BoolIs (w : World) (P : Prop) (e : Ending) (w' : World) : Prop := ∃ bl : Bool, e = .returned (.bool bl) ∧ (bl = true ↔ P) ∧ w = w'
set_option maxHeartbeats 400000 in
theorem isover_any (p : ShP) (S H : List Int) (ok : p.Ok) (i k : Int) (w : World) (h : Sh w p S H) :
    Calls Tryd.prog 137 #[.pointer (some ⟨p.B, 0, none⟩), .int .i64 i, .int .i64 k] w (BoolIs w ((i, k) ∈ p.ov)) := by
  have hA := h.a ok
  have x0 := h.blk.cell 0 rfl
  have x1 := hA.c2
  have hm := hA.l3
  have HA := Lib.hid hA
  clear h ok hA
  go_enter Tryd.func137, Tryd.ntmps137
  go_wp2_with fail
  go_loop [7] (fun t7 => ∃ j : Nat, t7 = .int .i64 j ∧ j ≤ p.ov.length ∧ Hid (∀ m (h : m < p.ov.length), m < j → p.ov[m] ≠ (i, k))) (fun t7 => p.ov.length - (intOf t7).toNat)
  case atStart => exact ⟨0, rfl, Nat.zero_le _, fun j _ hj => absurd hj (by omega)⟩
  case round =>
    obtain ⟨j, rfl, hj, HN⟩ := hrel
    by_cases hlt : j < p.ov.length
    · obtain ⟨b, o, hOA, r0, r1⟩ := pair_at HA.out.over hlt
      have HI := Lib.hid (show p.ov[j] = (i, k) → (i, k) ∈ p.ov from fun e => e ▸ List.getElem_mem hlt)
      have HN2 := Lib.hid (show p.ov[j] ≠ (i, k) → ∀ m (h : m < p.ov.length), m < j + 1 → p.ov[m] ≠ (i, k) from fun hne m h hm => by
        by_cases e : m = j
        · subst e; exact hne
        · exact HN.out m h (by omega))
      rw [hOA] at x1
      obtain ⟨pr, hpr⟩ : ∃ pr, pr = p.ov[j] := ⟨_, rfl⟩
      rw [← hpr] at r0 r1 HI HN2
      clear hpr hOA HN
      obtain ⟨pa, pb⟩ := pr
      simp only at r0 r1
      by_cases c1 : pa = i
      · subst c1
        by_cases c2 : pb = k
        · subst c2
          have HI2 := Lib.hid (HI.out rfl)
          clear HI HN2
          go_wp2_with fail
          go_ret
          exact ⟨_, rfl, iff_of_true rfl HI2.out, rfl⟩
        · have C2 := Lib.hid c2
          have c2' : (pb == k) = false := by simp [c2]
          clear c2
          go_wp2_with fail
          go_round
          case rel => exact ⟨j + 1, by go_num, by omega, HN2.out fun e => C2.out (congrArg Prod.snd e)⟩
          case measure => simp [intOf]; omega
      · have C1 := Lib.hid c1
        have c1' : (pa == i) = false := by simp [c1]
        clear c1
        go_wp2_with fail
        go_round
        case rel => exact ⟨j + 1, by go_num, by omega, HN2.out fun e => C1.out (congrArg Prod.fst e)⟩
        case measure => simp [intOf]; omega
    · go_wp2_with fail
      go_ret
      refine ⟨_, rfl, ?_, rfl⟩
      have h : ¬ (i, k) ∈ p.ov := fun h => by
        obtain ⟨m, hm, e⟩ := List.mem_iff_getElem.1 h
        exact HN.out m hm (by omega) e
      exact iff_of_false (by simp) h
end Go.Proofs.YtjnkcpeicocjhaaDoor.Sh

/- The document's sentences, one by one: help, lost, canSure, canNotSure, canHold, canFail, Can. The document's sentences, one by one: canSure, canNotSure, canHold, canFail, Can. -/
import Derived.Test.YtjnkcpeicocjhaaDoorSh
namespace Go.Proofs.YtjnkcpeicocjhaaDoor.Sh
open Go.RowKit Mem Thy Nest Day Thm Sol Val Solve LawT

def OverC (p : ShP) (ab : Int) (k : Nat) : Prop := ab < 0 ∨ ((k : Int), ab) ∈ p.ov
def HelpC (p : ShP) (H : List Int) (q ab : Int) (k : Nat) (r : Rw) : Prop := r.head = q ∧ r.kind ≠ 2 ∧ OverC p ab k ∧ AllY (stOf H) r.body
def LossC (p : ShP) (H : List Int) (q ab : Int) (k : Nat) (r : Rw) : Prop := r.head = q ∧ r.kind ≠ 2 ∧ OverC p ab k ∧ ¬ Fails (stOf H) r.body
def Some_ (p : ShP) (C : Nat → Rw → Prop) : Prop := ∃ (k : Nat) (hk : k < p.rs.length), C k p.rs[k]
def rlCells (r : Rw) : List Value := [.int .i64 r.kind, .int .i64 r.head, .slice r.A r.body.length r.c]
/-- no rule of the first ones does it -/
def NoneTo (p : ShP) (C : Nat → Rw → Prop) (k : Nat) : Prop := ∀ j (h : j < p.rs.length), j < k → ¬ C j p.rs[j]
theorem NoneTo.zero (p : ShP) (C : Nat → Rw → Prop) : NoneTo p C 0 := fun j _ hj => absurd hj (by omega)
theorem NoneTo.next {p : ShP} {C : Nat → Rw → Prop} {k : Nat} (h : NoneTo p C k) (hn : ∀ hk : k < p.rs.length, ¬ C k p.rs[k]) : NoneTo p C (k + 1) := fun j hj hjk => by
  by_cases e : j = k
  · subst e; exact hn hj
  · exact h j hj (by omega)
theorem NoneTo.all {p : ShP} {C : Nat → Rw → Prop} (h : NoneTo p C p.rs.length) : ¬ Some_ p C := fun ⟨j, hj, hc⟩ => h j hj hj hc
theorem pickF (S H : St) (l : List Int) : (∀ x ∈ l, pick false S H x = val true) ↔ AllY H l := Iff.rfl
theorem pickT (S H : St) (l : List Int) : (∀ x ∈ l, pick true S H x = val true) ↔ AllY S l := Iff.rfl
theorem pickFn (S H : St) (l : List Int) : (∃ x ∈ l, pick false S H x = val false) ↔ Fails H l := Iff.rfl
theorem pickTn (S H : St) (l : List Int) : (∃ x ∈ l, pick true S H x = val false) ↔ Fails S l := Iff.rfl
set_option maxRecDepth 100000 in
set_option maxHeartbeats 1000000 in
theorem help_any (p : ShP) (S H : List Int) (ok : p.Ok) (q ab : Int) (w : World) (hS : Sh w p S H) :
    Calls Tryd.prog 121 #[.pointer (some ⟨p.B, 0, none⟩), .int .i64 q, .int .i64 ab] w (BoolOf w (Some_ p (HelpC p H q ab))) := by
  have HS := Lib.hid hS
  have OK := Lib.hid ok
  have hrl := rs_len ok
  clear hS ok
  go_enter Tryd.func121, Tryd.ntmps121
  go_wp2_with fail
  go_loopw [7] (fun c wr => ∃ k : Nat, k ≤ p.rs.length ∧ c = .int .i64 k ∧ Hid (Below w.heap.size w wr) ∧ Hid (NoneTo p (HelpC p H q ab) k)) (fun c _ => p.rs.length - (intOf c).toNat)
  case atStart => exact ⟨0, Nat.zero_le _, rfl, Below.refl _ _, NoneTo.zero _ _⟩
  case round =>
    obtain ⟨k, hk, rfl, HB, HN⟩ := hrel
    have hS1 := HS.out.ext HB.out
    have hA1 := hS1.a OK.out
    have x0 := hS1.blk.cell 0 rfl
    have x1 := hA1.c1
    by_cases hlt : k < p.rs.length
    · obtain ⟨b, o, hRA, r0, r1, r2⟩ := hA1.rules.row hlt
      have hx := ext_alloc wr (.cells #[.int .i64 p.rs[k].kind, .int .i64 p.rs[k].head, .slice p.rs[k].A p.rs[k].body.length p.rs[k].c] 137)
      have HF := Lib.hid (every_any p S H OK.out false true p.rs[k].A p.rs[k].c p.rs[k].body (body_lit OK.out _ (List.getElem_mem hlt)) (body_len OK.out _ (List.getElem_mem hlt)) _ (hS1.ext hx) ((hA1.rules.bods _ (List.getElem_mem hlt)).ext hx))
      have HO := Lib.hid (isover_any p S H OK.out k ab _ (hS1.ext hx))
      have HX := Lib.hid (ext_trans HB.out hx)
      have HN1 := Lib.hid (show ¬ HelpC p H q ab k p.rs[k] → NoneTo p (HelpC p H q ab) (k + 1) from fun h => HN.out.next fun _ => h)
      have HY1 := Lib.hid (show HelpC p H q ab k p.rs[k] → Some_ p (HelpC p H q ab) from fun h => ⟨k, hlt, h⟩)
      rw [hRA] at x1
      clear hS1 hA1 hRA HN hx
      generalize p.rs[k] = r at *
      obtain ⟨rk, rh, rb, rA, rc⟩ := r
      simp only at r0 r1 r2 HF HN1 HY1 HO HX
      by_cases c1 : rh = q
      · subst c1
        by_cases c2 : rk = 2
        · subst c2
          go_wp2_with fail
          go_roundw
          case rel => exact ⟨k + 1, by omega, by go_num, HX.out, HN1.out fun h => h.2.1 rfl⟩
          case measure => simp [intOf]; omega
        · have C2 := Lib.hid c2
          have c2' : (rk == 2) = false := by simp [c2]
          clear c2
          by_cases c3 : ab < 0
          · have C3 := Lib.hid (show OverC p ab k from .inl c3)
            go_wp2_with fail
            refine HF.out.mono ?_
            rintro e w1 ⟨bl, rfl, hb1, hb2⟩
            have HB1 := Lib.hid hb1
            have HB2 := Lib.hid (ext_trans HX.out hb2)
            clear hb1 hb2
            cases bl
            · go_wp2_with fail
              go_roundw
              case rel => exact ⟨k + 1, by omega, by go_num, HB2.out, HN1.out fun h => by simpa using HB1.out.2 h.2.2.2⟩
              case measure => simp [intOf]; omega
            · go_wp2_with fail
              go_ret
              refine ⟨_, rfl, ?_, HB2.out⟩
              have h := HY1.out ⟨rfl, C2.out, C3.out, HB1.out.1 (by simp)⟩
              simp [h]
          · go_wp2_with fail
            refine HO.out.mono ?_
            rintro e w' ⟨bo, rfl, hbo, rfl⟩
            have HBo := Lib.hid hbo
            clear hbo
            have c3' := Lib.hid c3
            cases bo
            · go_wp2_with fail
              refine HF.out.mono ?_
              rintro e w1 ⟨bl, rfl, hb1, hb2⟩
              have HB2 := Lib.hid (ext_trans HX.out hb2)
              clear hb1 hb2
              go_wp2_with fail
              go_roundw
              case rel => exact ⟨k + 1, by omega, by go_num, HB2.out, HN1.out fun h => h.2.2.1.elim (fun h => by have := c3'.out; omega) fun h => by simpa using HBo.out.2 h⟩
              case measure => simp [intOf]; omega
            · have C3 := Lib.hid (show OverC p ab k from .inr (HBo.out.1 (by simp)))
              go_wp2_with fail
              refine HF.out.mono ?_
              rintro e w1 ⟨bl, rfl, hb1, hb2⟩
              have HB1 := Lib.hid hb1
              have HB2 := Lib.hid (ext_trans HX.out hb2)
              clear hb1 hb2
              cases bl
              · go_wp2_with fail
                go_roundw
                case rel => exact ⟨k + 1, by omega, by go_num, HB2.out, HN1.out fun h => by simpa using HB1.out.2 h.2.2.2⟩
                case measure => simp [intOf]; omega
              · go_wp2_with fail
                go_ret
                refine ⟨_, rfl, ?_, HB2.out⟩
                have h := HY1.out ⟨rfl, C2.out, C3.out, HB1.out.1 (by simp)⟩
                simp [h]
      · have C1 := Lib.hid c1
        have c1' : (rh != q) = true := by simp [c1]
        clear c1
        go_wp2_with fail
        go_roundw
        case rel => exact ⟨k + 1, by omega, by go_num, HX.out, HN1.out fun h => C1.out h.1⟩
        case measure => simp [intOf]; omega
    · obtain rfl : p.rs.length = k := by omega
      go_wp2_with fail
      go_ret
      refine ⟨_, rfl, ?_, HB.out⟩
      have h := HN.out.all
      simp [h]
set_option maxRecDepth 100000 in
set_option maxHeartbeats 1000000 in
theorem lost_any (p : ShP) (S H : List Int) (ok : p.Ok) (q ab : Int) (w : World) (hS : Sh w p S H) :
    Calls Tryd.prog 122 #[.pointer (some ⟨p.B, 0, none⟩), .int .i64 q, .int .i64 ab] w (BoolOf w (¬ Some_ p (LossC p H q ab))) := by
  have HS := Lib.hid hS
  have OK := Lib.hid ok
  have hrl := rs_len ok
  clear hS ok
  go_enter Tryd.func122, Tryd.ntmps122
  go_wp2_with fail
  go_loopw [7] (fun c wr => ∃ k : Nat, k ≤ p.rs.length ∧ c = .int .i64 k ∧ Hid (Below w.heap.size w wr) ∧ Hid (NoneTo p (LossC p H q ab) k)) (fun c _ => p.rs.length - (intOf c).toNat)
  case atStart => exact ⟨0, Nat.zero_le _, rfl, Below.refl _ _, NoneTo.zero _ _⟩
  case round =>
    obtain ⟨k, hk, rfl, HB, HN⟩ := hrel
    have hS1 := HS.out.ext HB.out
    have hA1 := hS1.a OK.out
    have x0 := hS1.blk.cell 0 rfl
    have x1 := hA1.c1
    by_cases hlt : k < p.rs.length
    · obtain ⟨b, o, hRA, r0, r1, r2⟩ := hA1.rules.row hlt
      have hx := ext_alloc wr (.cells #[.int .i64 p.rs[k].kind, .int .i64 p.rs[k].head, .slice p.rs[k].A p.rs[k].body.length p.rs[k].c] 137)
      have HF := Lib.hid (some_any p S H OK.out false false p.rs[k].A p.rs[k].c p.rs[k].body (body_lit OK.out _ (List.getElem_mem hlt)) (body_len OK.out _ (List.getElem_mem hlt)) _ (hS1.ext hx) ((hA1.rules.bods _ (List.getElem_mem hlt)).ext hx))
      have HO := Lib.hid (isover_any p S H OK.out k ab _ (hS1.ext hx))
      have HX := Lib.hid (ext_trans HB.out hx)
      have HN1 := Lib.hid (show ¬ LossC p H q ab k p.rs[k] → NoneTo p (LossC p H q ab) (k + 1) from fun h => HN.out.next fun _ => h)
      have HY1 := Lib.hid (show LossC p H q ab k p.rs[k] → Some_ p (LossC p H q ab) from fun h => ⟨k, hlt, h⟩)
      rw [hRA] at x1
      clear hS1 hA1 hRA HN hx
      generalize p.rs[k] = r at *
      obtain ⟨rk, rh, rb, rA, rc⟩ := r
      simp only at r0 r1 r2 HF HN1 HY1 HO HX
      by_cases c1 : rh = q
      · subst c1
        by_cases c2 : rk = 2
        · subst c2
          go_wp2_with fail
          go_roundw
          case rel => exact ⟨k + 1, by omega, by go_num, HX.out, HN1.out fun h => h.2.1 rfl⟩
          case measure => simp [intOf]; omega
        · have C2 := Lib.hid c2
          have c2' : (rk == 2) = false := by simp [c2]
          clear c2
          by_cases c3 : ab < 0
          · have C3 := Lib.hid (show OverC p ab k from .inl c3)
            go_wp2_with fail
            refine HF.out.mono ?_
            rintro e w1 ⟨bl, rfl, hb1, hb2⟩
            have HB1 := Lib.hid hb1
            have HB2 := Lib.hid (ext_trans HX.out hb2)
            clear hb1 hb2
            cases bl
            · go_wp2_with fail
              go_ret
              refine ⟨_, rfl, ?_, HB2.out⟩
              have h := HY1.out ⟨rfl, C2.out, C3.out, fun h => by simpa using HB1.out.2 h⟩
              simp [h]
            · go_wp2_with fail
              go_roundw
              case rel => exact ⟨k + 1, by omega, by go_num, HB2.out, HN1.out fun h => h.2.2.2 (HB1.out.1 (by simp))⟩
              case measure => simp [intOf]; omega
          · go_wp2_with fail
            refine HO.out.mono ?_
            rintro e w' ⟨bo, rfl, hbo, rfl⟩
            have HBo := Lib.hid hbo
            clear hbo
            have c3' := Lib.hid c3
            cases bo
            · go_wp2_with fail
              refine HF.out.mono ?_
              rintro e w1 ⟨bl, rfl, hb1, hb2⟩
              have HB2 := Lib.hid (ext_trans HX.out hb2)
              clear hb1 hb2
              go_wp2_with fail
              go_roundw
              case rel => exact ⟨k + 1, by omega, by go_num, HB2.out, HN1.out fun h => h.2.2.1.elim (fun h => by have := c3'.out; omega) fun h => by simpa using HBo.out.2 h⟩
              case measure => simp [intOf]; omega
            · have C3 := Lib.hid (show OverC p ab k from .inr (HBo.out.1 (by simp)))
              go_wp2_with fail
              refine HF.out.mono ?_
              rintro e w1 ⟨bl, rfl, hb1, hb2⟩
              have HB1 := Lib.hid hb1
              have HB2 := Lib.hid (ext_trans HX.out hb2)
              clear hb1 hb2
              cases bl
              · go_wp2_with fail
                go_ret
                refine ⟨_, rfl, ?_, HB2.out⟩
                have h := HY1.out ⟨rfl, C2.out, C3.out, fun h => by simpa using HB1.out.2 h⟩
                simp [h]
              · go_wp2_with fail
                go_roundw
                case rel => exact ⟨k + 1, by omega, by go_num, HB2.out, HN1.out fun h => h.2.2.2 (HB1.out.1 (by simp))⟩
                case measure => simp [intOf]; omega
      · have C1 := Lib.hid c1
        have c1' : (rh != q) = true := by simp [c1]
        clear c1
        go_wp2_with fail
        go_roundw
        case rel => exact ⟨k + 1, by omega, by go_num, HX.out, HN1.out fun h => C1.out h.1⟩
        case measure => simp [intOf]; omega
    · obtain rfl : p.rs.length = k := by omega
      go_wp2_with fail
      go_ret
      refine ⟨_, rfl, ?_, HB.out⟩
      have h := HN.out.all
      simp [h]
end Go.Proofs.YtjnkcpeicocjhaaDoor.Sh
namespace Go.Proofs.YtjnkcpeicocjhaaDoor.Sh
open Go.RowKit Mem Thy Nest Day Thm Sol Val Solve LawT

theorem some_iff {p : ShP} (P : Nat → Rl → Prop) : (∃ (k : Nat) (hk : k < p.th.rules.length), P k p.th.rules[k]) ↔ Some_ p (fun k r => P k r.rl) := by
  unfold Some_
  constructor
  · rintro ⟨k, hk, h⟩
    have hk' : k < p.rs.length := by simpa [ShP.th, thOf] using hk
    exact ⟨k, hk', by simpa [ShP.th, thOf] using h⟩
  · rintro ⟨k, hk, h⟩
    have hk' : k < p.th.rules.length := by simpa [ShP.th, thOf] using hk
    exact ⟨k, hk', by simpa [ShP.th, thOf] using h⟩
theorem mem_iff {p : ShP} (P : Rl → Prop) : (∃ r ∈ p.th.rules, P r) ↔ Some_ p (fun _ r => P r.rl) := by
  rw [← some_iff (fun _ r => P r)]
  constructor
  · rintro ⟨r, hr, h⟩
    obtain ⟨k, hk, rfl⟩ := List.mem_iff_getElem.1 hr
    exact ⟨k, hk, h⟩
  · rintro ⟨k, hk, h⟩
    exact ⟨_, List.getElem_mem hk, h⟩
def SureC (S : List Int) (q : Int) (_ : Nat) (r : Rw) : Prop := r.kind = 0 ∧ r.head = q ∧ AllY (stOf S) r.body
def NotC (S : List Int) (q : Int) (_ : Nat) (r : Rw) : Prop := r.kind = 0 ∧ r.head = q ∧ ¬ Fails (stOf S) r.body
def OppC (p : ShP) (H : List Int) (q : Int) (i : Nat) (r : Rw) : Prop := r.head = -q ∧ ¬ Fails (stOf H) r.body ∧ ¬ Some_ p (HelpC p H q i)
def BeatC (p : ShP) (H : List Int) (q : Int) (i : Nat) (r : Rw) : Prop := r.head = -q ∧ AllY (stOf H) r.body ∧ ¬ Some_ p (LossC p H q i)
theorem sureY_iff {p : ShP} {S : List Int} {q : Int} : SureY p.th (stOf S) q ↔ Some_ p (SureC S q) := mem_iff (fun r => r.kind = 0 ∧ r.head = q ∧ AllY (stOf S) r.body)
theorem sureN_iff {p : ShP} {S : List Int} {q : Int} : SureN p.th (stOf S) q ↔ ¬ Some_ p (NotC S q) := by
  have h := mem_iff (p := p) (fun r => r.kind = 0 ∧ r.head = q ∧ ¬ Fails (stOf S) r.body)
  have h2 : Some_ p (NotC S q) ↔ ∃ r ∈ p.th.rules, r.kind = 0 ∧ r.head = q ∧ ¬ Fails (stOf S) r.body := h.symm
  rw [h2]
  exact ⟨fun f ⟨r, hr, a, b, c⟩ => c (f r hr a b), fun f r hr a b => Classical.byContradiction fun c => f ⟨r, hr, a, b, c⟩⟩
theorem over_neg (p : ShP) (k : Nat) : OverC p (-1) k := .inl (by omega)
theorem over_iff {p : ShP} {i k : Nat} : OverC p i k ↔ Above p.th k i := ⟨fun h => h.elim (fun h => absurd h (by omega)) id, .inr⟩
theorem supp_iff {p : ShP} {H : List Int} {q : Int} : Supp p.th (stOf H) q ↔ Some_ p (HelpC p H q (-1)) := by
  have h := mem_iff (p := p) (fun r => r.kind ≠ 2 ∧ r.head = q ∧ AllY (stOf H) r.body)
  refine h.trans ?_
  exact ⟨fun ⟨k, hk, a, b, c⟩ => ⟨k, hk, b, a, over_neg p k, c⟩, fun ⟨k, hk, a, b, _, c⟩ => ⟨k, hk, b, a, c⟩⟩
theorem bare_iff {p : ShP} {H : List Int} {q : Int} : Bare p.th (stOf H) q ↔ ¬ Some_ p (LossC p H q (-1)) := by
  have h := mem_iff (p := p) (fun r => r.kind ≠ 2 ∧ r.head = q ∧ ¬ Fails (stOf H) r.body)
  have h2 : Some_ p (LossC p H q (-1)) ↔ ∃ r ∈ p.th.rules, r.kind ≠ 2 ∧ r.head = q ∧ ¬ Fails (stOf H) r.body :=
    Iff.trans ⟨fun ⟨k, hk, a, b, _, c⟩ => ⟨k, hk, b, a, c⟩, fun ⟨k, hk, a, b, c⟩ => ⟨k, hk, b, a, over_neg p k, c⟩⟩ h.symm
  rw [h2]
  exact ⟨fun f ⟨r, hr, a, b, c⟩ => c (f r hr a b), fun f r hr a b => Classical.byContradiction fun c => f ⟨r, hr, a, b, c⟩⟩
theorem outd_iff {p : ShP} {H : List Int} {q : Int} {i : Nat} : Outd p.th (stOf H) i q ↔ Some_ p (HelpC p H q i) := by
  have h := some_iff (p := p) (fun k r => r.head = q ∧ r.kind ≠ 2 ∧ Above p.th k i ∧ AllY (stOf H) r.body)
  refine h.trans ?_
  exact ⟨fun ⟨k, hk, a, b, c, d⟩ => ⟨k, hk, a, b, over_iff.2 c, d⟩, fun ⟨k, hk, a, b, c, d⟩ => ⟨k, hk, a, b, over_iff.1 c, d⟩⟩
theorem safe_iff {p : ShP} {H : List Int} {q : Int} {i : Nat} : SafeR p.th (stOf H) i q ↔ ¬ Some_ p (LossC p H q i) := by
  have h := some_iff (p := p) (fun k r => r.head = q ∧ r.kind ≠ 2 ∧ Above p.th k i ∧ ¬ Fails (stOf H) r.body)
  have h2 : Some_ p (LossC p H q i) ↔ ∃ (k : Nat) (hk : k < p.th.rules.length), p.th.rules[k].head = q ∧ p.th.rules[k].kind ≠ 2 ∧ Above p.th k i ∧ ¬ Fails (stOf H) p.th.rules[k].body :=
    Iff.trans ⟨fun ⟨k, hk, a, b, c, d⟩ => ⟨k, hk, a, b, over_iff.1 c, d⟩, fun ⟨k, hk, a, b, c, d⟩ => ⟨k, hk, a, b, over_iff.2 c, d⟩⟩ h.symm
  rw [h2]
  exact ⟨fun f ⟨k, hk, a, b, c, d⟩ => d (f k hk a b c), fun f k hk a b c => Classical.byContradiction fun d => f ⟨k, hk, a, b, c, d⟩⟩
theorem opp_iff {p : ShP} {H : List Int} {q : Int} : Opp p.th (stOf H) q ↔ Some_ p (OppC p H q) := by
  have h := some_iff (p := p) (fun i r => r.head = -q ∧ ¬ Fails (stOf H) r.body ∧ ¬ Outd p.th (stOf H) i q)
  refine h.trans ?_
  exact ⟨fun ⟨k, hk, a, b, c⟩ => ⟨k, hk, a, b, fun d => c (outd_iff.2 d)⟩, fun ⟨k, hk, a, b, c⟩ => ⟨k, hk, a, b, fun d => c (outd_iff.1 d)⟩⟩
theorem beat_iff {p : ShP} {H : List Int} {q : Int} : Beat p.th (stOf H) q ↔ Some_ p (BeatC p H q) := by
  have h := some_iff (p := p) (fun i r => r.head = -q ∧ AllY (stOf H) r.body ∧ SafeR p.th (stOf H) i q)
  refine h.trans ?_
  exact ⟨fun ⟨k, hk, a, b, c⟩ => ⟨k, hk, a, b, safe_iff.1 c⟩, fun ⟨k, hk, a, b, c⟩ => ⟨k, hk, a, b, safe_iff.2 c⟩⟩
set_option maxRecDepth 100000 in
set_option maxHeartbeats 1000000 in
theorem canSure_any (p : ShP) (S H : List Int) (ok : p.Ok) (q : Int) (w : World) (hS : Sh w p S H) :
    Calls Tryd.prog 86 #[.pointer (some ⟨p.B, 0, none⟩), .int .i64 q] w (BoolOf w (SureY p.th (stOf S) q)) := by
  have HS := Lib.hid hS
  have OK := Lib.hid ok
  have hrl := rs_len ok
  clear hS ok
  go_enter Tryd.func86, Tryd.ntmps86
  go_wp2_with fail
  go_loopw [5] (fun c wr => ∃ k : Nat, k ≤ p.rs.length ∧ c = .int .i64 k ∧ Hid (Below w.heap.size w wr) ∧ Hid (NoneTo p (SureC S q) k)) (fun c _ => p.rs.length - (intOf c).toNat)
  case atStart => exact ⟨0, Nat.zero_le _, rfl, Below.refl _ _, NoneTo.zero _ _⟩
  case round =>
    obtain ⟨k, hk, rfl, HB, HN⟩ := hrel
    have hS1 := HS.out.ext HB.out
    have hA1 := hS1.a OK.out
    have x0 := hS1.blk.cell 0 rfl
    have x1 := hA1.c1
    by_cases hlt : k < p.rs.length
    · obtain ⟨b, o, hRA, r0, r1, r2⟩ := hA1.rules.row hlt
      have hx := ext_alloc wr (.cells #[.int .i64 p.rs[k].kind, .int .i64 p.rs[k].head, .slice p.rs[k].A p.rs[k].body.length p.rs[k].c] 137)
      have HF := Lib.hid (every_any p S H OK.out true true p.rs[k].A p.rs[k].c p.rs[k].body (body_lit OK.out _ (List.getElem_mem hlt)) (body_len OK.out _ (List.getElem_mem hlt)) _ (hS1.ext hx) ((hA1.rules.bods _ (List.getElem_mem hlt)).ext hx))
      have HX := Lib.hid (ext_trans HB.out hx)
      have HN1 := Lib.hid (show ¬ SureC S q k p.rs[k] → NoneTo p ((SureC S q)) (k + 1) from fun h => HN.out.next fun _ => h)
      have HY1 := Lib.hid (show SureC S q k p.rs[k] → Some_ p ((SureC S q)) from fun h => ⟨k, hlt, h⟩)
      rw [hRA] at x1
      clear hS1 hA1 hRA HN hx
      generalize p.rs[k] = r at *
      obtain ⟨rk, rh, rb, rA, rc⟩ := r
      simp only at r0 r1 r2 HF HN1 HY1 HX
      by_cases c1 : rk = 0
      · subst c1
        by_cases c2 : rh = q
        · subst c2
          go_wp2_with fail
          refine HF.out.mono ?_
          rintro e w1 ⟨bl, rfl, hb1, hb2⟩
          have HB1 := Lib.hid hb1
          have HB2 := Lib.hid (ext_trans HX.out hb2)
          clear hb1 hb2
          cases bl
          · go_wp2_with fail
            go_roundw
            case rel => exact ⟨k + 1, by omega, by go_num, HB2.out, HN1.out fun h => by simpa using HB1.out.2 h.2.2⟩
            case measure => simp [intOf]; omega
          · go_wp2_with fail
            go_ret
            refine ⟨_, rfl, ?_, HB2.out⟩
            have h := HY1.out ⟨rfl, rfl, HB1.out.1 (by simp)⟩
            simp [sureY_iff, h]
        · have C2 := Lib.hid c2
          have c2' : (rh == q) = false := by simp [c2]
          clear c2
          go_wp2_with fail
          go_roundw
          case rel => exact ⟨k + 1, by omega, by go_num, HX.out, HN1.out fun h => C2.out h.2.1⟩
          case measure => simp [intOf]; omega
      · have C1 := Lib.hid c1
        have c1' : (rk == 0) = false := by simp [c1]
        clear c1
        go_wp2_with fail
        go_roundw
        case rel => exact ⟨k + 1, by omega, by go_num, HX.out, HN1.out fun h => C1.out h.1⟩
        case measure => simp [intOf]; omega
    · obtain rfl : p.rs.length = k := by omega
      go_wp2_with fail
      go_ret
      refine ⟨_, rfl, ?_, HB.out⟩
      have h := HN.out.all
      simp [sureY_iff, h]
set_option maxRecDepth 100000 in
set_option maxHeartbeats 1000000 in
theorem canNotSure_any (p : ShP) (S H : List Int) (ok : p.Ok) (q : Int) (w : World) (hS : Sh w p S H) :
    Calls Tryd.prog 87 #[.pointer (some ⟨p.B, 0, none⟩), .int .i64 q] w (BoolOf w (SureN p.th (stOf S) q)) := by
  have HS := Lib.hid hS
  have OK := Lib.hid ok
  have hrl := rs_len ok
  clear hS ok
  go_enter Tryd.func87, Tryd.ntmps87
  go_wp2_with fail
  go_loopw [5] (fun c wr => ∃ k : Nat, k ≤ p.rs.length ∧ c = .int .i64 k ∧ Hid (Below w.heap.size w wr) ∧ Hid (NoneTo p (NotC S q) k)) (fun c _ => p.rs.length - (intOf c).toNat)
  case atStart => exact ⟨0, Nat.zero_le _, rfl, Below.refl _ _, NoneTo.zero _ _⟩
  case round =>
    obtain ⟨k, hk, rfl, HB, HN⟩ := hrel
    have hS1 := HS.out.ext HB.out
    have hA1 := hS1.a OK.out
    have x0 := hS1.blk.cell 0 rfl
    have x1 := hA1.c1
    by_cases hlt : k < p.rs.length
    · obtain ⟨b, o, hRA, r0, r1, r2⟩ := hA1.rules.row hlt
      have hx := ext_alloc wr (.cells #[.int .i64 p.rs[k].kind, .int .i64 p.rs[k].head, .slice p.rs[k].A p.rs[k].body.length p.rs[k].c] 137)
      have HF := Lib.hid (some_any p S H OK.out true false p.rs[k].A p.rs[k].c p.rs[k].body (body_lit OK.out _ (List.getElem_mem hlt)) (body_len OK.out _ (List.getElem_mem hlt)) _ (hS1.ext hx) ((hA1.rules.bods _ (List.getElem_mem hlt)).ext hx))
      have HX := Lib.hid (ext_trans HB.out hx)
      have HN1 := Lib.hid (show ¬ NotC S q k p.rs[k] → NoneTo p ((NotC S q)) (k + 1) from fun h => HN.out.next fun _ => h)
      have HY1 := Lib.hid (show NotC S q k p.rs[k] → Some_ p ((NotC S q)) from fun h => ⟨k, hlt, h⟩)
      rw [hRA] at x1
      clear hS1 hA1 hRA HN hx
      generalize p.rs[k] = r at *
      obtain ⟨rk, rh, rb, rA, rc⟩ := r
      simp only at r0 r1 r2 HF HN1 HY1 HX
      by_cases c1 : rk = 0
      · subst c1
        by_cases c2 : rh = q
        · subst c2
          go_wp2_with fail
          refine HF.out.mono ?_
          rintro e w1 ⟨bl, rfl, hb1, hb2⟩
          have HB1 := Lib.hid hb1
          have HB2 := Lib.hid (ext_trans HX.out hb2)
          clear hb1 hb2
          cases bl
          · go_wp2_with fail
            go_ret
            refine ⟨_, rfl, ?_, HB2.out⟩
            have h := HY1.out ⟨rfl, rfl, fun h => by simpa using HB1.out.2 h⟩
            simp [sureN_iff, h]
          · go_wp2_with fail
            go_roundw
            case rel => exact ⟨k + 1, by omega, by go_num, HB2.out, HN1.out fun h => h.2.2 (HB1.out.1 (by simp))⟩
            case measure => simp [intOf]; omega
        · have C2 := Lib.hid c2
          have c2' : (rh == q) = false := by simp [c2]
          clear c2
          go_wp2_with fail
          go_roundw
          case rel => exact ⟨k + 1, by omega, by go_num, HX.out, HN1.out fun h => C2.out h.2.1⟩
          case measure => simp [intOf]; omega
      · have C1 := Lib.hid c1
        have c1' : (rk == 0) = false := by simp [c1]
        clear c1
        go_wp2_with fail
        go_roundw
        case rel => exact ⟨k + 1, by omega, by go_num, HX.out, HN1.out fun h => C1.out h.1⟩
        case measure => simp [intOf]; omega
    · obtain rfl : p.rs.length = k := by omega
      go_wp2_with fail
      go_ret
      refine ⟨_, rfl, ?_, HB.out⟩
      have h := HN.out.all
      simp [sureN_iff, h]
set_option maxRecDepth 100000 in
set_option maxHeartbeats 2000000 in
theorem canHold_any (p : ShP) (S H : List Int) (ok : p.Ok) (q : Int) (hq : p.th.Lit q) (w : World) (hS : Sh w p S H) :
    Calls Tryd.prog 88 #[.pointer (some ⟨p.B, 0, none⟩), .int .i64 q] w (BoolOf w (Fol p.th (stOf S) (stOf H) false true q)) := by
  have HS := Lib.hid hS
  have OK := Lib.hid ok
  have hrl := rs_len ok
  have hn := ok.n
  obtain ⟨q0, q1, q2⟩ := lit_bd hq
  have HH1 := Lib.hid (has_any p S H ok true true q hq w hS)
  have HH2 := Lib.hid (fun n => has_any p S H ok true false (-q) (lit_neg hq) (w.drewN n) (hS.ext (ext_drewN w n)))
  clear hS ok hq
  go_enter Tryd.func88, Tryd.ntmps88
  go_wp2_with fail
  refine HH1.out.mono ?_
  rintro e w1 ⟨rfl, n1, rfl⟩
  by_cases y1 : stOf S q = 1
  · have Y1 := Lib.hid y1
    have y1' : (pick true (stOf S) (stOf H) q == val true) = true := by simp [pick, val, y1]
    generalize (pick true (stOf S) (stOf H) q == val true) = g1 at *
    subst y1'
    clear y1
    go_wp2_with fail
    go_ret
    have h : Fol p.th (stOf S) (stOf H) false true q := .inl Y1.out
    exact ⟨_, rfl, by simp [h], ext_drewN w n1⟩
  have Y1 := Lib.hid y1
  have y1' : (pick true (stOf S) (stOf H) q == val true) = false := by simp [pick, val, y1]
  generalize (pick true (stOf S) (stOf H) q == val true) = g1 at *
  subst y1'
  clear y1
  go_wp2_with fail
  refine (HH2.out n1).mono ?_
  rintro e w1 ⟨rfl, n2, rfl⟩
  have HBW := Lib.hid (show Below w.heap.size w ((w.drewN n1).drewN n2) from ext_trans (ext_drewN w n1) (ext_drewN _ n2))
  generalize hW : (w.drewN n1).drewN n2 = W at *
  have HSW := Lib.hid (HS.out.ext HBW.out)
  go_wp2_with fail
  refine (help_any p S H OK.out q (-1) _ HSW.out).mono ?_
  rintro e w2 ⟨bh, rfl, hb1, hb2⟩
  have HH := Lib.hid (hb1.trans supp_iff.symm)
  have HBS := Lib.hid (ext_trans HBW.out hb2)
  clear hb1 hb2 HH1 HH2 HSW
  by_cases y2 : stOf S (-q) = 2
  · have Y2 := Lib.hid y2
    have y2' : (pick true (stOf S) (stOf H) (-q) == val false) = true := by simp [pick, val, y2]
    generalize (pick true (stOf S) (stOf H) (-q) == val false) = g2 at *
    subst y2'
    clear y2
    cases bh
    · go_wp2_with fail
      go_ret
      have h : ¬ Fol p.th (stOf S) (stOf H) false true q := fun h => h.elim Y1.out fun h => by simpa using HH.out.2 h.2.1
      exact ⟨_, rfl, by simp [h], HBS.out⟩
    · go_wp2_with fail
      go_loopw [8] (fun c wr => ∃ k : Nat, k ≤ p.rs.length ∧ c = .int .i64 k ∧ Hid (Below w.heap.size w wr) ∧ Hid (NoneTo p (OppC p H q) k)) (fun c _ => p.rs.length - (intOf c).toNat)
      case atStart => exact ⟨0, Nat.zero_le _, rfl, HBS.out, NoneTo.zero _ _⟩
      case round =>
        obtain ⟨k, hk, rfl, HB, HN⟩ := hrel
        have hS1 := HS.out.ext HB.out
        have hA1 := hS1.a OK.out
        have x0 := hS1.blk.cell 0 rfl
        have x1 := hA1.c1
        by_cases hlt : k < p.rs.length
        · obtain ⟨b, o, hRA, r0, r1, r2⟩ := hA1.rules.row hlt
          have hx := ext_alloc wr (.cells #[.int .i64 p.rs[k].kind, .int .i64 p.rs[k].head, .slice p.rs[k].A p.rs[k].body.length p.rs[k].c] 137)
          have HF := Lib.hid (some_any p S H OK.out false false p.rs[k].A p.rs[k].c p.rs[k].body (body_lit OK.out _ (List.getElem_mem hlt)) (body_len OK.out _ (List.getElem_mem hlt)) _ (hS1.ext hx) ((hA1.rules.bods _ (List.getElem_mem hlt)).ext hx))
          have HSX := Lib.hid (hS1.ext hx)
          have HX := Lib.hid (ext_trans HB.out hx)
          have HN1 := Lib.hid (show ¬ OppC p H q k p.rs[k] → NoneTo p ((OppC p H q)) (k + 1) from fun h => HN.out.next fun _ => h)
          have HY1 := Lib.hid (show OppC p H q k p.rs[k] → Some_ p ((OppC p H q)) from fun h => ⟨k, hlt, h⟩)
          rw [hRA] at x1
          clear hS1 hA1 hRA HN hx
          generalize p.rs[k] = r at *
          obtain ⟨rk, rh, rb, rA, rc⟩ := r
          simp only at r0 r1 r2 HF HN1 HY1 HX HSX
          by_cases c1 : rh = -q
          · have C1 := Lib.hid c1
            have c1' : (rh != -q) = false := by simp [c1]
            clear c1
            go_wp2_with fail
            refine HF.out.mono ?_
            rintro e w1 ⟨bl, rfl, hb1, hb2⟩
            have HB1 := Lib.hid hb1
            have HB2 := Lib.hid (ext_trans HX.out hb2)
            have HS2 := Lib.hid (HSX.out.ext hb2)
            clear hb1 hb2
            go_wp2_with fail
            refine (help_any p S H OK.out q k _ HS2.out).mono ?_
            rintro e w3 ⟨bm, rfl, hb1, hb2⟩
            have HB3 := Lib.hid hb1
            have HB4 := Lib.hid (ext_trans HB2.out hb2)
            clear hb1 hb2
            cases bl
            · cases bm
              · go_wp2_with fail
                go_ret
                refine ⟨_, rfl, ?_, HB4.out⟩
                have h := HY1.out ⟨C1.out, fun h => by simpa using HB1.out.2 h, fun h => by simpa using HB3.out.2 h⟩
                have h2 : ¬ Fol p.th (stOf S) (stOf H) false true q := fun f => f.elim Y1.out fun f => f.2.2 (opp_iff.2 h)
                simp [h2]
              · go_wp2_with fail
                go_roundw
                case rel => exact ⟨k + 1, by omega, by go_num, HB4.out, HN1.out fun h => h.2.2 (HB3.out.1 (by simp))⟩
                case measure => simp [intOf]; omega
            · go_wp2_with fail
              go_roundw
              case rel => exact ⟨k + 1, by omega, by go_num, HB4.out, HN1.out fun h => h.2.1 (HB1.out.1 (by simp))⟩
              case measure => simp [intOf]; omega
          · have C1 := Lib.hid c1
            have c1' : (rh != -q) = true := by simp [c1]
            clear c1
            go_wp2_with fail
            go_roundw
            case rel => exact ⟨k + 1, by omega, by go_num, HX.out, HN1.out fun h => C1.out h.1⟩
            case measure => simp [intOf]; omega
        · obtain rfl : p.rs.length = k := by omega
          go_wp2_with fail
          go_ret
          refine ⟨_, rfl, ?_, HB.out⟩
          have h : Fol p.th (stOf S) (stOf H) false true q := .inr ⟨Y2.out, HH.out.1 (by simp), fun f => HN.out.all (opp_iff.1 f)⟩
          simp [h]
  · have Y2 := Lib.hid y2
    have y2' : (pick true (stOf S) (stOf H) (-q) == val false) = false := by simp [pick, val, y2]
    generalize (pick true (stOf S) (stOf H) (-q) == val false) = g2 at *
    subst y2'
    clear y2
    go_wp2_with fail
    go_ret
    have h : ¬ Fol p.th (stOf S) (stOf H) false true q := fun h => h.elim Y1.out fun h => Y2.out h.1
    exact ⟨_, rfl, by simp [h], HBS.out⟩
set_option maxRecDepth 100000 in
set_option maxHeartbeats 2000000 in
theorem canFail_any (p : ShP) (S H : List Int) (ok : p.Ok) (q : Int) (hq : p.th.Lit q) (w : World) (hS : Sh w p S H) :
    Calls Tryd.prog 89 #[.pointer (some ⟨p.B, 0, none⟩), .int .i64 q] w (BoolOf w (Fol p.th (stOf S) (stOf H) false false q)) := by
  have HS := Lib.hid hS
  have OK := Lib.hid ok
  have hrl := rs_len ok
  have hn := ok.n
  obtain ⟨q0, q1, q2⟩ := lit_bd hq
  have HH1 := Lib.hid (has_any p S H ok true false q hq w hS)
  have HH2 := Lib.hid (fun n => has_any p S H ok true true (-q) (lit_neg hq) (w.drewN n) (hS.ext (ext_drewN w n)))
  clear hS ok hq
  go_enter Tryd.func89, Tryd.ntmps89
  go_wp2_with fail
  refine HH1.out.mono ?_
  rintro e w1 ⟨rfl, n1, rfl⟩
  by_cases y1 : ¬ stOf S q = 2
  · have Y1 := Lib.hid y1
    have y1' : (pick true (stOf S) (stOf H) q == val false) = false := by simp [pick, val, y1]
    generalize (pick true (stOf S) (stOf H) q == val false) = g1 at *
    subst y1'
    clear y1
    go_wp2_with fail
    go_ret
    have h : ¬ Fol p.th (stOf S) (stOf H) false false q := fun h => Y1.out h.1
    exact ⟨_, rfl, by simp [h], ext_drewN w n1⟩
  have y1 : stOf S q = 2 := Classical.not_not.1 y1
  have Y1 := Lib.hid y1
  have y1' : (pick true (stOf S) (stOf H) q == val false) = true := by simp [pick, val, y1]
  generalize (pick true (stOf S) (stOf H) q == val false) = g1 at *
  subst y1'
  clear y1
  go_wp2_with fail
  refine (HH2.out n1).mono ?_
  rintro e w1 ⟨rfl, n2, rfl⟩
  have HBW := Lib.hid (show Below w.heap.size w ((w.drewN n1).drewN n2) from ext_trans (ext_drewN w n1) (ext_drewN _ n2))
  generalize hW : (w.drewN n1).drewN n2 = W at *
  have HSW := Lib.hid (HS.out.ext HBW.out)
  go_wp2_with fail
  refine (lost_any p S H OK.out q (-1) _ HSW.out).mono ?_
  rintro e w2 ⟨bh, rfl, hb1, hb2⟩
  have HH := Lib.hid (hb1.trans bare_iff.symm)
  have HBS := Lib.hid (ext_trans HBW.out hb2)
  clear hb1 hb2 HH1 HH2 HSW
  by_cases y2 : stOf S (-q) = 1
  · have Y2 := Lib.hid y2
    have y2' : (pick true (stOf S) (stOf H) (-q) == val true) = true := by simp [pick, val, y2]
    generalize (pick true (stOf S) (stOf H) (-q) == val true) = g2 at *
    subst y2'
    clear y2
    go_wp2_with fail
    go_ret
    have h : Fol p.th (stOf S) (stOf H) false false q := ⟨Y1.out, .inl Y2.out⟩
    exact ⟨_, rfl, by simp [h], HBS.out⟩
  · have Y2 := Lib.hid y2
    have y2' : (pick true (stOf S) (stOf H) (-q) == val true) = false := by simp [pick, val, y2]
    generalize (pick true (stOf S) (stOf H) (-q) == val true) = g2 at *
    subst y2'
    clear y2
    cases bh
    · go_wp2_with fail
      go_loopw [8] (fun c wr => ∃ k : Nat, k ≤ p.rs.length ∧ c = .int .i64 k ∧ Hid (Below w.heap.size w wr) ∧ Hid (NoneTo p (BeatC p H q) k)) (fun c _ => p.rs.length - (intOf c).toNat)
      case atStart => exact ⟨0, Nat.zero_le _, rfl, HBS.out, NoneTo.zero _ _⟩
      case round =>
        obtain ⟨k, hk, rfl, HB, HN⟩ := hrel
        have hS1 := HS.out.ext HB.out
        have hA1 := hS1.a OK.out
        have x0 := hS1.blk.cell 0 rfl
        have x1 := hA1.c1
        by_cases hlt : k < p.rs.length
        · obtain ⟨b, o, hRA, r0, r1, r2⟩ := hA1.rules.row hlt
          have hx := ext_alloc wr (.cells #[.int .i64 p.rs[k].kind, .int .i64 p.rs[k].head, .slice p.rs[k].A p.rs[k].body.length p.rs[k].c] 137)
          have HF := Lib.hid (every_any p S H OK.out false true p.rs[k].A p.rs[k].c p.rs[k].body (body_lit OK.out _ (List.getElem_mem hlt)) (body_len OK.out _ (List.getElem_mem hlt)) _ (hS1.ext hx) ((hA1.rules.bods _ (List.getElem_mem hlt)).ext hx))
          have HSX := Lib.hid (hS1.ext hx)
          have HX := Lib.hid (ext_trans HB.out hx)
          have HN1 := Lib.hid (show ¬ BeatC p H q k p.rs[k] → NoneTo p ((BeatC p H q)) (k + 1) from fun h => HN.out.next fun _ => h)
          have HY1 := Lib.hid (show BeatC p H q k p.rs[k] → Some_ p ((BeatC p H q)) from fun h => ⟨k, hlt, h⟩)
          rw [hRA] at x1
          clear hS1 hA1 hRA HN hx
          generalize p.rs[k] = r at *
          obtain ⟨rk, rh, rb, rA, rc⟩ := r
          simp only at r0 r1 r2 HF HN1 HY1 HX HSX
          by_cases c1 : rh = -q
          · have C1 := Lib.hid c1
            have c1' : (rh != -q) = false := by simp [c1]
            clear c1
            go_wp2_with fail
            refine HF.out.mono ?_
            rintro e w1 ⟨bl, rfl, hb1, hb2⟩
            have HB1 := Lib.hid hb1
            have HB2 := Lib.hid (ext_trans HX.out hb2)
            have HS2 := Lib.hid (HSX.out.ext hb2)
            clear hb1 hb2
            go_wp2_with fail
            refine (lost_any p S H OK.out q k _ HS2.out).mono ?_
            rintro e w3 ⟨bm, rfl, hb1, hb2⟩
            have HB3 := Lib.hid hb1
            have HB4 := Lib.hid (ext_trans HB2.out hb2)
            clear hb1 hb2
            cases bl
            · go_wp2_with fail
              go_roundw
              case rel => exact ⟨k + 1, by omega, by go_num, HB4.out, HN1.out fun h => by simpa using HB1.out.2 h.2.1⟩
              case measure => simp [intOf]; omega
            · cases bm
              · go_wp2_with fail
                go_roundw
                case rel => exact ⟨k + 1, by omega, by go_num, HB4.out, HN1.out fun h => by simpa using HB3.out.2 h.2.2⟩
                case measure => simp [intOf]; omega
              · go_wp2_with fail
                go_ret
                refine ⟨_, rfl, ?_, HB4.out⟩
                have h := HY1.out ⟨C1.out, HB1.out.1 (by simp), HB3.out.1 (by simp)⟩
                have h2 : Fol p.th (stOf S) (stOf H) false false q := ⟨Y1.out, .inr (.inr (beat_iff.2 h))⟩
                simp [h2]
          · have C1 := Lib.hid c1
            have c1' : (rh != -q) = true := by simp [c1]
            clear c1
            go_wp2_with fail
            go_roundw
            case rel => exact ⟨k + 1, by omega, by go_num, HX.out, HN1.out fun h => C1.out h.1⟩
            case measure => simp [intOf]; omega
        · obtain rfl : p.rs.length = k := by omega
          go_wp2_with fail
          go_ret
          refine ⟨_, rfl, ?_, HB.out⟩
          have h : ¬ Fol p.th (stOf S) (stOf H) false false q := fun f => f.2.elim Y2.out fun f => f.elim (fun f => by simpa using HH.out.2 f) fun f => HN.out.all (beat_iff.1 f)
          simp [h]
    · go_wp2_with fail
      go_ret
      have h : Fol p.th (stOf S) (stOf H) false false q := ⟨Y1.out, .inr (.inl (HH.out.1 (by simp)))⟩
      exact ⟨_, rfl, by simp [h], HBS.out⟩
set_option maxHeartbeats 400000 in
theorem can_any (p : ShP) (S H : List Int) (ok : p.Ok) (a b : Bool) (q : Int) (hq : p.th.Lit q) (w : World) (hS : Sh w p S H) :
    Calls Tryd.prog 59 #[.pointer (some ⟨p.B, 0, none⟩), .int .i64 q, .int .i64 (kind a b : Nat)] w (BoolOf w (Fol p.th (stOf S) (stOf H) a b q)) := by
  have H1 := Lib.hid (canSure_any p S H ok q w hS)
  have H2 := Lib.hid (canNotSure_any p S H ok q w hS)
  have H3 := Lib.hid (canHold_any p S H ok q hq w hS)
  have H4 := Lib.hid (canFail_any p S H ok q hq w hS)
  clear hS ok hq
  cases a <;> cases b <;> simp only [kind]
  · go_enter Tryd.func59, Tryd.ntmps59
    go_wp2_with fail
    refine H4.out.mono ?_
    rintro e w1 ⟨bl, rfl, hb1, hb2⟩
    have HB1 := Lib.hid hb1
    have HB2 := Lib.hid hb2
    clear hb1 hb2
    go_wp2_with fail
    go_ret
    exact ⟨_, rfl, HB1.out, HB2.out⟩
  · go_enter Tryd.func59, Tryd.ntmps59
    go_wp2_with fail
    refine H3.out.mono ?_
    rintro e w1 ⟨bl, rfl, hb1, hb2⟩
    have HB1 := Lib.hid hb1
    have HB2 := Lib.hid hb2
    clear hb1 hb2
    go_wp2_with fail
    go_ret
    exact ⟨_, rfl, HB1.out, HB2.out⟩
  · go_enter Tryd.func59, Tryd.ntmps59
    go_wp2_with fail
    refine H2.out.mono ?_
    rintro e w1 ⟨bl, rfl, hb1, hb2⟩
    have HB1 := Lib.hid hb1
    have HB2 := Lib.hid hb2
    clear hb1 hb2
    go_wp2_with fail
    go_ret
    exact ⟨_, rfl, HB1.out, HB2.out⟩
  · go_enter Tryd.func59, Tryd.ntmps59
    go_wp2_with fail
    refine H1.out.mono ?_
    rintro e w1 ⟨bl, rfl, hb1, hb2⟩
    have HB1 := Lib.hid hb1
    have HB2 := Lib.hid hb2
    clear hb1 hb2
    go_wp2_with fail
    go_ret
    exact ⟨_, rfl, HB1.out, HB2.out⟩
end Go.Proofs.YtjnkcpeicocjhaaDoor.Sh

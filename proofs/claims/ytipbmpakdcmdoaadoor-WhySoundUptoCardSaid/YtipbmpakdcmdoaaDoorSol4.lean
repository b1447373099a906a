/- A theory's solver: opposed, bare, beaten. -/
import Derived.Test.YtipbmpakdcmdoaaDoorSol3
namespace Go.Proofs.YtipbmpakdcmdoaaDoor.Sol
open Go.RowKit Mem Thy Nest Day Thm MapSet

def OppC (p : SvP) (H : List Int) (q : Int) (i : Nat) (r : Rw) : Prop := r.head = -q ∧ ¬ Fails (stOf H) r.body ∧ ¬ Outd p.th (stOf H) i q
theorem opp_iff {p : SvP} {H : List Int} {q : Int} : Opp p.th (stOf H) q ↔ ∃ (k : Nat) (hk : k < p.rs.length), OppC p H q k p.rs[k] := by
  unfold Opp OppC
  constructor
  · rintro ⟨k, hk, h⟩
    rw [rules_len] at hk
    obtain ⟨hk', e⟩ := rule_at hk
    rw [e] at h
    exact ⟨k, hk, h⟩
  · rintro ⟨k, hk, h⟩
    obtain ⟨hk', e⟩ := rule_at hk
    exact ⟨k, hk', by rw [e]; exact h⟩
set_option maxRecDepth 100000 in
set_option maxHeartbeats 1000000 in
theorem opp_any (p : SvP) (S H : List Int) (ok : p.Ok) (q : Int) (hq : p.th.Lit q) (w : World) (hS : Sv w p S H) :
    Calls Tryd.prog 92 #[.pointer (some ⟨p.B, 0, none⟩), .int .i64 q] w (BoolOf w (Opp p.th (stOf H) q)) := by
  have HS := Lib.hid hS
  have OK := Lib.hid ok
  have hrl := ok.rl
  have hn := ok.n
  obtain ⟨q0, q1, q2⟩ := lit_bd hq
  have x1 := hS.blk.cell 1 rfl
  clear hS ok hq
  go_enter Tryd.func92, Tryd.ntmps92
  go_wp2_with fail
  clear x1
  go_loopw [13] (fun c wr => Hid (Below w.heap.size w wr) ∧ ∃ k : Nat, k ≤ p.rs.length ∧ c = .int .i64 k ∧ Hid (∀ j (h : j < p.rs.length), j < k → ¬ OppC p H q j p.rs[j])) (fun c _ => p.rs.length - (intOf c).toNat)
  case atStart => exact ⟨Below.refl _ _, 0, Nat.zero_le _, rfl, fun j _ hj => absurd hj (by omega)⟩
  case round =>
    obtain ⟨HB, k, hk, rfl, hno⟩ := hrel
    by_cases hlt : k < p.rs.length
    · have hS1 := HS.out.ext HB.out
      obtain ⟨b, o, hRA, r0, r1, r2⟩ := hS1.rules.row hlt
      have HRA := Lib.hid hRA
      have HF := Lib.hid (fails_any p S H OK.out p.rs[k].A p.rs[k].c p.rs[k].body (OK.out.body _ (List.getElem_mem hlt)) (OK.out.bl _ (List.getElem_mem hlt)) _ (hS1.ext (ext_alloc wr (.cells #[.int .i64 p.rs[k].kind, .int .i64 p.rs[k].head, .slice p.rs[k].A p.rs[k].body.length p.rs[k].c] 115))) ((hS1.rules.bods _ (List.getElem_mem hlt)).ext (ext_alloc _ _)))
      have HS1 := Lib.hid (hS1.ext (ext_alloc wr (.cells #[.int .i64 p.rs[k].kind, .int .i64 p.rs[k].head, .slice p.rs[k].A p.rs[k].body.length p.rs[k].c] 115)))
      have HX := Lib.hid (ext_trans HB.out (ext_alloc wr (.cells #[.int .i64 p.rs[k].kind, .int .i64 p.rs[k].head, .slice p.rs[k].A p.rs[k].body.length p.rs[k].c] 115)))
      have HN' := Lib.hid (show ¬ OppC p H q k p.rs[k] → Hid (∀ j (h : j < p.rs.length), j < k + 1 → ¬ OppC p H q j p.rs[j]) from fun hn j h hj => by
        by_cases e : j = k
        · subst e; exact hn
        · exact hno.out j h (by omega))
      clear hS1 hRA hno
      rw [HRA.out]
      by_cases c1 : p.rs[k].head = -q
      · have C1 := Lib.hid c1
        have c1' : (p.rs[k].head == -q) = true := by simp [c1]
        clear c1
        go_wp2_with fail
        refine HF.out.mono ?_
        rintro e w' ⟨bb, rfl, hb1, hb2⟩
        have HB1 := Lib.hid hb1
        have HS2 := Lib.hid (HS1.out.ext hb2)
        have HB2 := Lib.hid (ext_trans HX.out hb2)
        clear hb1 hb2
        cases bb
        · go_wp2_with fail
          refine (outd_any p S H OK.out k hlt q _ HS2.out).mono ?_
          rintro e w' ⟨bc, rfl, hb1, hb2⟩
          have HB3 := Lib.hid hb1
          have HB4 := Lib.hid (ext_trans HB2.out hb2)
          clear hb1 hb2
          cases bc
          · go_wp2_with fail
            go_ret
            refine ⟨_, rfl, ?_, HB4.out⟩
            have h : Opp p.th (stOf H) q := opp_iff.2 ⟨k, hlt, C1.out, fun h => by simpa using HB1.out.2 h, fun h => by simpa using HB3.out.2 h⟩
            simp [h]
          · go_wp2_with fail
            go_roundw
            case rel => exact ⟨HB4.out, k + 1, by omega, by go_num, HN'.out fun h => h.2.2 (HB3.out.1 (by simp))⟩
            case measure => simp [intOf]; omega
        · go_wp2_with fail
          go_roundw
          case rel => exact ⟨HB2.out, k + 1, by omega, by go_num, HN'.out fun h => h.2.1 (HB1.out.1 (by simp))⟩
          case measure => simp [intOf]; omega
      · have c1' : (p.rs[k].head == -q) = false := by simp [c1]
        have C1 := Lib.hid c1
        clear c1
        go_wp2_with fail
        go_roundw
        case rel => exact ⟨HX.out, k + 1, by omega, by go_num, HN'.out fun h => C1.out h.1⟩
        case measure => simp [intOf]; omega
    · go_wp2_with fail
      go_ret
      refine ⟨_, rfl, ?_, HB.out⟩
      have h : ¬ Opp p.th (stOf H) q := fun h => by
        obtain ⟨j, hj, h⟩ := opp_iff.1 h
        exact hno.out j hj (by omega) h
      simp [h]
set_option maxHeartbeats 400000 in
theorem bare1_any (p : SvP) (S H : List Int) (ok : p.Ok) (q : Int) (c1 c2 : Value) (r : Rw) (hr : r ∈ p.rs) (w : World) (hw : Sv w p S H ∧ CapQ w c1 q ∧ CapS w c2 p.B) :
    Calls Tryd.prog 112 #[rwVal r, c1, c2] w (BoolOf w (r.kind ≠ 2 ∧ r.head = q ∧ ¬ Fails (stOf H) r.body)) := by
  obtain ⟨hS, ⟨g1, rfl, h1⟩, ⟨g2, rfl, h2⟩⟩ := hw
  have hx := ext_alloc w (.cells #[.int .i64 r.kind, .int .i64 r.head, .slice r.A r.body.length r.c] 115)
  have HA := Lib.hid (fails_any p S H ok r.A r.c r.body (ok.body r hr) (ok.bl r hr) _ (hS.ext hx) ((hS.rules.bods r hr).ext hx))
  have HX := Lib.hid hx
  have x1 := (blk_ext h1 hx).cell 0 rfl
  have x2 := (blk_ext h2 hx).cell 0 rfl
  clear hx hS ok hr h1 h2
  obtain ⟨rk, rh, rb, rA, rc⟩ := r
  simp only [rwVal] at *
  by_cases k : rk = 2
  · subst k
    go_enter Tryd.func112, Tryd.ntmps112
    go_wp2_with fail
    go_ret
    exact ⟨_, rfl, by simp, HX.out⟩
  · have hk : (rk != 2) = true := by simp [k]
    by_cases hq : rh = q
    · subst hq
      go_enter Tryd.func112, Tryd.ntmps112
      go_wp2_with fail
      refine HA.out.mono ?_
      rintro e w' ⟨b, rfl, hb1, hb2⟩
      have HB1 := Lib.hid hb1
      have HB2 := Lib.hid (ext_trans HX.out hb2)
      clear hb1 hb2
      go_wp2_with fail
      go_ret
      refine ⟨_, rfl, ?_, HB2.out⟩
      have h := HB1.out
      rw [← h]
      cases b <;> simp [k]
    · have hq' : (rh == q) = false := by simp [hq]
      go_enter Tryd.func112, Tryd.ntmps112
      go_wp2_with fail
      go_ret
      exact ⟨_, rfl, by simp [hq], HX.out⟩
set_option maxHeartbeats 400000 in
theorem bare_any (p : SvP) (S H : List Int) (ok : p.Ok) (q : Int) (w : World) (hS : Sv w p S H) :
    Calls Tryd.prog 93 #[.pointer (some ⟨p.B, 0, none⟩), .int .i64 q] w (BoolOf w (Bare p.th (stOf H) q)) := by
  have hx := ext_alloc w (.cells #[.pointer (some ⟨p.B, 0, none⟩)] 117)
  have hy := ext_trans hx (ext_alloc _ (.cells #[.int .i64 q] 3))
  have HC := Lib.hid (contains_rules 112 (fun _ _ => by kernel_rfl) (.pointer (some ⟨w.heap.size + 1, 0, none⟩)) (.pointer (some ⟨w.heap.size, 0, none⟩)) (fun r => r.kind ≠ 2 ∧ r.head = q ∧ ¬ Fails (stOf H) r.body) _ (keepsQ p S H _ _ q) p.rs p.RA p.rc
    (fun r hr w hw => bare1_any p S H ok q _ _ r hr w hw) _ ⟨hS.ext hy, ⟨_, rfl, by simpa using Blk.new (w.alloc (.cells #[.pointer (some ⟨p.B, 0, none⟩)] 117)) 3 [.int .i64 q]⟩, ⟨_, rfl, blk_ext (Blk.new w 117 [.pointer (some ⟨p.B, 0, none⟩)]) (ext_alloc _ _)⟩⟩ (hS.rules.ext hy))
  have x1 := (blk_ext hS.blk hy).cell 1 rfl
  have HX := Lib.hid hy
  clear hx hy hS ok
  go_enter Tryd.func93, Tryd.ntmps93
  go_wp2_with fail
  refine HC.out.mono ?_
  rintro e w' ⟨b, rfl, hb1, hb2⟩
  have HB1 := Lib.hid hb1
  have HB2 := Lib.hid (ext_trans HX.out hb2)
  clear hb1 hb2
  go_wp2_with fail
  go_ret
  refine ⟨_, rfl, ?_, HB2.out⟩
  have h := HB1.out.trans (rules_ex (p := p) (fun r => r.kind ≠ 2 ∧ r.head = q ∧ ¬ Fails (stOf H) r.body))
  have h2 : Bare p.th (stOf H) q ↔ ¬ ∃ r ∈ p.th.rules, r.kind ≠ 2 ∧ r.head = q ∧ ¬ Fails (stOf H) r.body :=
    ⟨fun hb ⟨r, hr, a, b, c⟩ => c (hb r hr a b), fun hn r hr a b => Classical.byContradiction fun c => hn ⟨r, hr, a, b, c⟩⟩
  rw [h2, ← h]
  cases b <;> simp
def SafeC (p : SvP) (H : List Int) (i : Nat) (q : Int) (k : Nat) (r : Rw) : Prop := r.head = q → r.kind ≠ 2 → Above p.th k i → Fails (stOf H) r.body
theorem safe_iff {p : SvP} {H : List Int} {i : Nat} {q : Int} : SafeR p.th (stOf H) i q ↔ ∀ (k : Nat) (hk : k < p.rs.length), SafeC p H i q k p.rs[k] := by
  unfold SafeR SafeC
  constructor
  · intro h k hk
    obtain ⟨hk', e⟩ := rule_at hk
    have := h k hk'
    rw [e] at this
    exact this
  · intro h k hk
    rw [rules_len] at hk
    obtain ⟨hk', e⟩ := rule_at hk
    rw [e]
    exact h k hk
def BeatC (p : SvP) (H : List Int) (q : Int) (i : Nat) (r : Rw) : Prop := r.head = -q ∧ AllY (stOf H) r.body ∧ SafeR p.th (stOf H) i q
theorem beat_iff {p : SvP} {H : List Int} {q : Int} : Beat p.th (stOf H) q ↔ ∃ (k : Nat) (hk : k < p.rs.length), BeatC p H q k p.rs[k] := by
  unfold Beat BeatC
  constructor
  · rintro ⟨k, hk, h⟩
    rw [rules_len] at hk
    obtain ⟨hk', e⟩ := rule_at hk
    rw [e] at h
    exact ⟨k, hk, h⟩
  · rintro ⟨k, hk, h⟩
    obtain ⟨hk', e⟩ := rule_at hk
    exact ⟨k, hk', by rw [e]; exact h⟩
end Go.Proofs.YtipbmpakdcmdoaaDoor.Sol

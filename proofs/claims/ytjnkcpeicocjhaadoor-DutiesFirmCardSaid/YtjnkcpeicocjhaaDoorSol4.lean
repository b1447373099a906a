/- A theory's solver: opposed, bare, beaten. A theory's solver: beaten. -/
import Derived.Test.YtjnkcpeicocjhaaDoorSol2
namespace Go.Proofs.YtjnkcpeicocjhaaDoor.Sol
open Go.RowKit Mem Thy Nest Day Thm MapSet

def OppC (p : SvP) (H : List Int) (q : Int) (i : Nat) (r : Rw) : Prop := r.head = -q ∧ ¬ Fails (stOf H) r.body ∧ ¬ Outd p.th (stOf H) i q
theorem opp_iff {p : SvP} {H : List Int} {q : Int} : Opp p.th (stOf H) q ↔ ∃ (k : Nat) (hk : k < p.rs.length), OppC p H q k p.rs[k] := by
  unfold Opp OppC
  constructor
  · rintro ⟨k, hk, h⟩
    rw [rules_len] at hk
    obtain ⟨hk', e⟩ := rule_at hk
    rw [e] at h
    exact ⟨k, hk, h⟩
  · rintro ⟨k, hk, h⟩
    obtain ⟨hk', e⟩ := rule_at hk
    exact ⟨k, hk', by rw [e]; exact h⟩
set_option maxRecDepth 100000 in
set_option maxHeartbeats 1000000 in
theorem opp_any (p : SvP) (S H : List Int) (ok : p.Ok) (q : Int) (hq : p.th.Lit q) (w : World) (hS : Sv w p S H) :
    Calls Tryd.prog 113 #[.pointer (some ⟨p.B, 0, none⟩), .int .i64 q] w (BoolOf w (Opp p.th (stOf H) q)) := by
  have HS := Lib.hid hS
  have OK := Lib.hid ok
  have hrl := ok.rl
  have hn := ok.n
  obtain ⟨q0, q1, q2⟩ := lit_bd hq
  have x1 := hS.blk.cell 1 rfl
  clear hS ok hq
  go_enter Tryd.func113, Tryd.ntmps113
  go_wp2_with fail
  clear x1
  go_loopw [13] (fun c wr => Hid (Below w.heap.size w wr) ∧ ∃ k : Nat, k ≤ p.rs.length ∧ c = .int .i64 k ∧ Hid (∀ j (h : j < p.rs.length), j < k → ¬ OppC p H q j p.rs[j])) (fun c _ => p.rs.length - (intOf c).toNat)
  case atStart => exact ⟨Below.refl _ _, 0, Nat.zero_le _, rfl, fun j _ hj => absurd hj (by omega)⟩
  case round =>
    obtain ⟨HB, k, hk, rfl, hno⟩ := hrel
    by_cases hlt : k < p.rs.length
    · have hS1 := HS.out.ext HB.out
      obtain ⟨b, o, hRA, r0, r1, r2⟩ := hS1.rules.row hlt
      have HRA := Lib.hid hRA
      have HF := Lib.hid (fails_any p S H OK.out p.rs[k].A p.rs[k].c p.rs[k].body (OK.out.body _ (List.getElem_mem hlt)) (OK.out.bl _ (List.getElem_mem hlt)) _ (hS1.ext (ext_alloc wr (.cells #[.int .i64 p.rs[k].kind, .int .i64 p.rs[k].head, .slice p.rs[k].A p.rs[k].body.length p.rs[k].c] 131))) ((hS1.rules.bods _ (List.getElem_mem hlt)).ext (ext_alloc _ _)))
      have HS1 := Lib.hid (hS1.ext (ext_alloc wr (.cells #[.int .i64 p.rs[k].kind, .int .i64 p.rs[k].head, .slice p.rs[k].A p.rs[k].body.length p.rs[k].c] 131)))
      have HX := Lib.hid (ext_trans HB.out (ext_alloc wr (.cells #[.int .i64 p.rs[k].kind, .int .i64 p.rs[k].head, .slice p.rs[k].A p.rs[k].body.length p.rs[k].c] 131)))
      have HN' := Lib.hid (show ¬ OppC p H q k p.rs[k] → Hid (∀ j (h : j < p.rs.length), j < k + 1 → ¬ OppC p H q j p.rs[j]) from fun hn j h hj => by
        by_cases e : j = k
        · subst e; exact hn
        · exact hno.out j h (by omega))
      clear hS1 hRA hno
      rw [HRA.out]
      by_cases c1 : p.rs[k].head = -q
      · have C1 := Lib.hid c1
        have c1' : (p.rs[k].head == -q) = true := by simp [c1]
        clear c1
        go_wp2_with fail
        refine HF.out.mono ?_
        rintro e w' ⟨bb, rfl, hb1, hb2⟩
        have HB1 := Lib.hid hb1
        have HS2 := Lib.hid (HS1.out.ext hb2)
        have HB2 := Lib.hid (ext_trans HX.out hb2)
        clear hb1 hb2
        cases bb
        · go_wp2_with fail
          refine (outd_any p S H OK.out k hlt q _ HS2.out).mono ?_
          rintro e w' ⟨bc, rfl, hb1, hb2⟩
          have HB3 := Lib.hid hb1
          have HB4 := Lib.hid (ext_trans HB2.out hb2)
          clear hb1 hb2
          cases bc
          · go_wp2_with fail
            go_ret
            refine ⟨_, rfl, ?_, HB4.out⟩
            have h : Opp p.th (stOf H) q := opp_iff.2 ⟨k, hlt, C1.out, fun h => by simpa using HB1.out.2 h, fun h => by simpa using HB3.out.2 h⟩
            simp [h]
          · go_wp2_with fail
            go_roundw
            case rel => exact ⟨HB4.out, k + 1, by omega, by go_num, HN'.out fun h => h.2.2 (HB3.out.1 (by simp))⟩
            case measure => simp [intOf]; omega
        · go_wp2_with fail
          go_roundw
          case rel => exact ⟨HB2.out, k + 1, by omega, by go_num, HN'.out fun h => h.2.1 (HB1.out.1 (by simp))⟩
          case measure => simp [intOf]; omega
      · have c1' : (p.rs[k].head == -q) = false := by simp [c1]
        have C1 := Lib.hid c1
        clear c1
        go_wp2_with fail
        go_roundw
        case rel => exact ⟨HX.out, k + 1, by omega, by go_num, HN'.out fun h => C1.out h.1⟩
        case measure => simp [intOf]; omega
    · go_wp2_with fail
      go_ret
      refine ⟨_, rfl, ?_, HB.out⟩
      have h : ¬ Opp p.th (stOf H) q := fun h => by
        obtain ⟨j, hj, h⟩ := opp_iff.1 h
        exact hno.out j hj (by omega) h
      simp [h]
set_option maxHeartbeats 400000 in
theorem bare1_any (p : SvP) (S H : List Int) (ok : p.Ok) (q : Int) (c1 c2 : Value) (r : Rw) (hr : r ∈ p.rs) (w : World) (hw : Sv w p S H ∧ CapQ w c1 q ∧ CapS w c2 p.B) :
    Calls Tryd.prog 136 #[rwVal r, c1, c2] w (BoolOf w (r.kind ≠ 2 ∧ r.head = q ∧ ¬ Fails (stOf H) r.body)) := by
  obtain ⟨hS, ⟨g1, rfl, h1⟩, ⟨g2, rfl, h2⟩⟩ := hw
  have hx := ext_alloc w (.cells #[.int .i64 r.kind, .int .i64 r.head, .slice r.A r.body.length r.c] 131)
  have HA := Lib.hid (fails_any p S H ok r.A r.c r.body (ok.body r hr) (ok.bl r hr) _ (hS.ext hx) ((hS.rules.bods r hr).ext hx))
  have HX := Lib.hid hx
  have x1 := (blk_ext h1 hx).cell 0 rfl
  have x2 := (blk_ext h2 hx).cell 0 rfl
  clear hx hS ok hr h1 h2
  obtain ⟨rk, rh, rb, rA, rc⟩ := r
  simp only [rwVal] at *
  by_cases k : rk = 2
  · subst k
    go_enter Tryd.func136, Tryd.ntmps136
    go_wp2_with fail
    go_ret
    exact ⟨_, rfl, by simp, HX.out⟩
  · have hk : (rk != 2) = true := by simp [k]
    by_cases hq : rh = q
    · subst hq
      go_enter Tryd.func136, Tryd.ntmps136
      go_wp2_with fail
      refine HA.out.mono ?_
      rintro e w' ⟨b, rfl, hb1, hb2⟩
      have HB1 := Lib.hid hb1
      have HB2 := Lib.hid (ext_trans HX.out hb2)
      clear hb1 hb2
      go_wp2_with fail
      go_ret
      refine ⟨_, rfl, ?_, HB2.out⟩
      have h := HB1.out
      rw [← h]
      cases b <;> simp [k]
    · have hq' : (rh == q) = false := by simp [hq]
      go_enter Tryd.func136, Tryd.ntmps136
      go_wp2_with fail
      go_ret
      exact ⟨_, rfl, by simp [hq], HX.out⟩
set_option maxHeartbeats 400000 in
theorem bare_any (p : SvP) (S H : List Int) (ok : p.Ok) (q : Int) (w : World) (hS : Sv w p S H) :
    Calls Tryd.prog 114 #[.pointer (some ⟨p.B, 0, none⟩), .int .i64 q] w (BoolOf w (Bare p.th (stOf H) q)) := by
  have hx := ext_alloc w (.cells #[.pointer (some ⟨p.B, 0, none⟩)] 139)
  have hy := ext_trans hx (ext_alloc _ (.cells #[.int .i64 q] 3))
  have HC := Lib.hid (contains_rules 136 (fun _ _ => by kernel_rfl) (.pointer (some ⟨w.heap.size + 1, 0, none⟩)) (.pointer (some ⟨w.heap.size, 0, none⟩)) (fun r => r.kind ≠ 2 ∧ r.head = q ∧ ¬ Fails (stOf H) r.body) _ (keepsQ p S H _ _ q) p.rs p.RA p.rc
    (fun r hr w hw => bare1_any p S H ok q _ _ r hr w hw) _ ⟨hS.ext hy, ⟨_, rfl, by simpa using Blk.new (w.alloc (.cells #[.pointer (some ⟨p.B, 0, none⟩)] 139)) 3 [.int .i64 q]⟩, ⟨_, rfl, blk_ext (Blk.new w 139 [.pointer (some ⟨p.B, 0, none⟩)]) (ext_alloc _ _)⟩⟩ (hS.rules.ext hy))
  have x1 := (blk_ext hS.blk hy).cell 1 rfl
  have HX := Lib.hid hy
  clear hx hy hS ok
  go_enter Tryd.func114, Tryd.ntmps114
  go_wp2_with fail
  refine HC.out.mono ?_
  rintro e w' ⟨b, rfl, hb1, hb2⟩
  have HB1 := Lib.hid hb1
  have HB2 := Lib.hid (ext_trans HX.out hb2)
  clear hb1 hb2
  go_wp2_with fail
  go_ret
  refine ⟨_, rfl, ?_, HB2.out⟩
  have h := HB1.out.trans (rules_ex (p := p) (fun r => r.kind ≠ 2 ∧ r.head = q ∧ ¬ Fails (stOf H) r.body))
  have h2 : Bare p.th (stOf H) q ↔ ¬ ∃ r ∈ p.th.rules, r.kind ≠ 2 ∧ r.head = q ∧ ¬ Fails (stOf H) r.body :=
    ⟨fun hb ⟨r, hr, a, b, c⟩ => c (hb r hr a b), fun hn r hr a b => Classical.byContradiction fun c => hn ⟨r, hr, a, b, c⟩⟩
  rw [h2, ← h]
  cases b <;> simp
def SafeC (p : SvP) (H : List Int) (i : Nat) (q : Int) (k : Nat) (r : Rw) : Prop := r.head = q → r.kind ≠ 2 → Above p.th k i → Fails (stOf H) r.body
theorem safe_iff {p : SvP} {H : List Int} {i : Nat} {q : Int} : SafeR p.th (stOf H) i q ↔ ∀ (k : Nat) (hk : k < p.rs.length), SafeC p H i q k p.rs[k] := by
  unfold SafeR SafeC
  constructor
  · intro h k hk
    obtain ⟨hk', e⟩ := rule_at hk
    have := h k hk'
    rw [e] at this
    exact this
  · intro h k hk
    rw [rules_len] at hk
    obtain ⟨hk', e⟩ := rule_at hk
    rw [e]
    exact h k hk
def BeatC (p : SvP) (H : List Int) (q : Int) (i : Nat) (r : Rw) : Prop := r.head = -q ∧ AllY (stOf H) r.body ∧ SafeR p.th (stOf H) i q
theorem beat_iff {p : SvP} {H : List Int} {q : Int} : Beat p.th (stOf H) q ↔ ∃ (k : Nat) (hk : k < p.rs.length), BeatC p H q k p.rs[k] := by
  unfold Beat BeatC
  constructor
  · rintro ⟨k, hk, h⟩
    rw [rules_len] at hk
    obtain ⟨hk', e⟩ := rule_at hk
    rw [e] at h
    exact ⟨k, hk, h⟩
  · rintro ⟨k, hk, h⟩
    obtain ⟨hk', e⟩ := rule_at hk
    exact ⟨k, hk', by rw [e]; exact h⟩
end Go.Proofs.YtjnkcpeicocjhaaDoor.Sol
namespace Go.Proofs.YtjnkcpeicocjhaaDoor.Sol
open Go.RowKit Mem Thy Nest Day Thm MapSet

set_option maxRecDepth 100000 in
set_option maxHeartbeats 2000000 in
theorem beat_any (p : SvP) (S H : List Int) (ok : p.Ok) (q : Int) (hq : p.th.Lit q) (w : World) (hS : Sv w p S H) :
    Calls Tryd.prog 115 #[.pointer (some ⟨p.B, 0, none⟩), .int .i64 q] w (BoolOf w (Beat p.th (stOf H) q)) := by
  have HS := Lib.hid hS
  have OK := Lib.hid ok
  have hrl := ok.rl
  have hn := ok.n
  obtain ⟨q0, q1, q2⟩ := lit_bd hq
  have x1 := hS.blk.cell 1 rfl
  clear hS ok hq
  go_enter Tryd.func115, Tryd.ntmps115
  go_wp2_with fail
  clear x1
  go_loopw [16] (fun c wr => Hid (Below w.heap.size w wr) ∧ ∃ k : Nat, k ≤ p.rs.length ∧ c = .int .i64 k ∧ Hid (∀ j (h : j < p.rs.length), j < k → ¬ BeatC p H q j p.rs[j])) (fun c _ => p.rs.length - (intOf c).toNat)
  case atStart => exact ⟨Below.refl _ _, 0, Nat.zero_le _, rfl, fun j _ hj => absurd hj (by omega)⟩
  case round =>
    obtain ⟨HB, k, hk, rfl, hno⟩ := hrel
    by_cases hlt : k < p.rs.length
    · have hS1 := HS.out.ext HB.out
      obtain ⟨b, o, hRA, r0, r1, r2⟩ := hS1.rules.row hlt
      have HRA := Lib.hid hRA
      have HA := Lib.hid (all_any p S H OK.out p.rs[k].A p.rs[k].c p.rs[k].body (OK.out.body _ (List.getElem_mem hlt)) (OK.out.bl _ (List.getElem_mem hlt)) _ (hS1.ext (ext_alloc wr (.cells #[.int .i64 p.rs[k].kind, .int .i64 p.rs[k].head, .slice p.rs[k].A p.rs[k].body.length p.rs[k].c] 131))) ((hS1.rules.bods _ (List.getElem_mem hlt)).ext (ext_alloc _ _)))
      have HS1 := Lib.hid (hS1.ext (ext_alloc wr (.cells #[.int .i64 p.rs[k].kind, .int .i64 p.rs[k].head, .slice p.rs[k].A p.rs[k].body.length p.rs[k].c] 131)))
      have HX := Lib.hid (ext_trans HB.out (ext_alloc wr (.cells #[.int .i64 p.rs[k].kind, .int .i64 p.rs[k].head, .slice p.rs[k].A p.rs[k].body.length p.rs[k].c] 131)))
      have HN' := Lib.hid (show ¬ BeatC p H q k p.rs[k] → Hid (∀ j (h : j < p.rs.length), j < k + 1 → ¬ BeatC p H q j p.rs[j]) from fun hn j h hj => by
        by_cases e : j = k
        · subst e; exact hn
        · exact hno.out j h (by omega))
      clear hS1 hRA hno
      rw [HRA.out]
      by_cases c1 : p.rs[k].head = -q
      · have C1 := Lib.hid c1
        have c1' : (p.rs[k].head != -q) = false := by simp [c1]
        clear c1
        go_wp2_with fail
        refine HA.out.mono ?_
        rintro e w1 ⟨bb, rfl, hb1, hb2⟩
        have HB1 := Lib.hid hb1
        have HS2 := Lib.hid (HS1.out.ext hb2)
        have HB2 := Lib.hid (ext_trans HX.out hb2)
        have x1 : w1.cell? ⟨p.B, 1, none⟩ = some (.slice (some ⟨b, o, none⟩) p.rs.length p.rc) := by rw [← HRA.out]; exact HS2.out.blk.cell 1 rfl
        clear hb1 hb2
        cases bb
        · go_wp2_with fail
          go_roundw
          case rel => exact ⟨HB2.out, k + 1, by omega, by go_num, HN'.out fun h => by simpa using HB1.out.2 h.2.1⟩
          case measure => simp [intOf]; omega
        · clear r0 r1 r2
          go_wp2_with fail
          clear x1
          go_loopw [7, 39] (fun s c wi => Hid (Below w1.heap.size w1 wi) ∧ ∃ (j : Nat) (bs : Bool), j ≤ p.rs.length ∧ c = .int .i64 j ∧ s = .bool bs ∧ Hid (bs = true ↔ ∀ (i : Nat) (hi : i < p.rs.length), i < j → SafeC p H k q i p.rs[i])) (fun _ c _ => p.rs.length - (intOf c).toNat)
          case atStart => exact ⟨Below.refl _ _, 0, true, Nat.zero_le _, rfl, rfl, ⟨fun _ i _ hi => absurd hi (by omega), fun _ => rfl⟩⟩
          case round =>
            obtain ⟨HBi, j, bs, hj, rfl, rfl, HSf⟩ := hrel
            by_cases hjl : j < p.rs.length
            · have hS3 := HS2.out.ext HBi.out
              obtain ⟨b', o', hRA, r0, r1, r2⟩ := hS3.rules.row hjl
              have hRA' := HRA.out.symm.trans hRA
              simp only [Option.some.injEq, Addr.mk.injEq, and_true] at hRA'
              obtain ⟨rfl, rfl⟩ := hRA'
              have x5 : ∀ ob, (wr.alloc ob).cell? ⟨p.B, 5, none⟩ = some (.map (some p.mb)) := fun ob => (blk_ext hS3.blk (ext_alloc _ _)).cell 5 rfl
              have hrun : ∀ ob, (Instr.lookup 166 (.map (some p.mb)) (.agg #[.int .i64 (j : Int), .int .i64 (k : Int)]) false).run Tryd.prog (wr.alloc ob) = .ok (.bool (decide (Above p.th j k))) (wr.alloc ob) := fun ob => (hS3.ext (ext_alloc _ _)).above j k (by omega) (by omega)
              have HF := Lib.hid (fails_any p S H OK.out p.rs[j].A p.rs[j].c p.rs[j].body (OK.out.body _ (List.getElem_mem hjl)) (OK.out.bl _ (List.getElem_mem hjl)) _ (hS3.ext (ext_alloc wr (.cells #[.int .i64 p.rs[j].kind, .int .i64 p.rs[j].head, .slice p.rs[j].A p.rs[j].body.length p.rs[j].c] 131))) ((hS3.rules.bods _ (List.getElem_mem hjl)).ext (ext_alloc _ _)))
              have HXi := Lib.hid (ext_trans HBi.out (ext_alloc wr (.cells #[.int .i64 p.rs[j].kind, .int .i64 p.rs[j].head, .slice p.rs[j].A p.rs[j].body.length p.rs[j].c] 131)))
              have HY := Lib.hid (show SafeC p H k q j p.rs[j] → (bs = true ↔ ∀ (i : Nat) (hi : i < p.rs.length), i < j + 1 → SafeC p H k q i p.rs[i]) from fun hs => HSf.out.trans ⟨fun h i hi hij => by
                by_cases e : i = j
                · subst e; exact hs
                · exact h i hi (by omega), fun h i hi hij => h i hi (by omega)⟩)
              have HNo := Lib.hid (show ¬ SafeC p H k q j p.rs[j] → (false = true ↔ ∀ (i : Nat) (hi : i < p.rs.length), i < j + 1 → SafeC p H k q i p.rs[i]) from fun hs => ⟨fun h => (by simp at h), fun h => absurd (h j hjl (by omega)) hs⟩)
              clear hS3 hRA HSf
              by_cases c1 : p.rs[j].head = q
              · by_cases c2 : p.rs[j].kind = 2
                · have c2' : (p.rs[j].kind != 2) = false := by simp [c2]
                  have C2 := Lib.hid c2
                  clear c2
                  go_wp2_with fail
                  go_roundw
                  case rel => exact ⟨ext_trans HBi.out (ext_alloc _ _), j + 1, _, by omega, by go_num, rfl, HY.out fun _ h _ => absurd C2.out h⟩
                  case measure => simp [intOf]; omega
                · have c2' : (p.rs[j].kind != 2) = true := by simp [c2]
                  have C2 := Lib.hid c2
                  clear c2
                  by_cases c3 : Above p.th j k
                  · have c3' : decide (Above p.th j k) = true := by simp [c3]
                    rw [c3'] at hrun
                    have C3 := Lib.hid c3
                    clear c3 c3'
                    have C1 := Lib.hid c1
                    have c1' : (p.rs[j].head == q) = true := by simp [c1]
                    clear c1
                    go_wp2_with fail
                    refine HF.out.mono ?_
                    rintro e w2 ⟨bf, rfl, hb1, hb2⟩
                    have HB3 := Lib.hid hb1
                    have HB4 := Lib.hid (ext_trans HXi.out hb2)
                    clear hb1 hb2
                    cases bf
                    · go_wp2_with fail
                      go_roundw
                      case rel => exact ⟨HB4.out, j + 1, _, by omega, by go_num, rfl, HNo.out fun h => by simpa using HB3.out.2 (h C1.out C2.out C3.out)⟩
                      case measure => simp [intOf]; omega
                    · go_wp2_with fail
                      go_roundw
                      case rel => exact ⟨HB4.out, j + 1, _, by omega, by go_num, rfl, HY.out fun _ _ _ => HB3.out.1 (by simp)⟩
                      case measure => simp [intOf]; omega
                  · have c3' : decide (Above p.th j k) = false := by simp [c3]
                    rw [c3'] at hrun
                    have C3 := Lib.hid c3
                    clear c3 c3'
                    go_wp2_with fail
                    go_roundw
                    case rel => exact ⟨ext_trans HBi.out (ext_alloc _ _), j + 1, _, by omega, by go_num, rfl, HY.out fun _ _ h => absurd h C3.out⟩
                    case measure => simp [intOf]; omega
              · have c1' : (p.rs[j].head == q) = false := by simp [c1]
                have C1 := Lib.hid c1
                clear c1
                go_wp2_with fail
                go_roundw
                case rel => exact ⟨ext_trans HBi.out (ext_alloc _ _), j + 1, _, by omega, by go_num, rfl, HY.out fun h _ _ => absurd h C1.out⟩
                case measure => simp [intOf]; omega
            · have HSa := Lib.hid (show bs = true ↔ SafeR p.th (stOf H) k q from HSf.out.trans ⟨fun h => safe_iff.2 fun i hi => h i hi (by omega), fun h i hi _ => safe_iff.1 h i hi⟩)
              clear HSf
              have HBo := Lib.hid (ext_trans HB2.out HBi.out)
              cases bs
              · go_wp2_with fail
                go_roundw
                case rel => exact ⟨HBo.out, k + 1, by omega, by go_num, HN'.out fun h => by simpa using HSa.out.2 h.2.2⟩
                case measure => simp [intOf]; omega
              · go_wp2_with fail
                go_ret
                refine ⟨_, rfl, ?_, HBo.out⟩
                have h : Beat p.th (stOf H) q := beat_iff.2 ⟨k, hlt, C1.out, HB1.out.1 (by simp), HSa.out.1 (by simp)⟩
                simp [h]
      · have c1' : (p.rs[k].head != -q) = true := by simp [c1]
        have C1 := Lib.hid c1
        clear c1
        go_wp2_with fail
        go_roundw
        case rel => exact ⟨HX.out, k + 1, by omega, by go_num, HN'.out fun h => C1.out h.1⟩
        case measure => simp [intOf]; omega
    · go_wp2_with fail
      go_ret
      refine ⟨_, rfl, ?_, HB.out⟩
      have h : ¬ Beat p.th (stOf H) q := fun h => by
        obtain ⟨j, hj, h⟩ := beat_iff.1 h
        exact hno.out j hj (by omega) h
      simp [h]
end Go.Proofs.YtjnkcpeicocjhaaDoor.Sol

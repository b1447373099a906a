/- A theory's solver: all, fails, supported, bare. A theory's solver: what is above what; outdone, opposed, bare, beaten. -/
import Derived.Test.YtjnkcpeicocjhaaDoorSol
import Derived.DeepKeys4
import Derived.WalkArith
namespace Go.Proofs.YtjnkcpeicocjhaaDoor.Sol
open Go.RowKit Mem Thy Nest Day Thm MapSet

theorem rules_ex {p : SvP} (Q : Rl → Prop) : (∃ x ∈ p.rs, Q x.rl) ↔ ∃ r ∈ p.th.rules, Q r := by
  unfold SvP.th
  constructor
  · rintro ⟨x, h, q⟩; exact ⟨x.rl, List.mem_map.2 ⟨x, h, rfl⟩, q⟩
  · rintro ⟨r, h, q⟩
    obtain ⟨x, hx, rfl⟩ := List.mem_map.1 h
    exact ⟨x, hx, q⟩
theorem keepsS (p : SvP) (S H : List Int) (c : Value) : Keeps (fun w => Sv w p S H ∧ CapS w c p.B) := fun _ _ h hb => ⟨h.1.ext hb, h.2.ext hb⟩
theorem keepsQ (p : SvP) (S H : List Int) (c1 c2 : Value) (q : Int) : Keeps (fun w => Sv w p S H ∧ CapQ w c1 q ∧ CapS w c2 p.B) := fun _ _ h hb => ⟨h.1.ext hb, h.2.1.ext hb, h.2.2.ext hb⟩
set_option maxHeartbeats 400000 in
theorem all1_any (p : SvP) (S H : List Int) (ok : p.Ok) (c1 : Value) (x : Int) (hx : p.th.Lit x) (w : World) (hw : Sv w p S H ∧ CapS w c1 p.B) :
    Calls Tryd.prog 146 #[.int .i64 x, c1] w (BoolOf w (stOf H x ≠ 1)) := by
  obtain ⟨hS, g, rfl, hg⟩ := hw
  have x0 := hg.cell 0 rfl
  have HC := Lib.hid (holds_any p S H ok x hx w hS)
  clear hS hg ok hx
  obtain ⟨z, hz⟩ : ∃ z, stOf H x = z := ⟨_, rfl⟩
  rw [hz] at HC ⊢
  clear hz
  go_enter Tryd.func146, Tryd.ntmps146
  go_wp2_with fail
  refine HC.out.mono ?_
  rintro e w' ⟨rfl, n, rfl⟩
  go_wp2_with fail
  go_ret
  exact ⟨_, rfl, by simp, ext_drewN _ _⟩
set_option maxHeartbeats 400000 in
theorem fails1_any (p : SvP) (S H : List Int) (ok : p.Ok) (c1 : Value) (x : Int) (hx : p.th.Lit x) (w : World) (hw : Sv w p S H ∧ CapS w c1 p.B) :
    Calls Tryd.prog 147 #[.int .i64 x, c1] w (BoolOf w (stOf H x = 2)) := by
  obtain ⟨hS, g, rfl, hg⟩ := hw
  have x0 := hg.cell 0 rfl
  have HC := Lib.hid (holds_any p S H ok x hx w hS)
  clear hS hg ok hx
  obtain ⟨z, hz⟩ : ∃ z, stOf H x = z := ⟨_, rfl⟩
  rw [hz] at HC ⊢
  clear hz
  go_enter Tryd.func147, Tryd.ntmps147
  go_wp2_with fail
  refine HC.out.mono ?_
  rintro e w' ⟨rfl, n, rfl⟩
  go_wp2_with fail
  go_ret
  exact ⟨_, rfl, by simp, ext_drewN _ _⟩
set_option maxHeartbeats 400000 in
theorem all_any (p : SvP) (S H : List Int) (ok : p.Ok) (A : Option Addr) (c : Nat) (body : List Int) (hb : ∀ x ∈ body, p.th.Lit x) (hl : body.length ≤ 120) (w : World) (hS : Sv w p S H) (hr : Rd w A (ints body)) :
    Calls Tryd.prog 133 #[.pointer (some ⟨p.B, 0, none⟩), .slice A body.length c] w (BoolOf w (AllY (stOf H) body)) := by
  have hx := ext_alloc w (.cells #[.pointer (some ⟨p.B, 0, none⟩)] 139)
  have HC := Lib.hid (contains_ints 146 (fun _ _ => by kernel_rfl) (.pointer (some ⟨w.heap.size, 0, none⟩)) (fun x => stOf H x ≠ 1) _ (keepsS p S H _) body A c (by omega) (fun x hx w hw => all1_any p S H ok _ x (hb x hx) w hw) _ ⟨hS.ext hx, _, rfl, Blk.new w _ [_]⟩ (hr.ext hx))
  have HX := Lib.hid hx
  clear hx hS hr ok hb
  go_enter Tryd.func133, Tryd.ntmps133
  go_wp2_with fail
  refine HC.out.mono ?_
  rintro e w' ⟨b, rfl, hb1, hb2⟩
  have HB1 := Lib.hid hb1
  have HB2 := Lib.hid (ext_trans HX.out hb2)
  clear hb1 hb2
  go_wp2_with fail
  go_ret
  refine ⟨_, rfl, ?_, HB2.out⟩
  have h := HB1.out
  unfold AllY
  cases b <;> simpa using h
set_option maxHeartbeats 400000 in
theorem fails_any (p : SvP) (S H : List Int) (ok : p.Ok) (A : Option Addr) (c : Nat) (body : List Int) (hb : ∀ x ∈ body, p.th.Lit x) (hl : body.length ≤ 120) (w : World) (hS : Sv w p S H) (hr : Rd w A (ints body)) :
    Calls Tryd.prog 134 #[.pointer (some ⟨p.B, 0, none⟩), .slice A body.length c] w (BoolOf w (Fails (stOf H) body)) := by
  have hx := ext_alloc w (.cells #[.pointer (some ⟨p.B, 0, none⟩)] 139)
  have HC := Lib.hid (contains_ints 147 (fun _ _ => by kernel_rfl) (.pointer (some ⟨w.heap.size, 0, none⟩)) (fun x => stOf H x = 2) _ (keepsS p S H _) body A c (by omega) (fun x hx w hw => fails1_any p S H ok _ x (hb x hx) w hw) _ ⟨hS.ext hx, _, rfl, Blk.new w _ [_]⟩ (hr.ext hx))
  have HX := Lib.hid hx
  clear hx hS hr ok hb
  go_enter Tryd.func134, Tryd.ntmps134
  go_wp2_with fail
  refine HC.out.mono ?_
  rintro e w' ⟨b, rfl, hb1, hb2⟩
  have HB1 := Lib.hid hb1
  have HB2 := Lib.hid (ext_trans HX.out hb2)
  clear hb1 hb2
  go_wp2_with fail
  go_ret
  exact ⟨_, rfl, HB1.out, HB2.out⟩
set_option maxHeartbeats 400000 in
theorem supp1_any (p : SvP) (S H : List Int) (ok : p.Ok) (q : Int) (c1 c2 : Value) (r : Rw) (hr : r ∈ p.rs) (w : World) (hw : Sv w p S H ∧ CapQ w c1 q ∧ CapS w c2 p.B) :
    Calls Tryd.prog 132 #[rwVal r, c1, c2] w (BoolOf w (r.kind ≠ 2 ∧ r.head = q ∧ AllY (stOf H) r.body)) := by
  obtain ⟨hS, ⟨g1, rfl, h1⟩, ⟨g2, rfl, h2⟩⟩ := hw
  have hx := ext_alloc w (.cells #[.int .i64 r.kind, .int .i64 r.head, .slice r.A r.body.length r.c] 131)
  have HA := Lib.hid (all_any p S H ok r.A r.c r.body (ok.body r hr) (ok.bl r hr) _ (hS.ext hx) ((hS.rules.bods r hr).ext hx))
  have HX := Lib.hid hx
  have x1 := (blk_ext h1 hx).cell 0 rfl
  have x2 := (blk_ext h2 hx).cell 0 rfl
  clear hx hS ok hr h1 h2
  obtain ⟨rk, rh, rb, rA, rc⟩ := r
  simp only [rwVal] at *
  by_cases k : rk = 2
  · subst k
    go_enter Tryd.func132, Tryd.ntmps132
    go_wp2_with fail
    go_ret
    exact ⟨_, rfl, by simp, HX.out⟩
  · have hk : (rk != 2) = true := by simp [k]
    by_cases hq : rh = q
    · subst hq
      go_enter Tryd.func132, Tryd.ntmps132
      go_wp2_with fail
      refine HA.out.mono ?_
      rintro e w' ⟨b, rfl, hb1, hb2⟩
      have HB1 := Lib.hid hb1
      have HB2 := Lib.hid (ext_trans HX.out hb2)
      clear hb1 hb2
      go_wp2_with fail
      go_ret
      exact ⟨_, rfl, by simpa [k] using HB1.out, HB2.out⟩
    · have hq' : (rh == q) = false := by simp [hq]
      go_enter Tryd.func132, Tryd.ntmps132
      go_wp2_with fail
      go_ret
      exact ⟨_, rfl, by simp [hq], HX.out⟩
set_option maxHeartbeats 400000 in
theorem supp_any (p : SvP) (S H : List Int) (ok : p.Ok) (q : Int) (w : World) (hS : Sv w p S H) :
    Calls Tryd.prog 112 #[.pointer (some ⟨p.B, 0, none⟩), .int .i64 q] w (BoolOf w (Supp p.th (stOf H) q)) := by
  have hx := ext_alloc w (.cells #[.pointer (some ⟨p.B, 0, none⟩)] 139)
  have hy := ext_trans hx (ext_alloc _ (.cells #[.int .i64 q] 3))
  have HC := Lib.hid (contains_rules 132 (fun _ _ => by kernel_rfl) (.pointer (some ⟨w.heap.size + 1, 0, none⟩)) (.pointer (some ⟨w.heap.size, 0, none⟩)) (fun r => r.kind ≠ 2 ∧ r.head = q ∧ AllY (stOf H) r.body) _ (keepsQ p S H _ _ q) p.rs p.RA p.rc
    (fun r hr w hw => supp1_any p S H ok q _ _ r hr w hw) _ ⟨hS.ext hy, ⟨_, rfl, by simpa using Blk.new (w.alloc (.cells #[.pointer (some ⟨p.B, 0, none⟩)] 139)) 3 [.int .i64 q]⟩, ⟨_, rfl, blk_ext (Blk.new w 139 [.pointer (some ⟨p.B, 0, none⟩)]) (ext_alloc _ _)⟩⟩ (hS.rules.ext hy))
  have x1 := (blk_ext hS.blk hy).cell 1 rfl
  have HX := Lib.hid hy
  clear hx hy hS ok
  go_enter Tryd.func112, Tryd.ntmps112
  go_wp2_with fail
  refine HC.out.mono ?_
  rintro e w' ⟨b, rfl, hb1, hb2⟩
  have HB1 := Lib.hid hb1
  have HB2 := Lib.hid (ext_trans HX.out hb2)
  clear hb1 hb2
  go_wp2_with fail
  go_ret
  refine ⟨_, rfl, HB1.out.trans ?_, HB2.out⟩
  exact rules_ex (p := p) (fun r => r.kind ≠ 2 ∧ r.head = q ∧ AllY (stOf H) r.body)
end Go.Proofs.YtjnkcpeicocjhaaDoor.Sol
namespace Go.Proofs.YtjnkcpeicocjhaaDoor.Sol
open Go.RowKit Mem Thy Nest Day Thm MapSet

instance (t : Th) (k i : Nat) : Decidable (Above t k i) := by unfold Above; infer_instance
theorem zeroB (w : World) : (zeroValue 4).run Tryd.prog w = .ok (.bool false) w := by kernel_rfl
theorem laidOut : laidOutB Tryd.prog = true := by kernel_rfl
theorem pair_law : Go.Maps.Keyed Tryd.prog 145 := Go.Maps.Keyed.of_law (deep_law_laid laidOut (m := 2) (by omega) (of_decide_eq_true (by kernel_rfl)) (by kernel_rfl) (by kernel_rfl))
theorem pair_key (a b : Int) (ha : (Lit.int .i64 a).wf = true) (hb : (Lit.int .i64 b).wf = true) : ∃ kl, keyOf Tryd.prog 145 (pairVal (a, b)) = some kl := by
  have h1 : Tryd.prog.keyType 145 = true := by kernel_rfl
  have h2 : (pairVal (a, b)).formed Tryd.prog 145 = true := by
    unfold pairVal Value.formed
    rw [Tryd.underlying145]
    simp only [show Tryd.prog.cellsOf 145 = 2 from by kernel_rfl]
    rfl
  have h3 : Tryd.prog.types.size = (283 - 1) + 1 := by kernel_rfl
  have h4 : Tryd.prog.keyLits (Tryd.prog.types.size + 1) 145 [.int .i64 a, .int .i64 b] = some [.int .i64 a, .int .i64 b] := by
    rw [h3]
    have e : ∀ (n : Nat) (x : Int), (Lit.int .i64 x).wf = true → Tryd.prog.keyLits (n + 1) 3 [.int .i64 x] = some [.int .i64 x] := fun n x hx => by
      unfold Program.keyLits
      rw [Tryd.underlying3]
      simp [hx]
    unfold Program.keyLits
    rw [Tryd.underlying145]
    simp only [show Tryd.prog.cellsOf 145 = 2 from by kernel_rfl, show Tryd.prog.cellsOf 3 = 1 from by kernel_rfl]
    simp [List.range, List.range.loop, e _ _ ha, e _ _ hb]
  unfold keyOf
  rw [Tryd.underlying145]
  have h5 : (pairVal (a, b)).cells.toList = [.int .i64 a, .int .i64 b] := rfl
  simp only [h1, h2, Bool.and_self, if_true, h5, h4, Option.map_some]
  exact ⟨_, rfl⟩
theorem Sv.above {w : World} {p : SvP} {S H : List Int} (h : Sv w p S H) (k i : Nat) (hk : k < 200) (hi : i < 200) :
    (Instr.lookup 166 (.map (some p.mb)) (.agg #[.int .i64 (k : Int), .int .i64 (i : Int)]) false).run Tryd.prog w = .ok (.bool (decide (Above p.th k i))) w := by
  obtain ⟨kl, hkl⟩ := pair_key (k : Int) (i : Int) (Go.WalkArith.wf_i64 (by omega)) (Go.WalkArith.wf_i64 (by omega))
  obtain ⟨c, hrun, hc⟩ := h.abv.lookup pair_law Tryd.underlying166 Tryd.underlying4 (zeroB w) hkl
  have e : c = decide (Above p.th k i) := by
    rw [Bool.eq_iff_iff, hc, decide_eq_true_iff]
    unfold Above SvP.th
    constructor
    · rintro ⟨x, hx, e⟩
      simp [pairVal] at e
      rw [e.1, e.2]
      exact hx
    · intro hx
      exact ⟨_, hx, rfl⟩
  rw [← e]
  exact hrun
theorem rule_at {p : SvP} {k : Nat} (hk : k < p.rs.length) : ∃ h : k < p.th.rules.length, p.th.rules[k] = p.rs[k].rl := ⟨by simpa [SvP.th] using hk, by simp [SvP.th]⟩
theorem rules_len (p : SvP) : p.th.rules.length = p.rs.length := by simp [SvP.th]
def OutC (p : SvP) (H : List Int) (i : Nat) (q : Int) (k : Nat) (r : Rw) : Prop := r.head = q ∧ r.kind ≠ 2 ∧ Above p.th k i ∧ AllY (stOf H) r.body
theorem outd_iff {p : SvP} {H : List Int} {i : Nat} {q : Int} : Outd p.th (stOf H) i q ↔ ∃ (k : Nat) (hk : k < p.rs.length), OutC p H i q k p.rs[k] := by
  unfold Outd OutC
  constructor
  · rintro ⟨k, hk, h⟩
    rw [rules_len] at hk
    obtain ⟨hk', e⟩ := rule_at hk
    rw [e] at h
    exact ⟨k, hk, h⟩
  · rintro ⟨k, hk, h⟩
    obtain ⟨hk', e⟩ := rule_at hk
    exact ⟨k, hk', by rw [e]; exact h⟩
set_option maxRecDepth 100000 in
set_option maxHeartbeats 1000000 in
theorem outd_any (p : SvP) (S H : List Int) (ok : p.Ok) (i : Nat) (hi : i < p.rs.length) (q : Int) (w : World) (hS : Sv w p S H) :
    Calls Tryd.prog 135 #[.pointer (some ⟨p.B, 0, none⟩), .int .i64 i, .int .i64 q] w (BoolOf w (Outd p.th (stOf H) i q)) := by
  have HS := Lib.hid hS
  have OK := Lib.hid ok
  have hrl := ok.rl
  have x1 := hS.blk.cell 1 rfl
  clear hS ok
  go_enter Tryd.func135, Tryd.ntmps135
  go_wp2_with fail
  clear x1
  go_loopw [15] (fun c wr => Hid (Below w.heap.size w wr) ∧ ∃ k : Nat, k ≤ p.rs.length ∧ c = .int .i64 k ∧ Hid (∀ j (h : j < p.rs.length), j < k → ¬ OutC p H i q j p.rs[j])) (fun c _ => p.rs.length - (intOf c).toNat)
  case atStart => exact ⟨Below.refl _ _, 0, Nat.zero_le _, rfl, fun j _ hj => absurd hj (by omega)⟩
  case round =>
    obtain ⟨HB, k, hk, rfl, hno⟩ := hrel
    by_cases hlt : k < p.rs.length
    · have hS1 := HS.out.ext HB.out
      obtain ⟨b, o, hRA, r0, r1, r2⟩ := hS1.rules.row hlt
      have HRA := Lib.hid hRA
      have x5 : ∀ ob, (wr.alloc ob).cell? ⟨p.B, 5, none⟩ = some (.map (some p.mb)) := fun ob => (blk_ext hS1.blk (ext_alloc _ _)).cell 5 rfl
      have hrun : ∀ ob, (Instr.lookup 166 (.map (some p.mb)) (.agg #[.int .i64 (k : Int), .int .i64 (i : Int)]) false).run Tryd.prog (wr.alloc ob) = .ok (.bool (decide (Above p.th k i))) (wr.alloc ob) := fun ob => (hS1.ext (ext_alloc _ _)).above k i (by omega) (by omega)
      have HALL := Lib.hid (all_any p S H OK.out p.rs[k].A p.rs[k].c p.rs[k].body (OK.out.body _ (List.getElem_mem hlt)) (OK.out.bl _ (List.getElem_mem hlt)) _ (hS1.ext (ext_alloc wr (.cells #[.int .i64 p.rs[k].kind, .int .i64 p.rs[k].head, .slice p.rs[k].A p.rs[k].body.length p.rs[k].c] 131))) ((hS1.rules.bods _ (List.getElem_mem hlt)).ext (ext_alloc _ _)))
      have HN : ¬ OutC p H i q k p.rs[k] → Hid (∀ j (h : j < p.rs.length), j < k + 1 → ¬ OutC p H i q j p.rs[j]) := fun hn j h hj => by
        by_cases e : j = k
        · subst e; exact hn
        · exact hno.out j h (by omega)
      have HN' := Lib.hid HN
      clear hS1 hRA HN hno
      rw [HRA.out]
      by_cases c1 : p.rs[k].head = q
      · by_cases c2 : p.rs[k].kind = 2
        · have c2' : (p.rs[k].kind != 2) = false := by simp [c2]
          have C2 := Lib.hid c2
          clear c2
          go_wp2_with fail
          go_roundw
          case rel => exact ⟨ext_trans HB.out (ext_alloc _ _), k + 1, by omega, by go_num, HN'.out fun h => h.2.1 C2.out⟩
          case measure => simp [intOf]; omega
        · have c2' : (p.rs[k].kind != 2) = true := by simp [c2]
          have C2 := Lib.hid c2
          clear c2
          by_cases c3 : Above p.th k i
          · have c3' : decide (Above p.th k i) = true := by simp [c3]
            rw [c3'] at hrun
            have C3 := Lib.hid c3
            clear c3 c3'
            have C1 := Lib.hid c1
            have c1' : (p.rs[k].head == q) = true := by simp [c1]
            clear c1
            go_wp2_with fail
            refine HALL.out.mono ?_
            rintro e w' ⟨bb, rfl, hb1, hb2⟩
            have HB1 := Lib.hid hb1
            have HB2 := Lib.hid (ext_trans HB.out (ext_trans (ext_alloc _ _) hb2))
            clear hb1 hb2
            cases bb
            · go_wp2_with fail
              go_roundw
              case rel => exact ⟨HB2.out, k + 1, by omega, by go_num, HN'.out fun h => by simpa using HB1.out.2 h.2.2.2⟩
              case measure => simp [intOf]; omega
            · go_wp2_with fail
              go_ret
              refine ⟨_, rfl, ?_, HB2.out⟩
              have h : Outd p.th (stOf H) i q := outd_iff.2 ⟨k, hlt, C1.out, C2.out, C3.out, HB1.out.1 (by simp)⟩
              simp [h]
          · have c3' : decide (Above p.th k i) = false := by simp [c3]
            rw [c3'] at hrun
            have C3 := Lib.hid c3
            clear c3 c3'
            go_wp2_with fail
            go_roundw
            case rel => exact ⟨ext_trans HB.out (ext_alloc _ _), k + 1, by omega, by go_num, HN'.out fun h => C3.out h.2.2.1⟩
            case measure => simp [intOf]; omega
      · have c1' : (p.rs[k].head == q) = false := by simp [c1]
        have C1 := Lib.hid c1
        clear c1
        go_wp2_with fail
        go_roundw
        case rel => exact ⟨ext_trans HB.out (ext_alloc _ _), k + 1, by omega, by go_num, HN'.out fun h => C1.out h.1⟩
        case measure => simp [intOf]; omega
    · go_wp2_with fail
      go_ret
      refine ⟨_, rfl, ?_, HB.out⟩
      have h : ¬ Outd p.th (stOf H) i q := fun h => by
        obtain ⟨j, hj, h⟩ := outd_iff.1 h
        exact hno.out j hj (by omega) h
      simp [h]
end Go.Proofs.YtjnkcpeicocjhaaDoor.Sol

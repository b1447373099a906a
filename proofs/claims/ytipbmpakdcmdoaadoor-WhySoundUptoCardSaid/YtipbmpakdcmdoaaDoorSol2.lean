/- A theory's solver: all, fails, supported, bare. -/
import Derived.Test.YtipbmpakdcmdoaaDoorSol
namespace Go.Proofs.YtipbmpakdcmdoaaDoor.Sol
open Go.RowKit Mem Thy Nest Day Thm MapSet

theorem rules_ex {p : SvP} (Q : Rl → Prop) : (∃ x ∈ p.rs, Q x.rl) ↔ ∃ r ∈ p.th.rules, Q r := by
  unfold SvP.th
  constructor
  · rintro ⟨x, h, q⟩; exact ⟨x.rl, List.mem_map.2 ⟨x, h, rfl⟩, q⟩
  · rintro ⟨r, h, q⟩
    obtain ⟨x, hx, rfl⟩ := List.mem_map.1 h
    exact ⟨x, hx, q⟩
theorem keepsS (p : SvP) (S H : List Int) (c : Value) : Keeps (fun w => Sv w p S H ∧ CapS w c p.B) := fun _ _ h hb => ⟨h.1.ext hb, h.2.ext hb⟩
theorem keepsQ (p : SvP) (S H : List Int) (c1 c2 : Value) (q : Int) : Keeps (fun w => Sv w p S H ∧ CapQ w c1 q ∧ CapS w c2 p.B) := fun _ _ h hb => ⟨h.1.ext hb, h.2.1.ext hb, h.2.2.ext hb⟩
set_option maxHeartbeats 400000 in
theorem all1_any (p : SvP) (S H : List Int) (ok : p.Ok) (c1 : Value) (x : Int) (hx : p.th.Lit x) (w : World) (hw : Sv w p S H ∧ CapS w c1 p.B) :
    Calls Tryd.prog 120 #[.int .i64 x, c1] w (BoolOf w (stOf H x ≠ 1)) := by
  obtain ⟨hS, g, rfl, hg⟩ := hw
  have x0 := hg.cell 0 rfl
  have HC := Lib.hid (holds_any p S H ok x hx w hS)
  clear hS hg ok hx
  obtain ⟨z, hz⟩ : ∃ z, stOf H x = z := ⟨_, rfl⟩
  rw [hz] at HC ⊢
  clear hz
  go_enter Tryd.func120, Tryd.ntmps120
  go_wp2_with fail
  refine HC.out.mono ?_
  rintro e w' ⟨rfl, n, rfl⟩
  go_wp2_with fail
  go_ret
  exact ⟨_, rfl, by simp, ext_drewN _ _⟩
set_option maxHeartbeats 400000 in
theorem fails1_any (p : SvP) (S H : List Int) (ok : p.Ok) (c1 : Value) (x : Int) (hx : p.th.Lit x) (w : World) (hw : Sv w p S H ∧ CapS w c1 p.B) :
    Calls Tryd.prog 121 #[.int .i64 x, c1] w (BoolOf w (stOf H x = 2)) := by
  obtain ⟨hS, g, rfl, hg⟩ := hw
  have x0 := hg.cell 0 rfl
  have HC := Lib.hid (holds_any p S H ok x hx w hS)
  clear hS hg ok hx
  obtain ⟨z, hz⟩ : ∃ z, stOf H x = z := ⟨_, rfl⟩
  rw [hz] at HC ⊢
  clear hz
  go_enter Tryd.func121, Tryd.ntmps121
  go_wp2_with fail
  refine HC.out.mono ?_
  rintro e w' ⟨rfl, n, rfl⟩
  go_wp2_with fail
  go_ret
  exact ⟨_, rfl, by simp, ext_drewN _ _⟩
set_option maxHeartbeats 400000 in
theorem all_any (p : SvP) (S H : List Int) (ok : p.Ok) (A : Option Addr) (c : Nat) (body : List Int) (hb : ∀ x ∈ body, p.th.Lit x) (hl : body.length ≤ 120) (w : World) (hS : Sv w p S H) (hr : Rd w A (ints body)) :
    Calls Tryd.prog 109 #[.pointer (some ⟨p.B, 0, none⟩), .slice A body.length c] w (BoolOf w (AllY (stOf H) body)) := by
  have hx := ext_alloc w (.cells #[.pointer (some ⟨p.B, 0, none⟩)] 117)
  have HC := Lib.hid (contains_ints 120 (fun _ _ => by kernel_rfl) (.pointer (some ⟨w.heap.size, 0, none⟩)) (fun x => stOf H x ≠ 1) _ (keepsS p S H _) body A c (by omega) (fun x hx w hw => all1_any p S H ok _ x (hb x hx) w hw) _ ⟨hS.ext hx, _, rfl, Blk.new w _ [_]⟩ (hr.ext hx))
  have HX := Lib.hid hx
  clear hx hS hr ok hb
  go_enter Tryd.func109, Tryd.ntmps109
  go_wp2_with fail
  refine HC.out.mono ?_
  rintro e w' ⟨b, rfl, hb1, hb2⟩
  have HB1 := Lib.hid hb1
  have HB2 := Lib.hid (ext_trans HX.out hb2)
  clear hb1 hb2
  go_wp2_with fail
  go_ret
  refine ⟨_, rfl, ?_, HB2.out⟩
  have h := HB1.out
  unfold AllY
  cases b <;> simpa using h
set_option maxHeartbeats 400000 in
theorem fails_any (p : SvP) (S H : List Int) (ok : p.Ok) (A : Option Addr) (c : Nat) (body : List Int) (hb : ∀ x ∈ body, p.th.Lit x) (hl : body.length ≤ 120) (w : World) (hS : Sv w p S H) (hr : Rd w A (ints body)) :
    Calls Tryd.prog 110 #[.pointer (some ⟨p.B, 0, none⟩), .slice A body.length c] w (BoolOf w (Fails (stOf H) body)) := by
  have hx := ext_alloc w (.cells #[.pointer (some ⟨p.B, 0, none⟩)] 117)
  have HC := Lib.hid (contains_ints 121 (fun _ _ => by kernel_rfl) (.pointer (some ⟨w.heap.size, 0, none⟩)) (fun x => stOf H x = 2) _ (keepsS p S H _) body A c (by omega) (fun x hx w hw => fails1_any p S H ok _ x (hb x hx) w hw) _ ⟨hS.ext hx, _, rfl, Blk.new w _ [_]⟩ (hr.ext hx))
  have HX := Lib.hid hx
  clear hx hS hr ok hb
  go_enter Tryd.func110, Tryd.ntmps110
  go_wp2_with fail
  refine HC.out.mono ?_
  rintro e w' ⟨b, rfl, hb1, hb2⟩
  have HB1 := Lib.hid hb1
  have HB2 := Lib.hid (ext_trans HX.out hb2)
  clear hb1 hb2
  go_wp2_with fail
  go_ret
  exact ⟨_, rfl, HB1.out, HB2.out⟩
set_option maxHeartbeats 400000 in
theorem supp1_any (p : SvP) (S H : List Int) (ok : p.Ok) (q : Int) (c1 c2 : Value) (r : Rw) (hr : r ∈ p.rs) (w : World) (hw : Sv w p S H ∧ CapQ w c1 q ∧ CapS w c2 p.B) :
    Calls Tryd.prog 108 #[rwVal r, c1, c2] w (BoolOf w (r.kind ≠ 2 ∧ r.head = q ∧ AllY (stOf H) r.body)) := by
  obtain ⟨hS, ⟨g1, rfl, h1⟩, ⟨g2, rfl, h2⟩⟩ := hw
  have hx := ext_alloc w (.cells #[.int .i64 r.kind, .int .i64 r.head, .slice r.A r.body.length r.c] 115)
  have HA := Lib.hid (all_any p S H ok r.A r.c r.body (ok.body r hr) (ok.bl r hr) _ (hS.ext hx) ((hS.rules.bods r hr).ext hx))
  have HX := Lib.hid hx
  have x1 := (blk_ext h1 hx).cell 0 rfl
  have x2 := (blk_ext h2 hx).cell 0 rfl
  clear hx hS ok hr h1 h2
  obtain ⟨rk, rh, rb, rA, rc⟩ := r
  simp only [rwVal] at *
  by_cases k : rk = 2
  · subst k
    go_enter Tryd.func108, Tryd.ntmps108
    go_wp2_with fail
    go_ret
    exact ⟨_, rfl, by simp, HX.out⟩
  · have hk : (rk != 2) = true := by simp [k]
    by_cases hq : rh = q
    · subst hq
      go_enter Tryd.func108, Tryd.ntmps108
      go_wp2_with fail
      refine HA.out.mono ?_
      rintro e w' ⟨b, rfl, hb1, hb2⟩
      have HB1 := Lib.hid hb1
      have HB2 := Lib.hid (ext_trans HX.out hb2)
      clear hb1 hb2
      go_wp2_with fail
      go_ret
      exact ⟨_, rfl, by simpa [k] using HB1.out, HB2.out⟩
    · have hq' : (rh == q) = false := by simp [hq]
      go_enter Tryd.func108, Tryd.ntmps108
      go_wp2_with fail
      go_ret
      exact ⟨_, rfl, by simp [hq], HX.out⟩
set_option maxHeartbeats 400000 in
theorem supp_any (p : SvP) (S H : List Int) (ok : p.Ok) (q : Int) (w : World) (hS : Sv w p S H) :
    Calls Tryd.prog 91 #[.pointer (some ⟨p.B, 0, none⟩), .int .i64 q] w (BoolOf w (Supp p.th (stOf H) q)) := by
  have hx := ext_alloc w (.cells #[.pointer (some ⟨p.B, 0, none⟩)] 117)
  have hy := ext_trans hx (ext_alloc _ (.cells #[.int .i64 q] 3))
  have HC := Lib.hid (contains_rules 108 (fun _ _ => by kernel_rfl) (.pointer (some ⟨w.heap.size + 1, 0, none⟩)) (.pointer (some ⟨w.heap.size, 0, none⟩)) (fun r => r.kind ≠ 2 ∧ r.head = q ∧ AllY (stOf H) r.body) _ (keepsQ p S H _ _ q) p.rs p.RA p.rc
    (fun r hr w hw => supp1_any p S H ok q _ _ r hr w hw) _ ⟨hS.ext hy, ⟨_, rfl, by simpa using Blk.new (w.alloc (.cells #[.pointer (some ⟨p.B, 0, none⟩)] 117)) 3 [.int .i64 q]⟩, ⟨_, rfl, blk_ext (Blk.new w 117 [.pointer (some ⟨p.B, 0, none⟩)]) (ext_alloc _ _)⟩⟩ (hS.rules.ext hy))
  have x1 := (blk_ext hS.blk hy).cell 1 rfl
  have HX := Lib.hid hy
  clear hx hy hS ok
  go_enter Tryd.func91, Tryd.ntmps91
  go_wp2_with fail
  refine HC.out.mono ?_
  rintro e w' ⟨b, rfl, hb1, hb2⟩
  have HB1 := Lib.hid hb1
  have HB2 := Lib.hid (ext_trans HX.out hb2)
  clear hb1 hb2
  go_wp2_with fail
  go_ret
  refine ⟨_, rfl, HB1.out.trans ?_, HB2.out⟩
  exact rules_ex (p := p) (fun r => r.kind ≠ 2 ∧ r.head = q ∧ AllY (stOf H) r.body)
end Go.Proofs.YtipbmpakdcmdoaaDoor.Sol

/- A theory's solver: what follows; what is said. A theory's solver: what is said. -/
import Derived.Test.YtjnkcpeicocjhaaDoorSol4
import Derived.Test.YtjnkcpeicocjhaaDoorThy
namespace Go.Proofs.YtjnkcpeicocjhaaDoor.Sol
open Go.RowKit Mem Thy Nest Day Thm MapSet

set_option maxHeartbeats 400000 in
theorem fol11_any (p : SvP) (S H : List Int) (ok : p.Ok) (c1 : Value) (x : Int) (hx : p.th.Lit x) (w : World) (hw : Sv w p S H ∧ CapS w c1 p.B) :
    Calls Tryd.prog 109 #[.int .i64 x, c1] w (BoolOf w (stOf S x ≠ 1)) := by
  obtain ⟨hS, g, rfl, hg⟩ := hw
  have x0 := hg.cell 0 rfl
  have HC := Lib.hid (sure_any p S H ok x hx w hS)
  clear hS hg ok hx
  obtain ⟨z, hz⟩ : ∃ z, stOf S x = z := ⟨_, rfl⟩
  rw [hz] at HC ⊢
  clear hz
  go_enter Tryd.func109, Tryd.ntmps109
  go_wp2_with fail
  refine HC.out.mono ?_
  rintro e w' ⟨rfl, n, rfl⟩
  go_wp2_with fail
  go_ret
  exact ⟨_, rfl, by simp, ext_drewN _ _⟩
set_option maxHeartbeats 400000 in
theorem fol21_any (p : SvP) (S H : List Int) (ok : p.Ok) (c1 : Value) (x : Int) (hx : p.th.Lit x) (w : World) (hw : Sv w p S H ∧ CapS w c1 p.B) :
    Calls Tryd.prog 111 #[.int .i64 x, c1] w (BoolOf w (stOf S x = 2)) := by
  obtain ⟨hS, g, rfl, hg⟩ := hw
  have x0 := hg.cell 0 rfl
  have HC := Lib.hid (sure_any p S H ok x hx w hS)
  clear hS hg ok hx
  obtain ⟨z, hz⟩ : ∃ z, stOf S x = z := ⟨_, rfl⟩
  rw [hz] at HC ⊢
  clear hz
  go_enter Tryd.func111, Tryd.ntmps111
  go_wp2_with fail
  refine HC.out.mono ?_
  rintro e w' ⟨rfl, n, rfl⟩
  go_wp2_with fail
  go_ret
  exact ⟨_, rfl, by simp, ext_drewN _ _⟩
set_option maxHeartbeats 400000 in
theorem fol1_any (p : SvP) (S H : List Int) (ok : p.Ok) (q : Int) (c1 c2 : Value) (r : Rw) (hr : r ∈ p.rs) (w : World) (hw : Sv w p S H ∧ CapQ w c1 q ∧ CapS w c2 p.B) :
    Calls Tryd.prog 108 #[rwVal r, c1, c2] w (BoolOf w (r.kind = 0 ∧ r.head = q ∧ AllY (stOf S) r.body)) := by
  obtain ⟨hS, ⟨g1, rfl, h1⟩, ⟨g2, rfl, h2⟩⟩ := hw
  have hx := ext_alloc w (.cells #[.int .i64 r.kind, .int .i64 r.head, .slice r.A r.body.length r.c] 131)
  have hb := ok.bl r hr
  have HA := Lib.hid (contains_ints 109 (fun _ _ => by kernel_rfl) (.pointer (some ⟨g2, 0, none⟩)) (fun x => stOf S x ≠ 1) _ (keepsS p S H _) r.body r.A r.c (by omega) (fun x hx w hw => fol11_any p S H ok _ x (ok.body r hr x hx) w hw) _ ⟨hS.ext hx, _, rfl, blk_ext h2 hx⟩ ((hS.rules.bods r hr).ext hx))
  have HX := Lib.hid hx
  have x1 := (blk_ext h1 hx).cell 0 rfl
  have x2 := (blk_ext h2 hx).cell 0 rfl
  clear hx hS ok hr h1 h2 hb
  obtain ⟨rk, rh, rb, rA, rc⟩ := r
  simp only [rwVal] at *
  by_cases k : rk = 0
  · subst k
    by_cases hq : rh = q
    · subst hq
      go_enter Tryd.func108, Tryd.ntmps108
      go_wp2_with fail
      refine HA.out.mono ?_
      rintro e w' ⟨b, rfl, hb1, hb2⟩
      have HB1 := Lib.hid hb1
      have HB2 := Lib.hid (ext_trans HX.out hb2)
      clear hb1 hb2
      go_wp2_with fail
      go_ret
      refine ⟨_, rfl, ?_, HB2.out⟩
      have h := HB1.out
      unfold AllY
      cases b <;> simpa using h
    · have hq' : (rh == q) = false := by simp [hq]
      go_enter Tryd.func108, Tryd.ntmps108
      go_wp2_with fail
      go_ret
      exact ⟨_, rfl, by simp [hq], HX.out⟩
  · have hk : (rk == 0) = false := by simp [k]
    go_enter Tryd.func108, Tryd.ntmps108
    go_wp2_with fail
    go_ret
    exact ⟨_, rfl, by simp [k], HX.out⟩
set_option maxHeartbeats 400000 in
theorem fol2_any (p : SvP) (S H : List Int) (ok : p.Ok) (q : Int) (c1 c2 : Value) (r : Rw) (hr : r ∈ p.rs) (w : World) (hw : Sv w p S H ∧ CapQ w c1 q ∧ CapS w c2 p.B) :
    Calls Tryd.prog 110 #[rwVal r, c1, c2] w (BoolOf w (r.kind = 0 ∧ r.head = q ∧ ¬ Fails (stOf S) r.body)) := by
  obtain ⟨hS, ⟨g1, rfl, h1⟩, ⟨g2, rfl, h2⟩⟩ := hw
  have hx := ext_alloc w (.cells #[.int .i64 r.kind, .int .i64 r.head, .slice r.A r.body.length r.c] 131)
  have hb := ok.bl r hr
  have HA := Lib.hid (contains_ints 111 (fun _ _ => by kernel_rfl) (.pointer (some ⟨g2, 0, none⟩)) (fun x => stOf S x = 2) _ (keepsS p S H _) r.body r.A r.c (by omega) (fun x hx w hw => fol21_any p S H ok _ x (ok.body r hr x hx) w hw) _ ⟨hS.ext hx, _, rfl, blk_ext h2 hx⟩ ((hS.rules.bods r hr).ext hx))
  have HX := Lib.hid hx
  have x1 := (blk_ext h1 hx).cell 0 rfl
  have x2 := (blk_ext h2 hx).cell 0 rfl
  clear hx hS ok hr h1 h2 hb
  obtain ⟨rk, rh, rb, rA, rc⟩ := r
  simp only [rwVal] at *
  by_cases k : rk = 0
  · subst k
    by_cases hq : rh = q
    · subst hq
      go_enter Tryd.func110, Tryd.ntmps110
      go_wp2_with fail
      refine HA.out.mono ?_
      rintro e w' ⟨b, rfl, hb1, hb2⟩
      have HB1 := Lib.hid hb1
      have HB2 := Lib.hid (ext_trans HX.out hb2)
      clear hb1 hb2
      go_wp2_with fail
      go_ret
      refine ⟨_, rfl, ?_, HB2.out⟩
      have h := HB1.out
      unfold Fails
      cases b <;> simpa using h
    · have hq' : (rh == q) = false := by simp [hq]
      go_enter Tryd.func110, Tryd.ntmps110
      go_wp2_with fail
      go_ret
      exact ⟨_, rfl, by simp [hq], HX.out⟩
  · have hk : (rk == 0) = false := by simp [k]
    go_enter Tryd.func110, Tryd.ntmps110
    go_wp2_with fail
    go_ret
    exact ⟨_, rfl, by simp [k], HX.out⟩
theorem fol_boxes {w : World} {p : SvP} {S H : List Int} {q : Int} (hS : Sv w p S H) :
    ∃ w2 : World, w2 = (w.alloc (.cells #[.pointer (some ⟨p.B, 0, none⟩)] 139)).alloc (.cells #[.int .i64 q] 3) ∧ Below w.heap.size w w2 ∧ Sv w2 p S H ∧ CapQ w2 (.pointer (some ⟨w.heap.size + 1, 0, none⟩)) q ∧ CapS w2 (.pointer (some ⟨w.heap.size, 0, none⟩)) p.B := by
  have hx := ext_alloc w (.cells #[.pointer (some ⟨p.B, 0, none⟩)] 139)
  have hy := ext_trans hx (ext_alloc _ (.cells #[.int .i64 q] 3))
  exact ⟨_, rfl, hy, hS.ext hy, ⟨_, rfl, by simpa using Blk.new (w.alloc (.cells #[.pointer (some ⟨p.B, 0, none⟩)] 139)) 3 [.int .i64 q]⟩, ⟨_, rfl, blk_ext (Blk.new w 139 [.pointer (some ⟨p.B, 0, none⟩)]) (ext_alloc _ _)⟩⟩
set_option maxRecDepth 100000 in
set_option maxHeartbeats 1000000 in
theorem fol_any (p : SvP) (S H : List Int) (ok : p.Ok) (a b : Bool) (q : Int) (hq : p.th.Lit q) (w : World) (hS : Sv w p S H) :
    Calls Tryd.prog 77 #[.pointer (some ⟨p.B, 0, none⟩), .bool a, .bool b, .int .i64 q] w (BoolOf w (Fol p.th (stOf S) (stOf H) a b q)) := by
  obtain ⟨w2, hw2, hy, hS2, hQ2, hC2⟩ := fol_boxes (q := q) hS
  have HC := Lib.hid (contains_rules 108 (fun _ _ => by kernel_rfl) (.pointer (some ⟨w.heap.size + 1, 0, none⟩)) (.pointer (some ⟨w.heap.size, 0, none⟩)) (fun r => r.kind = 0 ∧ r.head = q ∧ AllY (stOf S) r.body) _ (keepsQ p S H _ _ q) p.rs p.RA p.rc
    (fun r hr w hw => fol1_any p S H ok q _ _ r hr w hw) _ ⟨hS2, hQ2, hC2⟩ hS2.rules)
  have HD := Lib.hid (contains_rules 110 (fun _ _ => by kernel_rfl) (.pointer (some ⟨w.heap.size + 1, 0, none⟩)) (.pointer (some ⟨w.heap.size, 0, none⟩)) (fun r => r.kind = 0 ∧ r.head = q ∧ ¬ Fails (stOf S) r.body) _ (keepsQ p S H _ _ q) p.rs p.RA p.rc
    (fun r hr w hw => fol2_any p S H ok q _ _ r hr w hw) _ ⟨hS2, hQ2, hC2⟩ hS2.rules)
  have HX := Lib.hid hy
  have HS2 := Lib.hid hS2
  have HQ2 := Lib.hid hQ2
  have HC2 := Lib.hid hC2
  have hn := ok.n
  have OK := Lib.hid ok
  have HL := Lib.hid hq
  have HLn := Lib.hid (lit_neg hq)
  obtain ⟨q0, q1, q2⟩ := lit_bd hq
  have x1 : w2.cell? ⟨p.B, 1, none⟩ = some (.slice p.RA p.rs.length p.rc) := hS2.blk.cell 1 rfl
  clear hy hS hS2 hQ2 hC2 ok hq
  subst hw2
  cases a
  · clear HC HD x1
    have e : ∀ w' : World, Below _ _ w' → w'.cell? ⟨w.heap.size, 0, none⟩ = some (.pointer (some ⟨p.B, 0, none⟩)) ∧ w'.cell? ⟨w.heap.size + 1, 0, none⟩ = some (.int .i64 q) := fun w' hb => by
      obtain ⟨g1, e1, h1⟩ := HQ2.out.ext hb
      obtain ⟨g2, e2, h2⟩ := HC2.out.ext hb
      simp at e1 e2
      subst e1 e2
      exact ⟨h2.cell 0 rfl, h1.cell 0 rfl⟩
    have HE := Lib.hid e
    clear e
    obtain ⟨s1, hs1⟩ : ∃ z, stOf S q = z := ⟨_, rfl⟩
    obtain ⟨s2, hs2⟩ : ∃ z, stOf S (-q) = z := ⟨_, rfl⟩
    have HZ1 := Lib.hid hs1
    have HZ2 := Lib.hid hs2
    have HP1 := Lib.hid (hs1 ▸ sure_any p S H OK.out q HL.out _ HS2.out)
    clear hs1 hs2
    cases b
    · go_enter Tryd.func77, Tryd.ntmps77
      go_wp2_with fail
      refine HP1.out.mono ?_
      rintro e w3 ⟨rfl, n, rfl⟩
      have HB3 := Lib.hid (ext_drewN ((w.alloc (.cells #[.pointer (some ⟨p.B, 0, none⟩)] 139)).alloc (.cells #[.int .i64 q] 3)) n)
      by_cases c1 : s1 = 2
      · subst c1
        go_wp2_with fail
        refine (HZ2.out ▸ sure_any p S H OK.out (-q) HLn.out _ (HS2.out.ext HB3.out)).mono ?_
        rintro e w4 ⟨rfl, n', rfl⟩
        have HB4 := Lib.hid (ext_drewN ((w.alloc (.cells #[.pointer (some ⟨p.B, 0, none⟩)] 139)).alloc (.cells #[.int .i64 q] 3)) (n + n'))
        by_cases c2 : s2 = 1
        · subst c2
          go_wp2_with fail
          go_ret
          exact ⟨_, rfl, by simp [Fol, HZ1.out, HZ2.out], ext_trans HX.out HB4.out⟩
        · have c2' : (s2 == 1) = false := by simp [c2]
          have C2 := Lib.hid c2
          clear c2
          have e4 := HE.out _ HB4.out
          go_wp2_with fail
          refine (bare_any p S H OK.out q _ (HS2.out.ext HB4.out)).mono ?_
          rintro e w5 ⟨b1, rfl, hb1, hb2⟩
          have HB5 := Lib.hid (ext_trans HB4.out hb2)
          have HBa := Lib.hid hb1
          have e5 := HE.out _ HB5.out
          clear e4 hb1 hb2
          cases b1
          · go_wp2_with fail
            refine (beat_any p S H OK.out q HL.out _ (HS2.out.ext HB5.out)).mono ?_
            rintro e w6 ⟨b2, rfl, hb1, hb2⟩
            have HB6 := Lib.hid (ext_trans HB5.out hb2)
            have HBb := Lib.hid hb1
            clear e5 hb1 hb2
            go_wp2_with fail
            go_ret
            refine ⟨_, rfl, ?_, ext_trans HX.out HB6.out⟩
            have h1 := HBa.out
            have h2 := HBb.out
            have hb : ¬ Bare p.th (stOf H) q := fun h => by simpa using h1.2 h
            rw [h2]
            simp [Fol, HZ1.out, HZ2.out, C2.out, hb]
          · go_wp2_with fail
            go_ret
            refine ⟨_, rfl, ?_, ext_trans HX.out HB5.out⟩
            have hb : Bare p.th (stOf H) q := HBa.out.1 (by simp)
            simp [Fol, HZ1.out, hb]
      · have c1' : (s1 == 2) = false := by simp [c1]
        have C1 := Lib.hid c1
        clear c1
        go_wp2_with fail
        go_ret
        exact ⟨_, rfl, by simp [Fol, HZ1.out, C1.out], ext_trans HX.out HB3.out⟩
    · go_enter Tryd.func77, Tryd.ntmps77
      go_wp2_with fail
      refine HP1.out.mono ?_
      rintro e w3 ⟨rfl, n, rfl⟩
      have HB3 := Lib.hid (ext_drewN ((w.alloc (.cells #[.pointer (some ⟨p.B, 0, none⟩)] 139)).alloc (.cells #[.int .i64 q] 3)) n)
      by_cases c1 : s1 = 1
      · subst c1
        go_wp2_with fail
        go_ret
        exact ⟨_, rfl, by simp [Fol, HZ1.out], ext_trans HX.out HB3.out⟩
      · have c1' : (s1 == 1) = false := by simp [c1]
        have C1 := Lib.hid c1
        clear c1
        go_wp2_with fail
        refine (HZ2.out ▸ sure_any p S H OK.out (-q) HLn.out _ (HS2.out.ext HB3.out)).mono ?_
        rintro e w4 ⟨rfl, n', rfl⟩
        have HB4 := Lib.hid (ext_drewN ((w.alloc (.cells #[.pointer (some ⟨p.B, 0, none⟩)] 139)).alloc (.cells #[.int .i64 q] 3)) (n + n'))
        by_cases c2 : s2 = 2
        · subst c2
          have e4 := HE.out _ HB4.out
          go_wp2_with fail
          refine (supp_any p S H OK.out q _ (HS2.out.ext HB4.out)).mono ?_
          rintro e w5 ⟨b1, rfl, hb1, hb2⟩
          have HB5 := Lib.hid (ext_trans HB4.out hb2)
          have HBa := Lib.hid hb1
          have e5 := HE.out _ HB5.out
          clear e4 hb1 hb2
          cases b1
          · go_wp2_with fail
            go_ret
            refine ⟨_, rfl, ?_, ext_trans HX.out HB5.out⟩
            have hb : ¬ Supp p.th (stOf H) q := fun h => by simpa using HBa.out.2 h
            simp [Fol, HZ1.out, C1.out, hb]
          · go_wp2_with fail
            refine (opp_any p S H OK.out q HL.out _ (HS2.out.ext HB5.out)).mono ?_
            rintro e w6 ⟨b2, rfl, hb1, hb2⟩
            have HB6 := Lib.hid (ext_trans HB5.out hb2)
            have HBb := Lib.hid hb1
            clear e5 hb1 hb2
            go_wp2_with fail
            go_ret
            refine ⟨_, rfl, ?_, ext_trans HX.out HB6.out⟩
            have hb : Supp p.th (stOf H) q := HBa.out.1 (by simp)
            have h2 := HBb.out
            simp only [Fol, HZ1.out, HZ2.out, hb, ← h2]
            cases b2 <;> simp [C1.out]
        · have c2' : (s2 == 2) = false := by simp [c2]
          have C2 := Lib.hid c2
          clear c2
          go_wp2_with fail
          go_ret
          exact ⟨_, rfl, by simp [Fol, HZ1.out, HZ2.out, C1.out, C2.out], ext_trans HX.out HB4.out⟩
  · cases b
    · go_enter Tryd.func77, Tryd.ntmps77
      go_wp2_with fail
      refine HD.out.mono ?_
      rintro e w' ⟨b, rfl, hb1, hb2⟩
      have HB1 := Lib.hid hb1
      have HB2 := Lib.hid (ext_trans HX.out hb2)
      clear hb1 hb2
      go_wp2_with fail
      go_ret
      refine ⟨_, rfl, ?_, HB2.out⟩
      have h := HB1.out.trans (rules_ex (p := p) (fun r => r.kind = 0 ∧ r.head = q ∧ ¬ Fails (stOf S) r.body))
      have h2 : SureN p.th (stOf S) q ↔ ¬ ∃ r ∈ p.th.rules, r.kind = 0 ∧ r.head = q ∧ ¬ Fails (stOf S) r.body :=
        ⟨fun hb ⟨r, hr, a, b, c⟩ => c (hb r hr a b), fun hn r hr a b => Classical.byContradiction fun c => hn ⟨r, hr, a, b, c⟩⟩
      show _ ↔ SureN p.th (stOf S) q
      rw [h2, ← h]
      cases b <;> simp
    · go_enter Tryd.func77, Tryd.ntmps77
      go_wp2_with fail
      refine HC.out.mono ?_
      rintro e w' ⟨b, rfl, hb1, hb2⟩
      have HB1 := Lib.hid hb1
      have HB2 := Lib.hid (ext_trans HX.out hb2)
      clear hb1 hb2
      go_wp2_with fail
      go_ret
      exact ⟨_, rfl, HB1.out.trans (rules_ex (p := p) (fun r => r.kind = 0 ∧ r.head = q ∧ AllY (stOf S) r.body)), HB2.out⟩
end Go.Proofs.YtjnkcpeicocjhaaDoor.Sol
namespace Go.Proofs.YtjnkcpeicocjhaaDoor.Sol
open Go.RowKit Mem Thy Nest Day Thm MapSet

theorem set_keep {n : Nat} {a : Addr} (w : World) (ha : n ≤ a.block) (v : Value) : Below n w (w.setCell a v) := (Below.refl n w).setCell ha v
theorem Sv.set_sure {w : World} {p : SvP} {S H : List Int} (h : Sv w p S H) (ok : p.Ok) (k : Nat) (v : Int) : Sv (w.setCell ⟨p.sb, k, none⟩ (.int .i64 v)) p (S.set k v) H := by
  have d1 := ok.d1; have d2 := ok.d2; have d3 := ok.d3; have d4 := ok.d4; have dm := ok.dm
  refine ⟨blk_set h.blk (show p.B ≠ p.sb by omega) _, ⟨rd_set h.rules.rows ok.ra (show p.lo ≤ p.sb by omega) _, fun r hr => rd_set (h.rules.bods r hr) (ok.rb r hr) (show p.lo ≤ p.sb by omega) _, h.rules.lens, h.rules.len⟩, ?_, blk_set h.holds (show p.hb ≠ p.sb from fun e => d4 e.symm) _, h.abv.keep (B := p.lo) dm (set_keep w (show p.lo ≤ p.sb by omega) _), by simp [h.ls], h.lh⟩
  have := h.sure.set k (.int .i64 v)
  simpa [ints, List.map_set] using this
theorem Sv.set_holds {w : World} {p : SvP} {S H : List Int} (h : Sv w p S H) (ok : p.Ok) (k : Nat) (v : Int) : Sv (w.setCell ⟨p.hb, k, none⟩ (.int .i64 v)) p S (H.set k v) := by
  have d1 := ok.d1; have d2 := ok.d2; have d3 := ok.d3; have d4 := ok.d4; have dm := ok.dm
  refine ⟨blk_set h.blk (show p.B ≠ p.hb by omega) _, ⟨rd_set h.rules.rows ok.ra (show p.lo ≤ p.hb by omega) _, fun r hr => rd_set (h.rules.bods r hr) (ok.rb r hr) (show p.lo ≤ p.hb by omega) _, h.rules.lens, h.rules.len⟩, blk_set h.sure (show p.sb ≠ p.hb from d4) _, ?_, h.abv.keep (B := p.lo) dm (set_keep w (show p.lo ≤ p.hb by omega) _), h.ls, by simp [h.lh]⟩
  have := h.holds.set k (.int .i64 v)
  simpa [ints, List.map_set] using this
/-- the world behind Say -/
def sayW (p : SvP) (a b : Bool) (q : Int) (w : World) : World := match a, b with
  | true, true => (w.setCell ⟨p.sb, place q, none⟩ (.int .i64 2)).setCell ⟨p.sb, place q, none⟩ (.int .i64 1)
  | true, false => w.setCell ⟨p.sb, place q, none⟩ (.int .i64 2)
  | false, true => (w.setCell ⟨p.hb, place q, none⟩ (.int .i64 2)).setCell ⟨p.hb, place q, none⟩ (.int .i64 1)
  | false, false => w.setCell ⟨p.hb, place q, none⟩ (.int .i64 2)
theorem Sv.said {w : World} {p : SvP} {S H : List Int} (h : Sv w p S H) (ok : p.Ok) (a b : Bool) (q : Int) : Sv (sayW p a b q w) p (setS a b q S) (setH a b q H) := by
  cases a <;> cases b
  · exact h.set_holds ok _ _
  · have := (h.set_holds ok (place q) 2).set_holds ok (place q) 1
    simpa [sayW, setS, setH, val] using this
  · exact h.set_sure ok _ _
  · have := (h.set_sure ok (place q) 2).set_sure ok (place q) 1
    simpa [sayW, setS, setH, val] using this
set_option maxRecDepth 100000 in
set_option maxHeartbeats 1000000 in
theorem say_any (p : SvP) (S H : List Int) (ok : p.Ok) (a b : Bool) (q : Int) (hq : p.th.Lit q) (w : World) (hS : Sv w p S H) :
    Calls Tryd.prog 78 #[.pointer (some ⟨p.B, 0, none⟩), .bool a, .bool b, .int .i64 q] w fun e w' => (∃ v, e = .returned v) ∧ w' = sayW p a b q w := by
  have hn := ok.n
  obtain ⟨q0, q1, q2⟩ := lit_bd hq
  have hp0 : (0 : Int) ≤ ((place q : Nat) : Int) := by omega
  have hp1 : ((place q : Nat) : Int) < ((2 * p.N : Nat) : Int) := by
    have := place_lt q0 q1 q2
    omega
  have HP := Lib.hid (place_any q q0 (by omega) (by omega))
  have h3 : w.cell? ⟨p.B, 3, none⟩ = some (.slice (some ⟨p.sb, 0, none⟩) (2 * p.N) (2 * p.N)) := hS.blk.cell 3 rfl
  have h4 : w.cell? ⟨p.B, 4, none⟩ = some (.slice (some ⟨p.hb, 0, none⟩) (2 * p.N) (2 * p.N)) := hS.blk.cell 4 rfl
  have c3 := hS.sure_at hq
  have c4 := hS.holds_at hq
  have f3 : w.frozen? ⟨p.sb, place q, none⟩ = false := hS.sure.free _
  have f4 : w.frozen? ⟨p.hb, place q, none⟩ = false := hS.holds.free _
  obtain ⟨z3, hz3⟩ : ∃ z, stOf S q = z := ⟨_, rfl⟩
  obtain ⟨z4, hz4⟩ : ∃ z, stOf H q = z := ⟨_, rfl⟩
  rw [hz3] at c3
  rw [hz4] at c4
  clear hS hq ok hz3 hz4
  cases a <;> cases b
  all_goals
    go_enter Tryd.func78, Tryd.ntmps78
    go_wp2_with fail
    refine (HP.out _).mono ?_
    rintro e w' ⟨rfl, rfl⟩
    go_wp2_with fail
  · go_end0
    exact ⟨⟨_, rfl⟩, rfl⟩
  · refine (HP.out _).mono ?_
    rintro e w' ⟨rfl, rfl⟩
    go_wp2_with fail
    go_end0
    exact ⟨⟨_, rfl⟩, rfl⟩
  · go_end0
    exact ⟨⟨_, rfl⟩, rfl⟩
  · refine (HP.out _).mono ?_
    rintro e w' ⟨rfl, rfl⟩
    go_wp2_with fail
    go_end0
    exact ⟨⟨_, rfl⟩, rfl⟩
end Go.Proofs.YtjnkcpeicocjhaaDoor.Sol

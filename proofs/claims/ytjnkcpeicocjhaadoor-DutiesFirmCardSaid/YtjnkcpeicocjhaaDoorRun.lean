/- Running a solver until nothing more follows. -/
import Derived.Test.YtjnkcpeicocjhaaDoorSol6
import Derived.Deep.LoopGhost
namespace Go.Proofs.YtjnkcpeicocjhaaDoor.Sol
open Go.RowKit Mem Thy Nest Day Thm MapSet

theorem sayW_blk {w : World} {p : SvP} {a b : Bool} {q : Int} {B : Nat} {T : TypeId} {cs : List Value} (h : Blk w B T cs) (h1 : B ≠ p.sb) (h2 : B ≠ p.hb) : Blk (sayW p a b q w) B T cs := by
  cases a <;> cases b
  · exact blk_set h (by simpa using h2) _
  · exact blk_set (blk_set h (by simpa using h2) _) (by simpa using h2) _
  · exact blk_set h (by simpa using h1) _
  · exact blk_set (blk_set h (by simpa using h1) _) (by simpa using h1) _
theorem sayW_below {w : World} {p : SvP} {a b : Bool} {q : Int} {n : Nat} (h1 : n ≤ p.sb) (h2 : n ≤ p.hb) : Below n w (sayW p a b q w) := by
  cases a <;> cases b
  · exact (Below.refl n w).setCell (by simpa using h2) _
  · exact ((Below.refl n w).setCell (by simpa using h2) _).setCell (by simpa using h2) _
  · exact (Below.refl n w).setCell (by simpa using h1) _
  · exact ((Below.refl n w).setCell (by simpa using h1) _).setCell (by simpa using h1) _
def bools2 : List Value := [.bool true, .bool false]
/-- what is told to, and what it keeps -/
structure Teller (p : SvP) (base : Nat) (g : Nat) (cs : Array Value) (I : World → List (Bool × Bool × Int) → Prop) : Prop where
  hg : ∀ (vs : Array Value) (w : World), (callFunc g vs).run Tryd.prog w = .ok (.enter g vs) w
  ext : ∀ w w' l, I w l → Below w.heap.size w w' → I w' l
  say : ∀ w l a b q, I w l → I (sayW p a b q w) l
  tell : ∀ w l S H a b q g1 g2, Sv w p S H → I w l → Blk w g1 4 bools2 → Blk w g2 4 bools2 → p.th.Lit q → (∃ s h, Told p.th (l ++ [(a, b, q)]) s h) →
    Calls Tryd.prog g (#[.bool a, .bool b, .int .i64 q] ++ cs) w fun e w' => (∃ v, e = .returned v) ∧ Sv w' p S H ∧ I w' (l ++ [(a, b, q)]) ∧ Blk w' g1 4 bools2 ∧ Blk w' g2 4 bools2 ∧ Below base w w'
/-- a state of the run -/
structure RS (p : SvP) (base : Nat) (I : World → List (Bool × Bool × Int) → Prop) (w0 wr : World) (S H : List Int) : Prop where
  sv : Sv wr p S H
  told : ∃ l, I wr l ∧ Told p.th l (stOf S) (stOf H)
  below : Below base w0 wr
theorem RS.ext {p : SvP} {base : Nat} {I : World → List (Bool × Bool × Int) → Prop} {w0 wr w' : World} {S H : List Int} {g : Nat} {cs : Array Value} (T : Teller p base g cs I) (x : RS p base I w0 wr S H) (hs : base ≤ wr.heap.size) (hb : Below wr.heap.size wr w') : RS p base I w0 w' S H := by
  obtain ⟨l, h1, h2⟩ := x.told
  exact ⟨x.sv.ext hb, ⟨l, T.ext _ _ _ h1 hb, h2⟩, x.below.trans (hb.mono hs)⟩
def RunPost (p : SvP) (base : Nat) (I : World → List (Bool × Bool × Int) → Prop) (w : World) (e : Ending) (w' : World) : Prop :=
  (∃ v, e = .returned v) ∧ ∃ S H, RS p base I w w' S H ∧ Fin p.th (stOf S) (stOf H)
theorem sv_len {w : World} {p : SvP} {S H : List Int} (h : Sv w p S H) {q : Int} (hq : p.th.Lit q) : place q < S.length ∧ place q < H.length := by
  have := place_lt hq.1 hq.2.1 hq.2.2
  rw [h.ls, h.lh]
  unfold SvP.th at this
  simp at this
  omega
set_option maxRecDepth 100000 in
set_option maxHeartbeats 4000000 in
theorem run_any (p : SvP) (ok : p.Ok) (base : Nat) (hl1 : base ≤ p.lo) (g : Nat) (cs : Array Value) (I : World → List (Bool × Bool × Int) → Prop) (T : Teller p base g cs I) (S H : List Int) (w : World) (hs : base ≤ w.heap.size) (hR : RS p base I w w S H) :
    Calls Tryd.prog 51 #[.pointer (some ⟨p.B, 0, none⟩), .func (.func g) #[] cs] w (RunPost p base I w) := by
  have hn := ok.n
  have OK := Lib.hid ok
  have TT := Lib.hid T
  have HRS := Lib.hid hR
  have hgc := T.hg
  have HL1 := Lib.hid (show base ≤ p.sb ∧ base ≤ p.hb from ⟨Nat.le_trans hl1 ok.d2, Nat.le_trans hl1 ok.d3⟩)
  clear ok T hR hl1
  go_enter Tryd.func51, Tryd.ntmps51
  go_wp2_with fail
  go_loopg [4] (Zs S H + 1) (fun k t wr => ∃ (S0 H0 : List Int) (ag : Bool), t = .bool ag ∧ base ≤ wr.heap.size ∧ Hid (RS p base I w wr S0 H0) ∧ Hid (ag = true → Zs S0 H0 + 1 ≤ k) ∧ Hid (ag = false → Fin p.th (stOf S0) (stOf H0)))
  case atStart => exact ⟨S, H, true, rfl, hs, HRS.out, fun _ => Nat.le_refl _, fun h => by simp at h⟩
  case round =>
    obtain ⟨S0, H0, ag, rfl, hsz, HR0, HZ0, HF0⟩ := hrel
    cases ag
    · go_wp2_with fail
      go_end0
      exact ⟨⟨_, rfl⟩, S0, H0, HR0.out, HF0.out (by simp)⟩
    · have x0 : wr.cell? ⟨p.B, 0, none⟩ = some (.int .i64 p.N) := HR0.out.sv.blk.cell 0 rfl
      go_wp2_with fail
      clear x0
      go_loopw [4, 5] (fun t4 t5 wq => ∃ (S1 H1 : List Int) (ag : Bool) (q : Int), t4 = .bool ag ∧ t5 = .int .i64 q ∧ -(p.N : Int) ≤ q ∧ q ≤ (p.N : Int) + 1 ∧ base ≤ wq.heap.size ∧ Hid (RS p base I w wq S1 H1) ∧ Hid (Pr p.th S0 H0 S1 H1 ag q 0 0)) (fun _ t5 _ => ((p.N : Int) + 1 - intOf t5).toNat)
      case atStart => exact ⟨S0, H0, false, _, rfl, rfl, by omega, by omega, hsz, HR0.out, Pr.start p.th S0 H0⟩
      case round =>
        obtain ⟨S1, H1, ag, q, rfl, rfl, hq1, hq2, hsq, HR1, HP1⟩ := hrel
        have x0 : wr.cell? ⟨p.B, 0, none⟩ = some (.int .i64 p.N) := HR1.out.sv.blk.cell 0 rfl
        by_cases hlt : q ≤ p.N
        · by_cases h0 : q = 0
          · subst h0
            go_wp2_with fail
            go_roundw
            case rel => exact ⟨S1, H1, ag, _, rfl, rfl, by omega, by omega, hsq, HR1.out, HP1.out.zero⟩
            case measure => simp [intOf]
          · have h0' : (q == 0) = false := by simp [h0]
            have HQ := Lib.hid (show p.th.Lit q from ⟨h0, hq1, hlt⟩)
            clear h0
            go_wp2_with fail
            clear x0
            obtain ⟨w1, hw1⟩ : ∃ w1, w1 = wr := ⟨_, rfl⟩
            subst hw1
            have HG1 := Lib.hid (show w1.heap.size ≠ p.sb ∧ w1.heap.size ≠ p.hb from ⟨fun e => by have := HR1.out.sv.sure.lt; omega, fun e => by have := HR1.out.sv.holds.lt; omega⟩)
            go_loopw [4, 31] (fun t4 t31 wi => ∃ (S2 H2 : List Int) (ag : Bool) (i : Nat), t4 = .bool ag ∧ t31 = .int .i64 i ∧ i ≤ 2 ∧ base ≤ wi.heap.size ∧ Hid (RS p base I w wi S2 H2) ∧ Hid (Pr p.th S0 H0 S2 H2 ag q i 0) ∧ Hid (Blk wi w1.heap.size 4 bools2)) (fun _ t31 _ => 2 - (intOf t31).toNat)
            case atStart => exact ⟨S1, H1, ag, 0, rfl, rfl, by omega, by simp; omega, HR1.out.ext TT.out hsq (ext_alloc _ _), HP1.out, Blk.new w1 _ bools2⟩
            case round =>
              obtain ⟨S2, H2, ag, i, rfl, rfl, hi, hsi, HR2, HP2, HB1⟩ := hrel
              by_cases hi2 : i < 2
              · obtain ⟨a, ha, hc⟩ : ∃ a, i = idx a ∧ wr.cell? ⟨w1.heap.size, i, none⟩ = some (.bool a) := by
                  have hh : i = 0 ∨ i = 1 := by omega
                  rcases hh with rfl | rfl
                  · exact ⟨true, rfl, HB1.out.cell 0 rfl⟩
                  · exact ⟨false, rfl, HB1.out.cell 1 rfl⟩
                have HA := Lib.hid ha
                clear ha
                go_wp2_with fail
                refine (holds_any p S2 H2 OK.out q HQ.out _ HR2.out.sv).mono ?_
                rintro e w2 ⟨rfl, n1, rfl⟩
                obtain ⟨z, hz⟩ : ∃ z, pick a (stOf S2) (stOf H2) q = z := ⟨_, rfl⟩
                have HZ := Lib.hid hz
                have HX := Lib.hid (HR2.out.ext TT.out hsi (ext_drewN wr n1))
                have HBx := Lib.hid (blk_ext HB1.out (ext_drewN wr n1))
                clear hz hc
                cases a
                · have hz : stOf H2 q = z := HZ.out
                  rw [hz]
                  clear hz
                  have HX3 := Lib.hid ((HR2.out.ext TT.out hsi (ext_drewN wr n1)).ext TT.out (by simpa using hsi) (ext_alloc _ (.cells bools2.toArray 4)))
                  have HBy := Lib.hid (blk_ext (blk_ext HB1.out (ext_drewN wr n1)) (ext_alloc _ (.cells bools2.toArray 4)))
                  have HBz := Lib.hid (show Blk ((wr.drewN (n1)).alloc (.cells bools2.toArray 4)) wr.heap.size 4 bools2 from Blk.new (wr.drewN (n1)) _ bools2)
                  have HG2 := Lib.hid (show wr.heap.size ≠ p.sb ∧ wr.heap.size ≠ p.hb from ⟨fun e => by have := HR2.out.sv.sure.lt; omega, fun e => by have := HR2.out.sv.holds.lt; omega⟩)
                  go_wp2_with fail
                  obtain ⟨g2, hg2⟩ : ∃ g2, g2 = wr.heap.size := ⟨_, rfl⟩
                  go_loopw [4, 8, 44] (fun t4 t8 t44 wi => ∃ (S3 H3 : List Int) (ag : Bool) (z : Int) (j : Nat), t4 = .bool ag ∧ t8 = .int .i64 z ∧ t44 = .int .i64 j ∧ j ≤ 2 ∧ base ≤ wi.heap.size ∧ Hid (RS p base I w wi S3 H3) ∧ Hid (Pr p.th S0 H0 S3 H3 ag q (idx false) j) ∧ Hid (z = 0 ↔ pick false (stOf S3) (stOf H3) q = 0) ∧ Hid (Blk wi w1.heap.size 4 bools2) ∧ Hid (Blk wi g2 4 bools2)) (fun _ _ t44 _ => 2 - (intOf t44).toNat)
                  case atStart => exact ⟨S2, H2, ag, z, 0, rfl, rfl, rfl, by omega, by simp; omega, HX3.out, HA.out ▸ HP2.out, by rw [HZ.out]; exact Iff.rfl, HBy.out, hg2 ▸ HBz.out⟩
                  case round =>
                    clear HX3 HBy HBz HX HBx HZ
                    obtain ⟨S3, H3, ag, z, j, rfl, rfl, rfl, hj, hs3, HR3, HP3, HZ3, HC1, HC2⟩ := hrel
                    by_cases hj2 : j < 2
                    · obtain ⟨b, hb, hc⟩ : ∃ b, j = idx b ∧ wr.cell? ⟨g2, j, none⟩ = some (.bool b) := by
                        have hh : j = 0 ∨ j = 1 := by omega
                        rcases hh with rfl | rfl
                        · exact ⟨true, rfl, HC2.out.cell 0 rfl⟩
                        · exact ⟨false, rfl, HC2.out.cell 1 rfl⟩
                      rw [hg2] at hc
                      have HBj := Lib.hid hb
                      clear hb
                      by_cases hz0 : z = 0
                      · subst hz0
                        have HPk := Lib.hid (HZ3.out.1 rfl)
                        clear HZ3
                        go_wp2_with fail
                        refine (fol_any p S3 H3 OK.out false b q HQ.out _ HR3.out.sv).mono ?_
                        rintro e w5 ⟨f, rfl, hf1, hf2⟩
                        have HF1 := Lib.hid hf1
                        have HR5 := Lib.hid (HR3.out.ext TT.out hs3 hf2)
                        have HD1 := Lib.hid (blk_ext HC1.out hf2)
                        have HD2 := Lib.hid (blk_ext HC2.out hf2)
                        have hs5 : base ≤ w5.heap.size := Nat.le_trans hs3 hf2.size
                        clear hf1 hf2 hc
                        cases f
                        · go_wp2_with fail
                          go_roundw
                          case rel => exact ⟨S3, H3, ag, 0, j + 1, rfl, rfl, by go_num, by omega, hs5, HR5.out, by rw [HBj.out]; exact (HBj.out ▸ HP3.out).no (fun _ h => by simpa using HF1.out.2 h), ⟨fun _ => HPk.out, fun _ => rfl⟩, HD1.out, HD2.out⟩
                          case measure => simp [intOf]; omega
                        · have HFo := Lib.hid (HF1.out.1 (by simp))
                          go_wp2_with fail
                          refine (say_any p S3 H3 OK.out false b q HQ.out _ HR5.out.sv).mono ?_
                          rintro e w6 ⟨⟨v6, rfl⟩, rfl⟩
                          have HSv := Lib.hid (HR5.out.sv.said OK.out false b q)
                          have HL := Lib.hid (sv_len HR5.out.sv HQ.out)
                          obtain ⟨l, hl1, hl2⟩ := HR5.out.told
                          have HI := Lib.hid (TT.out.say _ _ false b q hl1)
                          have HTo := Lib.hid (hl2.set HQ.out HL.out.1 HL.out.2 HPk.out HFo.out)
                          have HE1 := Lib.hid (sayW_blk (a := false) (b := b) (q := q) HD1.out HG1.out.1 HG1.out.2)
                          have HE2 := Lib.hid (sayW_blk (p := p) (a := false) (b := b) (q := q) HD2.out (hg2 ▸ HG2.out.1) (hg2 ▸ HG2.out.2))
                          have HBe := Lib.hid (HR5.out.below.trans (sayW_below (a := false) (b := b) (q := q) (w := w5) HL1.out.1 HL1.out.2))
                          clear hl1 hl2
                          go_wp2_with fail
                          refine (TT.out.tell _ l _ _ false b q _ _ HSv.out HI.out HE1.out HE2.out HQ.out ⟨_, _, HTo.out⟩).mono ?_
                          rintro e w7 ⟨⟨v7, rfl⟩, k1, k2, k3, k4, k5⟩
                          have HK := Lib.hid (show RS p base I w w7 _ _ from ⟨k1, ⟨_, k2, HTo.out⟩, HBe.out.trans k5⟩)
                          have HK3 := Lib.hid k3
                          have HK4 := Lib.hid k4
                          have hs7 : base ≤ w7.heap.size := Nat.le_trans (show base ≤ (sayW p false b q w5).heap.size from Nat.le_trans hs5 (sayW_below (n := 0) (Nat.zero_le _) (Nat.zero_le _)).size) k5.size
                          clear k1 k2 k3 k4 k5
                          go_wp2_with fail
                          go_roundw
                          case rel => exact ⟨_, _, true, 1, j + 1, rfl, rfl, by go_num, by omega, hs7, HK.out, HP3.out.yes HQ.out.1 HL.out.1 HL.out.2 HPk.out, ⟨fun h => by simp at h, fun h => absurd ((pick_set HQ.out.1 HL.out.1 HL.out.2).symm.trans h) (val_ne b)⟩, HK3.out, HK4.out⟩
                          case measure => simp [intOf]; omega
                      · have hz0' : (z == 0) = false := by simp [hz0]
                        have HN0 := Lib.hid (show pick false (stOf S3) (stOf H3) q ≠ 0 from fun h => hz0 (HZ3.out.2 h))
                        clear hz0
                        go_wp2_with fail
                        go_roundw
                        case rel => exact ⟨S3, H3, ag, z, j + 1, rfl, rfl, by go_num, by omega, hs3, HR3.out, by rw [HBj.out]; exact (HBj.out ▸ HP3.out).no (fun h => absurd h HN0.out), HZ3.out, HC1.out, HC2.out⟩
                        case measure => simp [intOf]; omega
                    · obtain rfl : j = 2 := by omega
                      go_wp2_with fail
                      go_roundw
                      case rel => exact ⟨S3, H3, ag, i + 1, rfl, by go_num, by omega, hs3, HR3.out, HA.out ▸ HP3.out.next_a, HC1.out⟩
                      case measure => simp [intOf]; omega
                · generalize stOf H2 q = zz
                  go_wp2_with fail
                  refine (sure_any p S2 H2 OK.out q HQ.out _ HX.out.sv).mono ?_
                  rintro e w2 ⟨rfl, n2, rfl⟩
                  have hz : stOf S2 q = z := HZ.out
                  rw [hz]
                  clear hz
                  have HX3 := Lib.hid ((HR2.out.ext TT.out hsi (ext_drewN wr (n1 + n2))).ext TT.out (by simpa using hsi) (ext_alloc _ (.cells bools2.toArray 4)))
                  have HBy := Lib.hid (blk_ext (blk_ext HB1.out (ext_drewN wr (n1 + n2))) (ext_alloc _ (.cells bools2.toArray 4)))
                  have HBz := Lib.hid (show Blk ((wr.drewN ((n1 + n2))).alloc (.cells bools2.toArray 4)) wr.heap.size 4 bools2 from Blk.new (wr.drewN ((n1 + n2))) _ bools2)
                  have HG2 := Lib.hid (show wr.heap.size ≠ p.sb ∧ wr.heap.size ≠ p.hb from ⟨fun e => by have := HR2.out.sv.sure.lt; omega, fun e => by have := HR2.out.sv.holds.lt; omega⟩)
                  go_wp2_with fail
                  obtain ⟨g2, hg2⟩ : ∃ g2, g2 = wr.heap.size := ⟨_, rfl⟩
                  go_loopw [4, 8, 44] (fun t4 t8 t44 wi => ∃ (S3 H3 : List Int) (ag : Bool) (z : Int) (j : Nat), t4 = .bool ag ∧ t8 = .int .i64 z ∧ t44 = .int .i64 j ∧ j ≤ 2 ∧ base ≤ wi.heap.size ∧ Hid (RS p base I w wi S3 H3) ∧ Hid (Pr p.th S0 H0 S3 H3 ag q (idx true) j) ∧ Hid (z = 0 ↔ pick true (stOf S3) (stOf H3) q = 0) ∧ Hid (Blk wi w1.heap.size 4 bools2) ∧ Hid (Blk wi g2 4 bools2)) (fun _ _ t44 _ => 2 - (intOf t44).toNat)
                  case atStart => exact ⟨S2, H2, ag, z, 0, rfl, rfl, rfl, by omega, by simp; omega, HX3.out, HA.out ▸ HP2.out, by rw [HZ.out]; exact Iff.rfl, HBy.out, hg2 ▸ HBz.out⟩
                  case round =>
                    clear HX3 HBy HBz HX HBx HZ
                    obtain ⟨S3, H3, ag, z, j, rfl, rfl, rfl, hj, hs3, HR3, HP3, HZ3, HC1, HC2⟩ := hrel
                    by_cases hj2 : j < 2
                    · obtain ⟨b, hb, hc⟩ : ∃ b, j = idx b ∧ wr.cell? ⟨g2, j, none⟩ = some (.bool b) := by
                        have hh : j = 0 ∨ j = 1 := by omega
                        rcases hh with rfl | rfl
                        · exact ⟨true, rfl, HC2.out.cell 0 rfl⟩
                        · exact ⟨false, rfl, HC2.out.cell 1 rfl⟩
                      rw [hg2] at hc
                      have HBj := Lib.hid hb
                      clear hb
                      by_cases hz0 : z = 0
                      · subst hz0
                        have HPk := Lib.hid (HZ3.out.1 rfl)
                        clear HZ3
                        go_wp2_with fail
                        refine (fol_any p S3 H3 OK.out true b q HQ.out _ HR3.out.sv).mono ?_
                        rintro e w5 ⟨f, rfl, hf1, hf2⟩
                        have HF1 := Lib.hid hf1
                        have HR5 := Lib.hid (HR3.out.ext TT.out hs3 hf2)
                        have HD1 := Lib.hid (blk_ext HC1.out hf2)
                        have HD2 := Lib.hid (blk_ext HC2.out hf2)
                        have hs5 : base ≤ w5.heap.size := Nat.le_trans hs3 hf2.size
                        clear hf1 hf2 hc
                        cases f
                        · go_wp2_with fail
                          go_roundw
                          case rel => exact ⟨S3, H3, ag, 0, j + 1, rfl, rfl, by go_num, by omega, hs5, HR5.out, by rw [HBj.out]; exact (HBj.out ▸ HP3.out).no (fun _ h => by simpa using HF1.out.2 h), ⟨fun _ => HPk.out, fun _ => rfl⟩, HD1.out, HD2.out⟩
                          case measure => simp [intOf]; omega
                        · have HFo := Lib.hid (HF1.out.1 (by simp))
                          go_wp2_with fail
                          refine (say_any p S3 H3 OK.out true b q HQ.out _ HR5.out.sv).mono ?_
                          rintro e w6 ⟨⟨v6, rfl⟩, rfl⟩
                          have HSv := Lib.hid (HR5.out.sv.said OK.out true b q)
                          have HL := Lib.hid (sv_len HR5.out.sv HQ.out)
                          obtain ⟨l, hl1, hl2⟩ := HR5.out.told
                          have HI := Lib.hid (TT.out.say _ _ true b q hl1)
                          have HTo := Lib.hid (hl2.set HQ.out HL.out.1 HL.out.2 HPk.out HFo.out)
                          have HE1 := Lib.hid (sayW_blk (a := true) (b := b) (q := q) HD1.out HG1.out.1 HG1.out.2)
                          have HE2 := Lib.hid (sayW_blk (p := p) (a := true) (b := b) (q := q) HD2.out (hg2 ▸ HG2.out.1) (hg2 ▸ HG2.out.2))
                          have HBe := Lib.hid (HR5.out.below.trans (sayW_below (a := true) (b := b) (q := q) (w := w5) HL1.out.1 HL1.out.2))
                          clear hl1 hl2
                          go_wp2_with fail
                          refine (TT.out.tell _ l _ _ true b q _ _ HSv.out HI.out HE1.out HE2.out HQ.out ⟨_, _, HTo.out⟩).mono ?_
                          rintro e w7 ⟨⟨v7, rfl⟩, k1, k2, k3, k4, k5⟩
                          have HK := Lib.hid (show RS p base I w w7 _ _ from ⟨k1, ⟨_, k2, HTo.out⟩, HBe.out.trans k5⟩)
                          have HK3 := Lib.hid k3
                          have HK4 := Lib.hid k4
                          have hs7 : base ≤ w7.heap.size := Nat.le_trans (show base ≤ (sayW p true b q w5).heap.size from Nat.le_trans hs5 (sayW_below (n := 0) (Nat.zero_le _) (Nat.zero_le _)).size) k5.size
                          clear k1 k2 k3 k4 k5
                          go_wp2_with fail
                          go_roundw
                          case rel => exact ⟨_, _, true, 1, j + 1, rfl, rfl, by go_num, by omega, hs7, HK.out, HP3.out.yes HQ.out.1 HL.out.1 HL.out.2 HPk.out, ⟨fun h => by simp at h, fun h => absurd ((pick_set HQ.out.1 HL.out.1 HL.out.2).symm.trans h) (val_ne b)⟩, HK3.out, HK4.out⟩
                          case measure => simp [intOf]; omega
                      · have hz0' : (z == 0) = false := by simp [hz0]
                        have HN0 := Lib.hid (show pick true (stOf S3) (stOf H3) q ≠ 0 from fun h => hz0 (HZ3.out.2 h))
                        clear hz0
                        go_wp2_with fail
                        go_roundw
                        case rel => exact ⟨S3, H3, ag, z, j + 1, rfl, rfl, by go_num, by omega, hs3, HR3.out, by rw [HBj.out]; exact (HBj.out ▸ HP3.out).no (fun h => absurd h HN0.out), HZ3.out, HC1.out, HC2.out⟩
                        case measure => simp [intOf]; omega
                    · obtain rfl : j = 2 := by omega
                      go_wp2_with fail
                      go_roundw
                      case rel => exact ⟨S3, H3, ag, i + 1, rfl, by go_num, by omega, hs3, HR3.out, HA.out ▸ HP3.out.next_a, HC1.out⟩
                      case measure => simp [intOf]; omega
              · obtain rfl : i = 2 := by omega
                go_wp2_with fail
                go_roundw
                case rel => exact ⟨S2, H2, ag, _, rfl, rfl, by omega, by omega, hsi, HR2.out, HP2.out.next_q⟩
                case measure => simp [intOf]; omega
        · obtain rfl : q = p.N + 1 := by omega
          go_wp2_with fail
          have hk := HZ0.out (by simp)
          go_roundg (gk - 1)
          · exact ⟨S1, H1, ag, rfl, hsq, HR1.out, fun e => by have := HP1.out.z e; omega, fun e => by subst e; exact HP1.out.fin (by unfold SvP.th; simp; omega)⟩
          · omega
end Go.Proofs.YtjnkcpeicocjhaaDoor.Sol

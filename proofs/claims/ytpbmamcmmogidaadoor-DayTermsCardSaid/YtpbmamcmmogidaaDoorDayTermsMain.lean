/- The law DayTerms answers true: the walk. -/
import Derived.Test.YtpbmamcmmogidaaDoorTmU
import Derived.Test.YtpbmamcmmogidaaDoorTmW
import Derived.Test.YtpbmamcmmogidaaDoorTmDr
namespace Go.Proofs.YtpbmamcmmogidaaDoor.DayTerms
open Go.RowKit Mem Nest Err Flt Rd Tabs Tm

def first : List UInt8 := [51, 32, 119, 101, 101, 107, 115]
theorem first_term : termF first = (0, -1, 3, 2, 0) := by decide
theorem first_read (A : Nat → Addr) (w : World) (hE : Errs w A) (rv : Value) (hv : w.cell? ⟨13, 0, none⟩ = some rv) (hi : ∃ te pe, rv = .iface te pe) :
    Calls Tryd.prog 19 #[.string ⟨#[51, 32, 119, 101, 101, 107, 115]⟩] w fun e w' => e = .returned (.tuple #[.agg #[.int .i64 3, .int .i64 2, .int .i64 0], .nilIface]) ∧ Below w.heap.size w w' :=
  (pterm_any first A w (by decide) hE rv hv hi).mono fun e w' ⟨v, he, hp, hb⟩ => by
    rw [first_term] at he hp
    rcases hp with ⟨_, rfl⟩ | ⟨c, _, h, _⟩
    · exact ⟨he, hb⟩
    · simp at h; omega
theorem perr_put {A : Nat → Addr} {w : World} {c a : Int} {v : Value} (h : PErr A w c a v) {X : Nat} {n : Int} (hX : w.cell? ⟨X, 1, none⟩ = some (.int .i64 n)) (x y z : Int) :
    PErr A (((w.setCell ⟨X, 0, none⟩ (.int .i64 x)).setCell ⟨X, 1, none⟩ (.int .i64 y)).setCell ⟨X, 2, none⟩ (.int .i64 z)) c a v := by
  rcases h with h | ⟨c', h1, h2, b, h3, h4, h5⟩
  · exact .inl h
  · have hne : b ≠ X := fun e => by
      rw [e, hX] at h5
      have := Option.some.inj h5
      unfold sentV at this
      cases this
    exact .inr ⟨c', h1, h2, b, h3, cell_set_other (cell_set_other (cell_set_other h4 hne _) hne _) hne _, cell_set_other (cell_set_other (cell_set_other h5 hne _) hne _) hne _⟩
set_option maxRecDepth 100000 in
set_option maxHeartbeats 4000000 in
theorem walk (s : List UInt8) (n u r : Int) (A : Nat → Addr) (w : World) (hE : Errs w A) (hP : Pow w) (rv : Value) (hv : w.cell? ⟨13, 0, none⟩ = some rv) (hi : ∃ te pe, rv = .iface te pe) :
    Calls Tryd.prog 4 #[.string ⟨s.toArray⟩, .agg #[.int .i64 n, .int .i64 u, .int .i64 r]] w fun e w' => e = .returned (.bool true) ∧ Below w.heap.size w w' := by
  have hb := ext_alloc w (.cells (List.toArray [.int .i64 n, .int .i64 u, .int .i64 r]) 45)
  have b := Blk.new w 45 [.int .i64 n, .int .i64 u, .int .i64 r]
  obtain ⟨W, hW⟩ : ∃ W, W = w.alloc (.cells (List.toArray [.int .i64 n, .int .i64 u, .int .i64 r]) 45) := ⟨_, rfl⟩
  rw [← hW] at hb b
  have HE := Lib.hid hE
  have HP := Lib.hid hP
  have HV := Lib.hid hv
  have HI := Lib.hid hi
  have HB := Lib.hid hb
  have HT := Lib.hid b
  clear hE hP hv hi hb b
  go_enter Tryd.func4, Tryd.ntmps4
  go_wp2_with fail
  rw [show w.alloc (.cells #[.int .i64 n, .int .i64 u, .int .i64 r] 45) = W from hW.symm]
  clear hW
  refine (first_read A _ (HE.out.below HB.out) rv (cell_ext HB.out HV.out) HI.out).mono ?_
  rintro e w1 ⟨rfl, hb1⟩
  have hB1 := ext_trans HB.out hb1
  have hT1 := HT.out.ext (hb1.mono (show w.heap.size + 1 ≤ _ from HT.out.lt))
  have hx := Blk.new w1 46 [.int .i64 3, .int .i64 2, .int .i64 0]
  have hxb := ext_alloc w1 (.cells (List.toArray [.int .i64 3, .int .i64 2, .int .i64 0]) 46)
  have hX0 : w.heap.size < w1.heap.size := hT1.lt
  obtain ⟨W1, hW1⟩ : ∃ W1, W1 = w1.alloc (.cells (List.toArray [.int .i64 3, .int .i64 2, .int .i64 0]) 46) := ⟨_, rfl⟩
  rw [← hW1] at hx hxb
  obtain ⟨X, hX⟩ : ∃ X, X = w1.heap.size := ⟨_, rfl⟩
  rw [← hX] at hx hX0
  have HB1 := Lib.hid (ext_trans hB1 hxb)
  have HT1 := Lib.hid (hT1.ext (hxb.mono (show w.heap.size + 1 ≤ _ from hT1.lt)))
  have HX1 := Lib.hid hx
  have x0 := hx.cell 0 rfl
  have x1 := hx.cell 1 rfl
  clear hb1 hB1 hT1 hx hxb HB HT
  go_upto_region 2 with fail
  rw [show w1.alloc (.cells #[.int .i64 3, .int .i64 2, .int .i64 0] 46) = W1 from hW1.symm, ← hX]
  clear hW1 hX
  by_cases hlen : 3000 < s.length
  · have hlc : (3000 : Int) < (s.length : Int) := by omega
    go_wp2_with fail
    go_ret
    exact ⟨rfl, HB1.out⟩
  · have hlc : ¬ (3000 : Int) < (s.length : Int) := by omega
    have hl : s.length ≤ 3000 := by omega
    go_wp2_with fail
    clear x0 x1
    refine (pterm_any s A _ hl (HE.out.below HB1.out) rv (cell_ext HB1.out HV.out) HI.out).mono ?_
    obtain ⟨o, hO⟩ : ∃ o, o = termF s := ⟨_, rfl⟩
    obtain ⟨c, a, x, y, z⟩ := o
    have HO := Lib.hid hO
    clear hO
    rintro e w2 ⟨v, rfl, hp, hb2⟩
    rw [← HO.out] at hp
    rw [← HO.out]
    have hx2 := HX1.out.ext (hb2.mono (show X + 1 ≤ _ from HX1.out.lt))
    have hT2 := HT1.out.ext (hb2.mono (show w.heap.size + 1 ≤ _ from HT1.out.lt))
    have y0 := hx2.cell 0 rfl
    have y1 := hx2.cell 1 rfl
    have y2 := hx2.cell 2 rfl
    have f0 := hx2.free 0
    have f1 := hx2.free 1
    have f2 := hx2.free 2
    have hB2 := ext_trans HB1.out hb2
    have HP2 := Lib.hid (perr_put hp y1 x y z)
    have HX2 := Lib.hid (((hx2.set 0 (.int .i64 x)).set 1 (.int .i64 y)).set 2 (.int .i64 z))
    have HT2 := Lib.hid (blk_set (blk_set (blk_set hT2 (a := ⟨X, 0, none⟩) (by show _ ≠ X; omega) (.int .i64 x)) (a := ⟨X, 1, none⟩) (by show _ ≠ X; omega) (.int .i64 y)) (a := ⟨X, 2, none⟩) (by show _ ≠ X; omega) (.int .i64 z))
    have HB2 := Lib.hid (show Below w.heap.size w (((w2.setCell ⟨X, 0, none⟩ (.int .i64 x)).setCell ⟨X, 1, none⟩ (.int .i64 y)).setCell ⟨X, 2, none⟩ (.int .i64 z)) from ((hB2.setCell (by show _ ≤ X; omega) _).setCell (by show _ ≤ X; omega) _).setCell (by show _ ≤ X; omega) _)
    clear hb2 hp hx2 hT2 hB2
    go_wp2_with fail
    obtain ⟨W2, hW2⟩ : ∃ W2, W2 = ((w2.setCell ⟨X, 0, none⟩ (.int .i64 x)).setCell ⟨X, 1, none⟩ (.int .i64 y)).setCell ⟨X, 2, none⟩ (.int .i64 z) := ⟨_, rfl⟩
    rw [← hW2] at HP2 HX2 HT2 HB2 ⊢
    clear hW2 y0 y1 y2 f0 f1 f2
    refine (rterm_any s _ hl).mono ?_
    rintro e w3 ⟨rfl, hb3⟩
    rw [← HO.out]
    have hB3 := ext_trans HB2.out hb3
    have hX3 := HX2.out.ext (hb3.mono (show X + 1 ≤ _ from HX2.out.lt))
    have hT3 := HT2.out.ext (hb3.mono (show w.heap.size + 1 ≤ _ from HT2.out.lt))
    have hP3 := HP2.out.ext hb3
    have hz := Blk.new w3 45 [.int .i64 x, .int .i64 y, .int .i64 z]
    have hzb := ext_alloc w3 (.cells (List.toArray [.int .i64 x, .int .i64 y, .int .i64 z]) 45)
    obtain ⟨W3, hW3⟩ : ∃ W3, W3 = w3.alloc (.cells (List.toArray [.int .i64 x, .int .i64 y, .int .i64 z]) 45) := ⟨_, rfl⟩
    rw [← hW3] at hz hzb
    have hs3 : W3.heap.size = w3.heap.size + 1 := by rw [hW3]; simp
    have hfb := ext_alloc W3 (.cells (List.toArray [.int .i64 c, .int .i64 a]) 36)
    have hf := Blk.new W3 36 [.int .i64 c, .int .i64 a]
    obtain ⟨W4, hW4⟩ : ∃ W4, W4 = W3.alloc (.cells (List.toArray [.int .i64 c, .int .i64 a]) 36) := ⟨_, rfl⟩
    rw [← hW4] at hfb hf
    rw [hs3] at hf
    have hxx := ext_trans hzb hfb
    have HB4 := Lib.hid (ext_trans hB3 hxx)
    have HX4 := Lib.hid (hX3.ext (hxx.mono (show X + 1 ≤ _ from hX3.lt)))
    have HT4 := Lib.hid (hT3.ext (hxx.mono (show w.heap.size + 1 ≤ _ from hT3.lt)))
    have HP4 := Lib.hid (hP3.ext hxx)
    have HZ4 := Lib.hid (hz.ext (hfb.mono (show w3.heap.size + 1 ≤ _ from hz.lt)))
    have k0 := hf.cell 0 rfl
    have k1 := hf.cell 1 rfl
    clear hb3 hB3 hX3 hT3 hP3 hz hzb hfb hf hxx hs3
    go_upto_region 8 with fail
    rw [show w3.alloc (.cells #[.int .i64 x, .int .i64 y, .int .i64 z] 45) = W3 from hW3.symm]
    rw [show W3.alloc (.cells #[.int .i64 c, .int .i64 a] 36) = W4 from hW4.symm]
    clear hW3 hW4
    go_wp2_with fail
    refine (faulted_same HP4.out (HE.out.below HB4.out) (fun _ => rfl)).mono ?_
    rintro e w5 ⟨rfl, hb5⟩
    have HB5 := Lib.hid (ext_trans HB4.out hb5)
    have HX5 := Lib.hid (HX4.out.ext (hb5.mono (show X + 1 ≤ _ from HX4.out.lt)))
    have HZ5 := Lib.hid (HZ4.out.ext (hb5.mono (show w3.heap.size + 1 ≤ _ from HZ4.out.lt)))
    have hT5 := HT4.out.ext (hb5.mono (show w.heap.size + 1 ≤ _ from HT4.out.lt))
    have HT5 := Lib.hid hT5
    have t0 := hT5.cell 0 rfl
    have t1 := hT5.cell 1 rfl
    have t2 := hT5.cell 2 rfl
    clear hb5 hT5 k0 k1
    go_wp2_with fail
    refine (ptt_any n u r A _ (HE.out.below HB5.out) (HP.out.ext HB5.out)).mono ?_
    obtain ⟨l, hl2⟩ : ∃ l, l = tT n u r := ⟨_, rfl⟩
    rw [← hl2]
    rintro e w6 ⟨rfl, hb6⟩
    have HL := Lib.hid hl2
    have HB6 := Lib.hid (ext_trans HB5.out hb6)
    have hX6 := HX5.out.ext (hb6.mono (show X + 1 ≤ _ from HX5.out.lt))
    have hZ6 := HZ5.out.ext (hb6.mono (show w3.heap.size + 1 ≤ _ from HZ5.out.lt))
    have hT6 := HT5.out.ext (hb6.mono (show w.heap.size + 1 ≤ _ from HT5.out.lt))
    have q0 := hX6.cell 0 rfl
    have q1 := hX6.cell 1 rfl
    have q2 := hX6.cell 2 rfl
    have p0 := hZ6.cell 0 rfl
    have p1 := hZ6.cell 1 rfl
    have p2 := hZ6.cell 2 rfl
    have g0 := hT6.cell 0 rfl
    have g1 := hT6.cell 1 rfl
    have g2 := hT6.cell 2 rfl
    clear hb6 hl2 hX6 hZ6 hT6 t0 t1 t2
    go_wp2_with fail
    refine (rtt_any n u r _).mono ?_
    rw [← HL.out]
    rintro e w7 ⟨rfl, hb7⟩
    have HB7 := Lib.hid (ext_trans HB6.out hb7)
    clear hb7
    go_wp2_with fail
    go_ret
    exact ⟨rfl, HB7.out⟩
end Go.Proofs.YtpbmamcmmogidaaDoor.DayTerms

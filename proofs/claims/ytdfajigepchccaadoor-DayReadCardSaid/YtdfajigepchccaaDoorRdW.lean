/- A day read from a text: the program's side. -/
import Derived.Test.YtdfajigepchccaaDoorRdP
import Derived.Test.YtdfajigepchccaaDoorNest
import Derived.Test.YtdfajigepchccaaDoorDay
import Derived.Test.YtdfajigepchccaaDoorFlt
import Derived.BigRegion
import Derived.IntWalk
import Derived.Deep.DeepCutAuto
namespace Go.Proofs.YtdfajigepchccaaDoor.Rd
open Go.RowKit Mem Nest Cal Day Err Flt

theorem blk_ext {w w' : World} {B : Nat} {T : TypeId} {cs : List Value} (h : Blk w B T cs) (hb : Below w.heap.size w w') : Blk w' B T cs := h.ext (hb.mono (show B + 1 ≤ _ from h.lt))
/-- what a text comes to: the error's number, its place, the day -/
def OutP (s : List UInt8) (o : Int × Int × Int) : Prop :=
  (∃ p, Bad s p ∧ o = (1, (p : Int), 0)) ∨ (Fits s ∧ 10 < s.length ∧ o = (1, 10, 0)) ∨
  (Fits s ∧ s.length = 10 ∧ ¬ Vld (st s 10).1 (st s 10).2.1 (st s 10).2.2 ∧ o = (4, 0, 0)) ∨
  (Fits s ∧ s.length = 10 ∧ Vld (st s 10).1 (st s 10).2.1 (st s 10).2.2 ∧ o = (0, -1, num (st s 10).1 (st s 10).2.1 (st s 10).2.2))
theorem OutP.same {s : List UInt8} {o o' : Int × Int × Int} (h : OutP s o) (h' : OutP s o') : o = o' := by
  rcases h with ⟨p, a, rfl⟩ | ⟨a, b, rfl⟩ | ⟨a, b, c, rfl⟩ | ⟨a, b, c, rfl⟩ <;> rcases h' with ⟨q, a', rfl⟩ | ⟨a', b', rfl⟩ | ⟨a', b', c', rfl⟩ | ⟨a', b', c', rfl⟩ <;>
    first | rfl | (rw [a.same a']) | (exact (a.not a').elim) | (exact (a'.not a).elim) | (exfalso; omega) | exact (c c').elim | exact (c' c).elim
def ReadPost (s : List UInt8) (A : Nat → Addr) (w : World) (e : Ending) (w' : World) : Prop := ∃ o v, OutP s o ∧ e = .returned (.tuple #[.int .i64 o.2.2, v]) ∧ PErr A w' o.1 o.2.1 v ∧ Below w.heap.size w w'
def kk (i : Nat) : Int := if i < 5 then 0 else if i < 8 then 1 else 2
theorem okb_digit {s : List UInt8} {j : Nat} (hj : j < s.length) (h4 : j ≠ 4) (h7 : j ≠ 7) : OkB s j ↔ 48 ≤ s[j].toNat ∧ s[j].toNat ≤ 57 := by
  unfold OkB
  rw [if_neg (by omega), List.getD_eq_getElem?_getD, List.getElem?_eq_getElem hj]
  simp [hj]
theorem okb_bar {s : List UInt8} {j : Nat} (hj : j < s.length) (h : j = 4 ∨ j = 7) : OkB s j ↔ s[j].toNat = 45 := by
  unfold OkB
  rw [if_pos h, List.getD_eq_getElem?_getD, List.getElem?_eq_getElem hj]
  simp [hj]
theorem okb_none {s : List UInt8} {j : Nat} (hj : ¬ j < s.length) : ¬ OkB s j := fun h => hj h.1
theorem st_bar (s : List UInt8) (i : Nat) (h : i = 4 ∨ i = 7) : st s (i + 1) = st s i := by
  rw [st, if_pos h]
theorem st_a (s : List UInt8) (i : Nat) (h : i < 4) : st s (i + 1) = ((st s i).1 * 10 + dgt s i, (st s i).2) := by
  rw [st, if_neg (by omega), if_pos h]
theorem st_b (s : List UInt8) (i : Nat) (h : 4 < i ∧ i < 7) : st s (i + 1) = ((st s i).1, (st s i).2.1 * 10 + dgt s i, (st s i).2.2) := by
  rw [st, if_neg (by omega), if_neg (by omega), if_pos h.2]
theorem st_c (s : List UInt8) (i : Nat) (h : 7 < i) : st s (i + 1) = ((st s i).1, (st s i).2.1, (st s i).2.2 * 10 + dgt s i) := by
  rw [st, if_neg (by omega), if_neg (by omega), if_neg (by omega)]
theorem dgt_at {s : List UInt8} {j : Nat} (hj : j < s.length) : dgt s j = (s[j].toNat : Int) - 48 := by
  unfold dgt
  rw [List.getD_eq_getElem?_getD, List.getElem?_eq_getElem hj]
  rfl
set_option maxRecDepth 100000 in
set_option maxHeartbeats 8000000 in
theorem pread_any (s : List UInt8) (A : Nat → Addr) (w : World) (hl : s.length ≤ 9223372036854775807) (hE : Errs w A) :
    Calls Tryd.prog 17 #[.string ⟨s.toArray⟩] w (ReadPost s A w) := by
  have HX := Lib.hid (ext_alloc w (.cells #[.int .i64 0, .int .i64 0, .int .i64 0] 94))
  have HK := Lib.hid (Blk.new w 94 [.int .i64 0, .int .i64 0, .int .i64 0])
  have HE := Lib.hid hE
  clear hE
  go_enter Tryd.func17, Tryd.ntmps17
  go_wp2_with fail
  go_loopw [5, 9] (fun s5 s9 wr => ∃ i : Nat, i ≤ 10 ∧ s5 = .int .i64 (kk i) ∧ s9 = .int .i64 i ∧ Hid (Below w.heap.size w wr) ∧ Hid (∀ j, j < i → OkB s j) ∧ Hid (Blk wr w.heap.size 94 [.int .i64 (st s i).1, .int .i64 (st s i).2.1, .int .i64 (st s i).2.2])) (fun _ s9 _ => 10 - (intOf s9).toNat)
  case atStart => exact ⟨0, Nat.zero_le _, rfl, rfl, HX.out, fun j hj => absurd hj (by omega), HK.out⟩
  case round =>
    clear HX HK
    obtain ⟨i, hi, hs5, hs9, HB, HO, HK⟩ := hrel
    have hc : i = 0 ∨ i = 1 ∨ i = 2 ∨ i = 3 ∨ i = 4 ∨ i = 5 ∨ i = 6 ∨ i = 7 ∨ i = 8 ∨ i = 9 ∨ i = 10 := by omega
    have g0 := cell_below HB.out HE.out.v0
    unfold sentV at g0
    rcases hc with rfl | rfl | rfl | rfl | rfl | rfl | rfl | rfl | rfl | rfl | rfl
    · skip
      have ht9 : u9 = Value.int .i64 0 := hs9
      have ht5 : u5 = Value.int .i64 0 := hs5
      clear hs9 hs5
      subst ht9 ht5
      by_cases hj : 0 < s.length
      · have hjc : (0 : Int) < (s.length : Int) := by omega
        have hne : ¬ s = [] := fun h => by rw [h] at hj; simp at hj
        have hsz : 0 < (ByteArray.mk s.toArray).size := hj
        obtain ⟨c, hc⟩ : ∃ c : Int, (((ByteArray.mk s.toArray)[0]'hsz).toNat : Int) = c := ⟨_, rfl⟩
        have hc' : (s[0].toNat : Int) = c := hc
        have hf : ((((ByteArray.mk #[48, 48, 48, 48, 45, 48, 48, 45, 48, 48])[0]'(by decide)).toNat : Nat) : Int) = 48 := rfl
        have HOk := Lib.hid (okb_digit hj (by omega) (by omega))
        have HOb := Lib.hid (show OkB s 0 ↔ 48 ≤ c ∧ c ≤ 57 by rw [HOk.out]; omega)
        have HDg := Lib.hid (show dgt s 0 = c - 48 by rw [dgt_at hj, hc'])
        clear hc' HOk
        by_cases hb : c < 48
        · have HOj := Lib.hid (show ¬ OkB s 0 from fun h => by have := HOb.out.1 h; omega)
          go_wp2_with fail
          go_region
          go_wp2_with fail
          go_ret2
          have hN := Blk.new wr 85 [.int .i64 0, sentV (A 0)]
          exact ⟨(1, 0, 0), faultV wr.heap.size, .inl ⟨0, ⟨by omega, HO.out, HOj.out⟩, rfl⟩, rfl, .inr ⟨0, by omega, rfl, _, rfl, cell_below (ext_drewN _ 1) (hN.cell 0 rfl), cell_below (ext_drewN _ 1) (hN.cell 1 rfl)⟩, ext_trans HB.out (ext_trans (ext_alloc wr _) (ext_drewN _ 1))⟩
        · by_cases hd : 57 < c
          · have HOj := Lib.hid (show ¬ OkB s 0 from fun h => by have := HOb.out.1 h; omega)
            go_wp2_with fail
            go_region
            go_wp2_with fail
            go_ret2
            have hN := Blk.new wr 85 [.int .i64 0, sentV (A 0)]
            exact ⟨(1, 0, 0), faultV wr.heap.size, .inl ⟨0, ⟨by omega, HO.out, HOj.out⟩, rfl⟩, rfl, .inr ⟨0, by omega, rfl, _, rfl, cell_below (ext_drewN _ 1) (hN.cell 0 rfl), cell_below (ext_drewN _ 1) (hN.cell 1 rfl)⟩, ext_trans HB.out (ext_trans (ext_alloc wr _) (ext_drewN _ 1))⟩
          · have HOj := Lib.hid (HOb.out.2 (by omega))
            obtain ⟨⟨b1, b2⟩, ⟨b3, b4⟩, ⟨b5, b6⟩⟩ := st_bd 0 HO.out
            have HS := Lib.hid (st_a s 0 (by omega))
            obtain ⟨X, hX⟩ : ∃ X, X = st s 0 := ⟨_, rfl⟩
            rw [← hX] at HS HK b1 b2 b3 b4 b5 b6
            clear hX
            rw [HDg.out] at HS
            obtain ⟨x, y, z⟩ := X
            simp only at HK b1 b2 b3 b4 b5 b6
            have b2 : x < 1 := b2
            have b4 : y < 1 := b4
            have b6 : z < 1 := b6
            have x0 := HK.out.cell 0 rfl
            have x1 := HK.out.cell 1 rfl
            have x2 := HK.out.cell 2 rfl
            have f0 := HK.out.free 0
            have f1 := HK.out.free 1
            have f2 := HK.out.free 2
            have hu : IntKind.u8.wrap (c - 48) = c - 48 := IntWalk.u8_in _ (by omega)
            go_wp2_with fail
            go_region
            go_wp2_with fail
            go_roundw
            case rel =>
              refine ⟨1, by omega, by rfl, by rfl, ?_, ?_, ?_⟩
              · exact (Below.setCell HB.out (Nat.le_refl _) _).trans ((ext_drewN _ 1).mono (by have := HB.out.size; simpa using this))
              · exact fun q hq => if e : q = 0 then e ▸ HOj.out else HO.out q (by omega)
              · show Blk _ _ _ _
                rw [HS.out]
                exact blk_ext (HK.out.set 0 (.int .i64 (x * 10 + (c - 48)))) (ext_drewN _ 1)
            case measure => simp [intOf]
      · have hjc : ¬ (0 : Int) < (s.length : Int) := by omega
        have HOj := Lib.hid (okb_none hj)
        obtain rfl : s = [] := List.length_eq_zero_iff.1 (by omega)
        clear hj hjc
        go_wp2_with fail
        go_region
        go_wp2_with fail
        go_ret2
        have hN := Blk.new wr 85 [.int .i64 0, sentV (A 0)]
        exact ⟨(1, 0, 0), faultV wr.heap.size, .inl ⟨0, ⟨by omega, HO.out, HOj.out⟩, rfl⟩, rfl, .inr ⟨0, by omega, rfl, _, rfl, cell_below (ext_drewN _ 1) (hN.cell 0 rfl), cell_below (ext_drewN _ 1) (hN.cell 1 rfl)⟩, ext_trans HB.out (ext_trans (ext_alloc wr _) (ext_drewN _ 1))⟩
    · skip
      have ht9 : u9 = Value.int .i64 1 := hs9
      have ht5 : u5 = Value.int .i64 0 := hs5
      clear hs9 hs5
      subst ht9 ht5
      by_cases hj : 1 < s.length
      · have hjc : (1 : Int) < (s.length : Int) := by omega
        have hsz : 1 < (ByteArray.mk s.toArray).size := hj
        obtain ⟨c, hc⟩ : ∃ c : Int, (((ByteArray.mk s.toArray)[1]'hsz).toNat : Int) = c := ⟨_, rfl⟩
        have hc' : (s[1].toNat : Int) = c := hc
        have hf : ((((ByteArray.mk #[48, 48, 48, 48, 45, 48, 48, 45, 48, 48])[1]'(by decide)).toNat : Nat) : Int) = 48 := rfl
        have HOk := Lib.hid (okb_digit hj (by omega) (by omega))
        have HOb := Lib.hid (show OkB s 1 ↔ 48 ≤ c ∧ c ≤ 57 by rw [HOk.out]; omega)
        have HDg := Lib.hid (show dgt s 1 = c - 48 by rw [dgt_at hj, hc'])
        clear hc' HOk
        by_cases hb : c < 48
        · have HOj := Lib.hid (show ¬ OkB s 1 from fun h => by have := HOb.out.1 h; omega)
          go_wp2_with fail
          go_region
          go_wp2_with fail
          go_ret2
          have hN := Blk.new wr 85 [.int .i64 1, sentV (A 0)]
          exact ⟨(1, 1, 0), faultV wr.heap.size, .inl ⟨1, ⟨by omega, HO.out, HOj.out⟩, rfl⟩, rfl, .inr ⟨0, by omega, rfl, _, rfl, cell_below (ext_drewN _ 1) (hN.cell 0 rfl), cell_below (ext_drewN _ 1) (hN.cell 1 rfl)⟩, ext_trans HB.out (ext_trans (ext_alloc wr _) (ext_drewN _ 1))⟩
        · by_cases hd : 57 < c
          · have HOj := Lib.hid (show ¬ OkB s 1 from fun h => by have := HOb.out.1 h; omega)
            go_wp2_with fail
            go_region
            go_wp2_with fail
            go_ret2
            have hN := Blk.new wr 85 [.int .i64 1, sentV (A 0)]
            exact ⟨(1, 1, 0), faultV wr.heap.size, .inl ⟨1, ⟨by omega, HO.out, HOj.out⟩, rfl⟩, rfl, .inr ⟨0, by omega, rfl, _, rfl, cell_below (ext_drewN _ 1) (hN.cell 0 rfl), cell_below (ext_drewN _ 1) (hN.cell 1 rfl)⟩, ext_trans HB.out (ext_trans (ext_alloc wr _) (ext_drewN _ 1))⟩
          · have HOj := Lib.hid (HOb.out.2 (by omega))
            obtain ⟨⟨b1, b2⟩, ⟨b3, b4⟩, ⟨b5, b6⟩⟩ := st_bd 1 HO.out
            have HS := Lib.hid (st_a s 1 (by omega))
            obtain ⟨X, hX⟩ : ∃ X, X = st s 1 := ⟨_, rfl⟩
            rw [← hX] at HS HK b1 b2 b3 b4 b5 b6
            clear hX
            rw [HDg.out] at HS
            obtain ⟨x, y, z⟩ := X
            simp only at HK b1 b2 b3 b4 b5 b6
            have b2 : x < 10 := b2
            have b4 : y < 10 := b4
            have b6 : z < 10 := b6
            have x0 := HK.out.cell 0 rfl
            have x1 := HK.out.cell 1 rfl
            have x2 := HK.out.cell 2 rfl
            have f0 := HK.out.free 0
            have f1 := HK.out.free 1
            have f2 := HK.out.free 2
            have hu : IntKind.u8.wrap (c - 48) = c - 48 := IntWalk.u8_in _ (by omega)
            go_wp2_with fail
            go_region
            go_wp2_with fail
            go_roundw
            case rel =>
              refine ⟨2, by omega, by rfl, by rfl, ?_, ?_, ?_⟩
              · exact (Below.setCell HB.out (Nat.le_refl _) _).trans ((ext_drewN _ 1).mono (by have := HB.out.size; simpa using this))
              · exact fun q hq => if e : q = 1 then e ▸ HOj.out else HO.out q (by omega)
              · show Blk _ _ _ _
                rw [HS.out]
                exact blk_ext (HK.out.set 0 (.int .i64 (x * 10 + (c - 48)))) (ext_drewN _ 1)
            case measure => simp [intOf]
      · have hjc : ¬ (1 : Int) < (s.length : Int) := by omega
        have HOj := Lib.hid (okb_none hj)
        go_wp2_with fail
        go_region
        go_wp2_with fail
        go_ret2
        have hN := Blk.new wr 85 [.int .i64 1, sentV (A 0)]
        exact ⟨(1, 1, 0), faultV wr.heap.size, .inl ⟨1, ⟨by omega, HO.out, HOj.out⟩, rfl⟩, rfl, .inr ⟨0, by omega, rfl, _, rfl, cell_below (ext_drewN _ 1) (hN.cell 0 rfl), cell_below (ext_drewN _ 1) (hN.cell 1 rfl)⟩, ext_trans HB.out (ext_trans (ext_alloc wr _) (ext_drewN _ 1))⟩
    · skip
      have ht9 : u9 = Value.int .i64 2 := hs9
      have ht5 : u5 = Value.int .i64 0 := hs5
      clear hs9 hs5
      subst ht9 ht5
      by_cases hj : 2 < s.length
      · have hjc : (2 : Int) < (s.length : Int) := by omega
        have hsz : 2 < (ByteArray.mk s.toArray).size := hj
        obtain ⟨c, hc⟩ : ∃ c : Int, (((ByteArray.mk s.toArray)[2]'hsz).toNat : Int) = c := ⟨_, rfl⟩
        have hc' : (s[2].toNat : Int) = c := hc
        have hf : ((((ByteArray.mk #[48, 48, 48, 48, 45, 48, 48, 45, 48, 48])[2]'(by decide)).toNat : Nat) : Int) = 48 := rfl
        have HOk := Lib.hid (okb_digit hj (by omega) (by omega))
        have HOb := Lib.hid (show OkB s 2 ↔ 48 ≤ c ∧ c ≤ 57 by rw [HOk.out]; omega)
        have HDg := Lib.hid (show dgt s 2 = c - 48 by rw [dgt_at hj, hc'])
        clear hc' HOk
        by_cases hb : c < 48
        · have HOj := Lib.hid (show ¬ OkB s 2 from fun h => by have := HOb.out.1 h; omega)
          go_wp2_with fail
          go_region
          go_wp2_with fail
          go_ret2
          have hN := Blk.new wr 85 [.int .i64 2, sentV (A 0)]
          exact ⟨(1, 2, 0), faultV wr.heap.size, .inl ⟨2, ⟨by omega, HO.out, HOj.out⟩, rfl⟩, rfl, .inr ⟨0, by omega, rfl, _, rfl, cell_below (ext_drewN _ 1) (hN.cell 0 rfl), cell_below (ext_drewN _ 1) (hN.cell 1 rfl)⟩, ext_trans HB.out (ext_trans (ext_alloc wr _) (ext_drewN _ 1))⟩
        · by_cases hd : 57 < c
          · have HOj := Lib.hid (show ¬ OkB s 2 from fun h => by have := HOb.out.1 h; omega)
            go_wp2_with fail
            go_region
            go_wp2_with fail
            go_ret2
            have hN := Blk.new wr 85 [.int .i64 2, sentV (A 0)]
            exact ⟨(1, 2, 0), faultV wr.heap.size, .inl ⟨2, ⟨by omega, HO.out, HOj.out⟩, rfl⟩, rfl, .inr ⟨0, by omega, rfl, _, rfl, cell_below (ext_drewN _ 1) (hN.cell 0 rfl), cell_below (ext_drewN _ 1) (hN.cell 1 rfl)⟩, ext_trans HB.out (ext_trans (ext_alloc wr _) (ext_drewN _ 1))⟩
          · have HOj := Lib.hid (HOb.out.2 (by omega))
            obtain ⟨⟨b1, b2⟩, ⟨b3, b4⟩, ⟨b5, b6⟩⟩ := st_bd 2 HO.out
            have HS := Lib.hid (st_a s 2 (by omega))
            obtain ⟨X, hX⟩ : ∃ X, X = st s 2 := ⟨_, rfl⟩
            rw [← hX] at HS HK b1 b2 b3 b4 b5 b6
            clear hX
            rw [HDg.out] at HS
            obtain ⟨x, y, z⟩ := X
            simp only at HK b1 b2 b3 b4 b5 b6
            have b2 : x < 100 := b2
            have b4 : y < 100 := b4
            have b6 : z < 100 := b6
            have x0 := HK.out.cell 0 rfl
            have x1 := HK.out.cell 1 rfl
            have x2 := HK.out.cell 2 rfl
            have f0 := HK.out.free 0
            have f1 := HK.out.free 1
            have f2 := HK.out.free 2
            have hu : IntKind.u8.wrap (c - 48) = c - 48 := IntWalk.u8_in _ (by omega)
            go_wp2_with fail
            go_region
            go_wp2_with fail
            go_roundw
            case rel =>
              refine ⟨3, by omega, by rfl, by rfl, ?_, ?_, ?_⟩
              · exact (Below.setCell HB.out (Nat.le_refl _) _).trans ((ext_drewN _ 1).mono (by have := HB.out.size; simpa using this))
              · exact fun q hq => if e : q = 2 then e ▸ HOj.out else HO.out q (by omega)
              · show Blk _ _ _ _
                rw [HS.out]
                exact blk_ext (HK.out.set 0 (.int .i64 (x * 10 + (c - 48)))) (ext_drewN _ 1)
            case measure => simp [intOf]
      · have hjc : ¬ (2 : Int) < (s.length : Int) := by omega
        have HOj := Lib.hid (okb_none hj)
        go_wp2_with fail
        go_region
        go_wp2_with fail
        go_ret2
        have hN := Blk.new wr 85 [.int .i64 2, sentV (A 0)]
        exact ⟨(1, 2, 0), faultV wr.heap.size, .inl ⟨2, ⟨by omega, HO.out, HOj.out⟩, rfl⟩, rfl, .inr ⟨0, by omega, rfl, _, rfl, cell_below (ext_drewN _ 1) (hN.cell 0 rfl), cell_below (ext_drewN _ 1) (hN.cell 1 rfl)⟩, ext_trans HB.out (ext_trans (ext_alloc wr _) (ext_drewN _ 1))⟩
    · skip
      have ht9 : u9 = Value.int .i64 3 := hs9
      have ht5 : u5 = Value.int .i64 0 := hs5
      clear hs9 hs5
      subst ht9 ht5
      by_cases hj : 3 < s.length
      · have hjc : (3 : Int) < (s.length : Int) := by omega
        have hsz : 3 < (ByteArray.mk s.toArray).size := hj
        obtain ⟨c, hc⟩ : ∃ c : Int, (((ByteArray.mk s.toArray)[3]'hsz).toNat : Int) = c := ⟨_, rfl⟩
        have hc' : (s[3].toNat : Int) = c := hc
        have hf : ((((ByteArray.mk #[48, 48, 48, 48, 45, 48, 48, 45, 48, 48])[3]'(by decide)).toNat : Nat) : Int) = 48 := rfl
        have HOk := Lib.hid (okb_digit hj (by omega) (by omega))
        have HOb := Lib.hid (show OkB s 3 ↔ 48 ≤ c ∧ c ≤ 57 by rw [HOk.out]; omega)
        have HDg := Lib.hid (show dgt s 3 = c - 48 by rw [dgt_at hj, hc'])
        clear hc' HOk
        by_cases hb : c < 48
        · have HOj := Lib.hid (show ¬ OkB s 3 from fun h => by have := HOb.out.1 h; omega)
          go_wp2_with fail
          go_region
          go_wp2_with fail
          go_ret2
          have hN := Blk.new wr 85 [.int .i64 3, sentV (A 0)]
          exact ⟨(1, 3, 0), faultV wr.heap.size, .inl ⟨3, ⟨by omega, HO.out, HOj.out⟩, rfl⟩, rfl, .inr ⟨0, by omega, rfl, _, rfl, cell_below (ext_drewN _ 1) (hN.cell 0 rfl), cell_below (ext_drewN _ 1) (hN.cell 1 rfl)⟩, ext_trans HB.out (ext_trans (ext_alloc wr _) (ext_drewN _ 1))⟩
        · by_cases hd : 57 < c
          · have HOj := Lib.hid (show ¬ OkB s 3 from fun h => by have := HOb.out.1 h; omega)
            go_wp2_with fail
            go_region
            go_wp2_with fail
            go_ret2
            have hN := Blk.new wr 85 [.int .i64 3, sentV (A 0)]
            exact ⟨(1, 3, 0), faultV wr.heap.size, .inl ⟨3, ⟨by omega, HO.out, HOj.out⟩, rfl⟩, rfl, .inr ⟨0, by omega, rfl, _, rfl, cell_below (ext_drewN _ 1) (hN.cell 0 rfl), cell_below (ext_drewN _ 1) (hN.cell 1 rfl)⟩, ext_trans HB.out (ext_trans (ext_alloc wr _) (ext_drewN _ 1))⟩
          · have HOj := Lib.hid (HOb.out.2 (by omega))
            obtain ⟨⟨b1, b2⟩, ⟨b3, b4⟩, ⟨b5, b6⟩⟩ := st_bd 3 HO.out
            have HS := Lib.hid (st_a s 3 (by omega))
            obtain ⟨X, hX⟩ : ∃ X, X = st s 3 := ⟨_, rfl⟩
            rw [← hX] at HS HK b1 b2 b3 b4 b5 b6
            clear hX
            rw [HDg.out] at HS
            obtain ⟨x, y, z⟩ := X
            simp only at HK b1 b2 b3 b4 b5 b6
            have b2 : x < 1000 := b2
            have b4 : y < 1000 := b4
            have b6 : z < 1000 := b6
            have x0 := HK.out.cell 0 rfl
            have x1 := HK.out.cell 1 rfl
            have x2 := HK.out.cell 2 rfl
            have f0 := HK.out.free 0
            have f1 := HK.out.free 1
            have f2 := HK.out.free 2
            have hu : IntKind.u8.wrap (c - 48) = c - 48 := IntWalk.u8_in _ (by omega)
            go_wp2_with fail
            go_region
            go_wp2_with fail
            go_roundw
            case rel =>
              refine ⟨4, by omega, by rfl, by rfl, ?_, ?_, ?_⟩
              · exact (Below.setCell HB.out (Nat.le_refl _) _).trans ((ext_drewN _ 1).mono (by have := HB.out.size; simpa using this))
              · exact fun q hq => if e : q = 3 then e ▸ HOj.out else HO.out q (by omega)
              · show Blk _ _ _ _
                rw [HS.out]
                exact blk_ext (HK.out.set 0 (.int .i64 (x * 10 + (c - 48)))) (ext_drewN _ 1)
            case measure => simp [intOf]
      · have hjc : ¬ (3 : Int) < (s.length : Int) := by omega
        have HOj := Lib.hid (okb_none hj)
        go_wp2_with fail
        go_region
        go_wp2_with fail
        go_ret2
        have hN := Blk.new wr 85 [.int .i64 3, sentV (A 0)]
        exact ⟨(1, 3, 0), faultV wr.heap.size, .inl ⟨3, ⟨by omega, HO.out, HOj.out⟩, rfl⟩, rfl, .inr ⟨0, by omega, rfl, _, rfl, cell_below (ext_drewN _ 1) (hN.cell 0 rfl), cell_below (ext_drewN _ 1) (hN.cell 1 rfl)⟩, ext_trans HB.out (ext_trans (ext_alloc wr _) (ext_drewN _ 1))⟩
    · skip
      have ht9 : u9 = Value.int .i64 4 := hs9
      have ht5 : u5 = Value.int .i64 0 := hs5
      clear hs9 hs5
      subst ht9 ht5
      by_cases hj : 4 < s.length
      · have hjc : (4 : Int) < (s.length : Int) := by omega
        have hsz : 4 < (ByteArray.mk s.toArray).size := hj
        obtain ⟨c, hc⟩ : ∃ c : Int, (((ByteArray.mk s.toArray)[4]'hsz).toNat : Int) = c := ⟨_, rfl⟩
        have hc' : (s[4].toNat : Int) = c := hc
        have hf : ((((ByteArray.mk #[48, 48, 48, 48, 45, 48, 48, 45, 48, 48])[4]'(by decide)).toNat : Nat) : Int) = 45 := rfl
        have HOk := Lib.hid (okb_bar hj (show 4 = 4 ∨ 4 = 7 by omega))
        have HOb := Lib.hid (show OkB s 4 ↔ c = 45 by rw [HOk.out]; omega)
        clear hc' HOk
        by_cases hb : c = 45
        · have HOj := Lib.hid (HOb.out.2 hb)
          subst hb
          go_wp2_with fail
          go_roundw
          case rel =>
            refine ⟨5, by omega, by rfl, by rfl, HB.out, ?_, ?_⟩
            · exact fun q hq => if e : q = 4 then e ▸ HOj.out else HO.out q (by omega)
            · show Blk _ _ _ _
              rw [st_bar s 4 (by omega)]
              exact HK.out
          case measure => simp [intOf]
        · have HOj := Lib.hid (fun h => hb (HOb.out.1 h))
          have hq : (c == 45) = false := by rw [beq_eq_false_iff_ne]; exact hb
          go_wp2_with fail
          go_region
          go_wp2_with fail
          go_ret2
          have hN := Blk.new wr 85 [.int .i64 4, sentV (A 0)]
          exact ⟨(1, 4, 0), faultV wr.heap.size, .inl ⟨4, ⟨by omega, HO.out, HOj.out⟩, rfl⟩, rfl, .inr ⟨0, by omega, rfl, _, rfl, cell_below (ext_drewN _ 1) (hN.cell 0 rfl), cell_below (ext_drewN _ 1) (hN.cell 1 rfl)⟩, ext_trans HB.out (ext_trans (ext_alloc wr _) (ext_drewN _ 1))⟩
      · have hjc : ¬ (4 : Int) < (s.length : Int) := by omega
        have HOj := Lib.hid (okb_none hj)
        go_wp2_with fail
        go_region
        go_wp2_with fail
        go_ret2
        have hN := Blk.new wr 85 [.int .i64 4, sentV (A 0)]
        exact ⟨(1, 4, 0), faultV wr.heap.size, .inl ⟨4, ⟨by omega, HO.out, HOj.out⟩, rfl⟩, rfl, .inr ⟨0, by omega, rfl, _, rfl, cell_below (ext_drewN _ 1) (hN.cell 0 rfl), cell_below (ext_drewN _ 1) (hN.cell 1 rfl)⟩, ext_trans HB.out (ext_trans (ext_alloc wr _) (ext_drewN _ 1))⟩
    · skip
      have ht9 : u9 = Value.int .i64 5 := hs9
      have ht5 : u5 = Value.int .i64 1 := hs5
      clear hs9 hs5
      subst ht9 ht5
      by_cases hj : 5 < s.length
      · have hjc : (5 : Int) < (s.length : Int) := by omega
        have hsz : 5 < (ByteArray.mk s.toArray).size := hj
        obtain ⟨c, hc⟩ : ∃ c : Int, (((ByteArray.mk s.toArray)[5]'hsz).toNat : Int) = c := ⟨_, rfl⟩
        have hc' : (s[5].toNat : Int) = c := hc
        have hf : ((((ByteArray.mk #[48, 48, 48, 48, 45, 48, 48, 45, 48, 48])[5]'(by decide)).toNat : Nat) : Int) = 48 := rfl
        have HOk := Lib.hid (okb_digit hj (by omega) (by omega))
        have HOb := Lib.hid (show OkB s 5 ↔ 48 ≤ c ∧ c ≤ 57 by rw [HOk.out]; omega)
        have HDg := Lib.hid (show dgt s 5 = c - 48 by rw [dgt_at hj, hc'])
        clear hc' HOk
        by_cases hb : c < 48
        · have HOj := Lib.hid (show ¬ OkB s 5 from fun h => by have := HOb.out.1 h; omega)
          go_wp2_with fail
          go_region
          go_wp2_with fail
          go_ret2
          have hN := Blk.new wr 85 [.int .i64 5, sentV (A 0)]
          exact ⟨(1, 5, 0), faultV wr.heap.size, .inl ⟨5, ⟨by omega, HO.out, HOj.out⟩, rfl⟩, rfl, .inr ⟨0, by omega, rfl, _, rfl, cell_below (ext_drewN _ 1) (hN.cell 0 rfl), cell_below (ext_drewN _ 1) (hN.cell 1 rfl)⟩, ext_trans HB.out (ext_trans (ext_alloc wr _) (ext_drewN _ 1))⟩
        · by_cases hd : 57 < c
          · have HOj := Lib.hid (show ¬ OkB s 5 from fun h => by have := HOb.out.1 h; omega)
            go_wp2_with fail
            go_region
            go_wp2_with fail
            go_ret2
            have hN := Blk.new wr 85 [.int .i64 5, sentV (A 0)]
            exact ⟨(1, 5, 0), faultV wr.heap.size, .inl ⟨5, ⟨by omega, HO.out, HOj.out⟩, rfl⟩, rfl, .inr ⟨0, by omega, rfl, _, rfl, cell_below (ext_drewN _ 1) (hN.cell 0 rfl), cell_below (ext_drewN _ 1) (hN.cell 1 rfl)⟩, ext_trans HB.out (ext_trans (ext_alloc wr _) (ext_drewN _ 1))⟩
          · have HOj := Lib.hid (HOb.out.2 (by omega))
            obtain ⟨⟨b1, b2⟩, ⟨b3, b4⟩, ⟨b5, b6⟩⟩ := st_bd 5 HO.out
            have HS := Lib.hid (st_b s 5 (by omega))
            obtain ⟨X, hX⟩ : ∃ X, X = st s 5 := ⟨_, rfl⟩
            rw [← hX] at HS HK b1 b2 b3 b4 b5 b6
            clear hX
            rw [HDg.out] at HS
            obtain ⟨x, y, z⟩ := X
            simp only at HK b1 b2 b3 b4 b5 b6
            have b2 : x < 100000 := b2
            have b4 : y < 100000 := b4
            have b6 : z < 100000 := b6
            have x0 := HK.out.cell 0 rfl
            have x1 := HK.out.cell 1 rfl
            have x2 := HK.out.cell 2 rfl
            have f0 := HK.out.free 0
            have f1 := HK.out.free 1
            have f2 := HK.out.free 2
            have hu : IntKind.u8.wrap (c - 48) = c - 48 := IntWalk.u8_in _ (by omega)
            go_wp2_with fail
            go_region
            go_wp2_with fail
            go_roundw
            case rel =>
              refine ⟨6, by omega, by rfl, by rfl, ?_, ?_, ?_⟩
              · exact (Below.setCell HB.out (Nat.le_refl _) _).trans ((ext_drewN _ 1).mono (by have := HB.out.size; simpa using this))
              · exact fun q hq => if e : q = 5 then e ▸ HOj.out else HO.out q (by omega)
              · show Blk _ _ _ _
                rw [HS.out]
                exact blk_ext (HK.out.set 1 (.int .i64 (y * 10 + (c - 48)))) (ext_drewN _ 1)
            case measure => simp [intOf]
      · have hjc : ¬ (5 : Int) < (s.length : Int) := by omega
        have HOj := Lib.hid (okb_none hj)
        go_wp2_with fail
        go_region
        go_wp2_with fail
        go_ret2
        have hN := Blk.new wr 85 [.int .i64 5, sentV (A 0)]
        exact ⟨(1, 5, 0), faultV wr.heap.size, .inl ⟨5, ⟨by omega, HO.out, HOj.out⟩, rfl⟩, rfl, .inr ⟨0, by omega, rfl, _, rfl, cell_below (ext_drewN _ 1) (hN.cell 0 rfl), cell_below (ext_drewN _ 1) (hN.cell 1 rfl)⟩, ext_trans HB.out (ext_trans (ext_alloc wr _) (ext_drewN _ 1))⟩
    · skip
      have ht9 : u9 = Value.int .i64 6 := hs9
      have ht5 : u5 = Value.int .i64 1 := hs5
      clear hs9 hs5
      subst ht9 ht5
      by_cases hj : 6 < s.length
      · have hjc : (6 : Int) < (s.length : Int) := by omega
        have hsz : 6 < (ByteArray.mk s.toArray).size := hj
        obtain ⟨c, hc⟩ : ∃ c : Int, (((ByteArray.mk s.toArray)[6]'hsz).toNat : Int) = c := ⟨_, rfl⟩
        have hc' : (s[6].toNat : Int) = c := hc
        have hf : ((((ByteArray.mk #[48, 48, 48, 48, 45, 48, 48, 45, 48, 48])[6]'(by decide)).toNat : Nat) : Int) = 48 := rfl
        have HOk := Lib.hid (okb_digit hj (by omega) (by omega))
        have HOb := Lib.hid (show OkB s 6 ↔ 48 ≤ c ∧ c ≤ 57 by rw [HOk.out]; omega)
        have HDg := Lib.hid (show dgt s 6 = c - 48 by rw [dgt_at hj, hc'])
        clear hc' HOk
        by_cases hb : c < 48
        · have HOj := Lib.hid (show ¬ OkB s 6 from fun h => by have := HOb.out.1 h; omega)
          go_wp2_with fail
          go_region
          go_wp2_with fail
          go_ret2
          have hN := Blk.new wr 85 [.int .i64 6, sentV (A 0)]
          exact ⟨(1, 6, 0), faultV wr.heap.size, .inl ⟨6, ⟨by omega, HO.out, HOj.out⟩, rfl⟩, rfl, .inr ⟨0, by omega, rfl, _, rfl, cell_below (ext_drewN _ 1) (hN.cell 0 rfl), cell_below (ext_drewN _ 1) (hN.cell 1 rfl)⟩, ext_trans HB.out (ext_trans (ext_alloc wr _) (ext_drewN _ 1))⟩
        · by_cases hd : 57 < c
          · have HOj := Lib.hid (show ¬ OkB s 6 from fun h => by have := HOb.out.1 h; omega)
            go_wp2_with fail
            go_region
            go_wp2_with fail
            go_ret2
            have hN := Blk.new wr 85 [.int .i64 6, sentV (A 0)]
            exact ⟨(1, 6, 0), faultV wr.heap.size, .inl ⟨6, ⟨by omega, HO.out, HOj.out⟩, rfl⟩, rfl, .inr ⟨0, by omega, rfl, _, rfl, cell_below (ext_drewN _ 1) (hN.cell 0 rfl), cell_below (ext_drewN _ 1) (hN.cell 1 rfl)⟩, ext_trans HB.out (ext_trans (ext_alloc wr _) (ext_drewN _ 1))⟩
          · have HOj := Lib.hid (HOb.out.2 (by omega))
            obtain ⟨⟨b1, b2⟩, ⟨b3, b4⟩, ⟨b5, b6⟩⟩ := st_bd 6 HO.out
            have HS := Lib.hid (st_b s 6 (by omega))
            obtain ⟨X, hX⟩ : ∃ X, X = st s 6 := ⟨_, rfl⟩
            rw [← hX] at HS HK b1 b2 b3 b4 b5 b6
            clear hX
            rw [HDg.out] at HS
            obtain ⟨x, y, z⟩ := X
            simp only at HK b1 b2 b3 b4 b5 b6
            have b2 : x < 1000000 := b2
            have b4 : y < 1000000 := b4
            have b6 : z < 1000000 := b6
            have x0 := HK.out.cell 0 rfl
            have x1 := HK.out.cell 1 rfl
            have x2 := HK.out.cell 2 rfl
            have f0 := HK.out.free 0
            have f1 := HK.out.free 1
            have f2 := HK.out.free 2
            have hu : IntKind.u8.wrap (c - 48) = c - 48 := IntWalk.u8_in _ (by omega)
            go_wp2_with fail
            go_region
            go_wp2_with fail
            go_roundw
            case rel =>
              refine ⟨7, by omega, by rfl, by rfl, ?_, ?_, ?_⟩
              · exact (Below.setCell HB.out (Nat.le_refl _) _).trans ((ext_drewN _ 1).mono (by have := HB.out.size; simpa using this))
              · exact fun q hq => if e : q = 6 then e ▸ HOj.out else HO.out q (by omega)
              · show Blk _ _ _ _
                rw [HS.out]
                exact blk_ext (HK.out.set 1 (.int .i64 (y * 10 + (c - 48)))) (ext_drewN _ 1)
            case measure => simp [intOf]
      · have hjc : ¬ (6 : Int) < (s.length : Int) := by omega
        have HOj := Lib.hid (okb_none hj)
        go_wp2_with fail
        go_region
        go_wp2_with fail
        go_ret2
        have hN := Blk.new wr 85 [.int .i64 6, sentV (A 0)]
        exact ⟨(1, 6, 0), faultV wr.heap.size, .inl ⟨6, ⟨by omega, HO.out, HOj.out⟩, rfl⟩, rfl, .inr ⟨0, by omega, rfl, _, rfl, cell_below (ext_drewN _ 1) (hN.cell 0 rfl), cell_below (ext_drewN _ 1) (hN.cell 1 rfl)⟩, ext_trans HB.out (ext_trans (ext_alloc wr _) (ext_drewN _ 1))⟩
    · skip
      have ht9 : u9 = Value.int .i64 7 := hs9
      have ht5 : u5 = Value.int .i64 1 := hs5
      clear hs9 hs5
      subst ht9 ht5
      by_cases hj : 7 < s.length
      · have hjc : (7 : Int) < (s.length : Int) := by omega
        have hsz : 7 < (ByteArray.mk s.toArray).size := hj
        obtain ⟨c, hc⟩ : ∃ c : Int, (((ByteArray.mk s.toArray)[7]'hsz).toNat : Int) = c := ⟨_, rfl⟩
        have hc' : (s[7].toNat : Int) = c := hc
        have hf : ((((ByteArray.mk #[48, 48, 48, 48, 45, 48, 48, 45, 48, 48])[7]'(by decide)).toNat : Nat) : Int) = 45 := rfl
        have HOk := Lib.hid (okb_bar hj (show 7 = 4 ∨ 7 = 7 by omega))
        have HOb := Lib.hid (show OkB s 7 ↔ c = 45 by rw [HOk.out]; omega)
        clear hc' HOk
        by_cases hb : c = 45
        · have HOj := Lib.hid (HOb.out.2 hb)
          subst hb
          go_wp2_with fail
          go_roundw
          case rel =>
            refine ⟨8, by omega, by rfl, by rfl, HB.out, ?_, ?_⟩
            · exact fun q hq => if e : q = 7 then e ▸ HOj.out else HO.out q (by omega)
            · show Blk _ _ _ _
              rw [st_bar s 7 (by omega)]
              exact HK.out
          case measure => simp [intOf]
        · have HOj := Lib.hid (fun h => hb (HOb.out.1 h))
          have hq : (c == 45) = false := by rw [beq_eq_false_iff_ne]; exact hb
          go_wp2_with fail
          go_region
          go_wp2_with fail
          go_ret2
          have hN := Blk.new wr 85 [.int .i64 7, sentV (A 0)]
          exact ⟨(1, 7, 0), faultV wr.heap.size, .inl ⟨7, ⟨by omega, HO.out, HOj.out⟩, rfl⟩, rfl, .inr ⟨0, by omega, rfl, _, rfl, cell_below (ext_drewN _ 1) (hN.cell 0 rfl), cell_below (ext_drewN _ 1) (hN.cell 1 rfl)⟩, ext_trans HB.out (ext_trans (ext_alloc wr _) (ext_drewN _ 1))⟩
      · have hjc : ¬ (7 : Int) < (s.length : Int) := by omega
        have HOj := Lib.hid (okb_none hj)
        go_wp2_with fail
        go_region
        go_wp2_with fail
        go_ret2
        have hN := Blk.new wr 85 [.int .i64 7, sentV (A 0)]
        exact ⟨(1, 7, 0), faultV wr.heap.size, .inl ⟨7, ⟨by omega, HO.out, HOj.out⟩, rfl⟩, rfl, .inr ⟨0, by omega, rfl, _, rfl, cell_below (ext_drewN _ 1) (hN.cell 0 rfl), cell_below (ext_drewN _ 1) (hN.cell 1 rfl)⟩, ext_trans HB.out (ext_trans (ext_alloc wr _) (ext_drewN _ 1))⟩
    · skip
      have ht9 : u9 = Value.int .i64 8 := hs9
      have ht5 : u5 = Value.int .i64 2 := hs5
      clear hs9 hs5
      subst ht9 ht5
      by_cases hj : 8 < s.length
      · have hjc : (8 : Int) < (s.length : Int) := by omega
        have hsz : 8 < (ByteArray.mk s.toArray).size := hj
        obtain ⟨c, hc⟩ : ∃ c : Int, (((ByteArray.mk s.toArray)[8]'hsz).toNat : Int) = c := ⟨_, rfl⟩
        have hc' : (s[8].toNat : Int) = c := hc
        have hf : ((((ByteArray.mk #[48, 48, 48, 48, 45, 48, 48, 45, 48, 48])[8]'(by decide)).toNat : Nat) : Int) = 48 := rfl
        have HOk := Lib.hid (okb_digit hj (by omega) (by omega))
        have HOb := Lib.hid (show OkB s 8 ↔ 48 ≤ c ∧ c ≤ 57 by rw [HOk.out]; omega)
        have HDg := Lib.hid (show dgt s 8 = c - 48 by rw [dgt_at hj, hc'])
        clear hc' HOk
        by_cases hb : c < 48
        · have HOj := Lib.hid (show ¬ OkB s 8 from fun h => by have := HOb.out.1 h; omega)
          go_wp2_with fail
          go_region
          go_wp2_with fail
          go_ret2
          have hN := Blk.new wr 85 [.int .i64 8, sentV (A 0)]
          exact ⟨(1, 8, 0), faultV wr.heap.size, .inl ⟨8, ⟨by omega, HO.out, HOj.out⟩, rfl⟩, rfl, .inr ⟨0, by omega, rfl, _, rfl, cell_below (ext_drewN _ 1) (hN.cell 0 rfl), cell_below (ext_drewN _ 1) (hN.cell 1 rfl)⟩, ext_trans HB.out (ext_trans (ext_alloc wr _) (ext_drewN _ 1))⟩
        · by_cases hd : 57 < c
          · have HOj := Lib.hid (show ¬ OkB s 8 from fun h => by have := HOb.out.1 h; omega)
            go_wp2_with fail
            go_region
            go_wp2_with fail
            go_ret2
            have hN := Blk.new wr 85 [.int .i64 8, sentV (A 0)]
            exact ⟨(1, 8, 0), faultV wr.heap.size, .inl ⟨8, ⟨by omega, HO.out, HOj.out⟩, rfl⟩, rfl, .inr ⟨0, by omega, rfl, _, rfl, cell_below (ext_drewN _ 1) (hN.cell 0 rfl), cell_below (ext_drewN _ 1) (hN.cell 1 rfl)⟩, ext_trans HB.out (ext_trans (ext_alloc wr _) (ext_drewN _ 1))⟩
          · have HOj := Lib.hid (HOb.out.2 (by omega))
            obtain ⟨⟨b1, b2⟩, ⟨b3, b4⟩, ⟨b5, b6⟩⟩ := st_bd 8 HO.out
            have HS := Lib.hid (st_c s 8 (by omega))
            obtain ⟨X, hX⟩ : ∃ X, X = st s 8 := ⟨_, rfl⟩
            rw [← hX] at HS HK b1 b2 b3 b4 b5 b6
            clear hX
            rw [HDg.out] at HS
            obtain ⟨x, y, z⟩ := X
            simp only at HK b1 b2 b3 b4 b5 b6
            have b2 : x < 100000000 := b2
            have b4 : y < 100000000 := b4
            have b6 : z < 100000000 := b6
            have x0 := HK.out.cell 0 rfl
            have x1 := HK.out.cell 1 rfl
            have x2 := HK.out.cell 2 rfl
            have f0 := HK.out.free 0
            have f1 := HK.out.free 1
            have f2 := HK.out.free 2
            have hu : IntKind.u8.wrap (c - 48) = c - 48 := IntWalk.u8_in _ (by omega)
            go_wp2_with fail
            go_region
            go_wp2_with fail
            go_roundw
            case rel =>
              refine ⟨9, by omega, by rfl, by rfl, ?_, ?_, ?_⟩
              · exact (Below.setCell HB.out (Nat.le_refl _) _).trans ((ext_drewN _ 1).mono (by have := HB.out.size; simpa using this))
              · exact fun q hq => if e : q = 8 then e ▸ HOj.out else HO.out q (by omega)
              · show Blk _ _ _ _
                rw [HS.out]
                exact blk_ext (HK.out.set 2 (.int .i64 (z * 10 + (c - 48)))) (ext_drewN _ 1)
            case measure => simp [intOf]
      · have hjc : ¬ (8 : Int) < (s.length : Int) := by omega
        have HOj := Lib.hid (okb_none hj)
        go_wp2_with fail
        go_region
        go_wp2_with fail
        go_ret2
        have hN := Blk.new wr 85 [.int .i64 8, sentV (A 0)]
        exact ⟨(1, 8, 0), faultV wr.heap.size, .inl ⟨8, ⟨by omega, HO.out, HOj.out⟩, rfl⟩, rfl, .inr ⟨0, by omega, rfl, _, rfl, cell_below (ext_drewN _ 1) (hN.cell 0 rfl), cell_below (ext_drewN _ 1) (hN.cell 1 rfl)⟩, ext_trans HB.out (ext_trans (ext_alloc wr _) (ext_drewN _ 1))⟩
    · skip
      have ht9 : u9 = Value.int .i64 9 := hs9
      have ht5 : u5 = Value.int .i64 2 := hs5
      clear hs9 hs5
      subst ht9 ht5
      by_cases hj : 9 < s.length
      · have hjc : (9 : Int) < (s.length : Int) := by omega
        have hsz : 9 < (ByteArray.mk s.toArray).size := hj
        obtain ⟨c, hc⟩ : ∃ c : Int, (((ByteArray.mk s.toArray)[9]'hsz).toNat : Int) = c := ⟨_, rfl⟩
        have hc' : (s[9].toNat : Int) = c := hc
        have hf : ((((ByteArray.mk #[48, 48, 48, 48, 45, 48, 48, 45, 48, 48])[9]'(by decide)).toNat : Nat) : Int) = 48 := rfl
        have HOk := Lib.hid (okb_digit hj (by omega) (by omega))
        have HOb := Lib.hid (show OkB s 9 ↔ 48 ≤ c ∧ c ≤ 57 by rw [HOk.out]; omega)
        have HDg := Lib.hid (show dgt s 9 = c - 48 by rw [dgt_at hj, hc'])
        clear hc' HOk
        by_cases hb : c < 48
        · have HOj := Lib.hid (show ¬ OkB s 9 from fun h => by have := HOb.out.1 h; omega)
          go_wp2_with fail
          go_region
          go_wp2_with fail
          go_ret2
          have hN := Blk.new wr 85 [.int .i64 9, sentV (A 0)]
          exact ⟨(1, 9, 0), faultV wr.heap.size, .inl ⟨9, ⟨by omega, HO.out, HOj.out⟩, rfl⟩, rfl, .inr ⟨0, by omega, rfl, _, rfl, cell_below (ext_drewN _ 1) (hN.cell 0 rfl), cell_below (ext_drewN _ 1) (hN.cell 1 rfl)⟩, ext_trans HB.out (ext_trans (ext_alloc wr _) (ext_drewN _ 1))⟩
        · by_cases hd : 57 < c
          · have HOj := Lib.hid (show ¬ OkB s 9 from fun h => by have := HOb.out.1 h; omega)
            go_wp2_with fail
            go_region
            go_wp2_with fail
            go_ret2
            have hN := Blk.new wr 85 [.int .i64 9, sentV (A 0)]
            exact ⟨(1, 9, 0), faultV wr.heap.size, .inl ⟨9, ⟨by omega, HO.out, HOj.out⟩, rfl⟩, rfl, .inr ⟨0, by omega, rfl, _, rfl, cell_below (ext_drewN _ 1) (hN.cell 0 rfl), cell_below (ext_drewN _ 1) (hN.cell 1 rfl)⟩, ext_trans HB.out (ext_trans (ext_alloc wr _) (ext_drewN _ 1))⟩
          · have HOj := Lib.hid (HOb.out.2 (by omega))
            obtain ⟨⟨b1, b2⟩, ⟨b3, b4⟩, ⟨b5, b6⟩⟩ := st_bd 9 HO.out
            have HS := Lib.hid (st_c s 9 (by omega))
            obtain ⟨X, hX⟩ : ∃ X, X = st s 9 := ⟨_, rfl⟩
            rw [← hX] at HS HK b1 b2 b3 b4 b5 b6
            clear hX
            rw [HDg.out] at HS
            obtain ⟨x, y, z⟩ := X
            simp only at HK b1 b2 b3 b4 b5 b6
            have b2 : x < 1000000000 := b2
            have b4 : y < 1000000000 := b4
            have b6 : z < 1000000000 := b6
            have x0 := HK.out.cell 0 rfl
            have x1 := HK.out.cell 1 rfl
            have x2 := HK.out.cell 2 rfl
            have f0 := HK.out.free 0
            have f1 := HK.out.free 1
            have f2 := HK.out.free 2
            have hu : IntKind.u8.wrap (c - 48) = c - 48 := IntWalk.u8_in _ (by omega)
            go_wp2_with fail
            go_region
            go_wp2_with fail
            go_roundw
            case rel =>
              refine ⟨10, by omega, by rfl, by rfl, ?_, ?_, ?_⟩
              · exact (Below.setCell HB.out (Nat.le_refl _) _).trans ((ext_drewN _ 1).mono (by have := HB.out.size; simpa using this))
              · exact fun q hq => if e : q = 9 then e ▸ HOj.out else HO.out q (by omega)
              · show Blk _ _ _ _
                rw [HS.out]
                exact blk_ext (HK.out.set 2 (.int .i64 (z * 10 + (c - 48)))) (ext_drewN _ 1)
            case measure => simp [intOf]
      · have hjc : ¬ (9 : Int) < (s.length : Int) := by omega
        have HOj := Lib.hid (okb_none hj)
        go_wp2_with fail
        go_region
        go_wp2_with fail
        go_ret2
        have hN := Blk.new wr 85 [.int .i64 9, sentV (A 0)]
        exact ⟨(1, 9, 0), faultV wr.heap.size, .inl ⟨9, ⟨by omega, HO.out, HOj.out⟩, rfl⟩, rfl, .inr ⟨0, by omega, rfl, _, rfl, cell_below (ext_drewN _ 1) (hN.cell 0 rfl), cell_below (ext_drewN _ 1) (hN.cell 1 rfl)⟩, ext_trans HB.out (ext_trans (ext_alloc wr _) (ext_drewN _ 1))⟩
    · skip
      have ht9 : u9 = Value.int .i64 10 := hs9
      have ht5 : u5 = Value.int .i64 2 := hs5
      clear hs9 hs5
      subst ht9 ht5
      have HF := Lib.hid (show Fits s from HO.out)
      have g3 := cell_below HB.out HE.out.v3
      have hlen := HF.out.len
      by_cases hl10 : 10 < s.length
      · have hl10c : (10 : Int) < (s.length : Int) := by omega
        go_wp2_with fail
        go_region
        go_wp2_with fail
        go_ret2
        have hN := Blk.new wr 85 [.int .i64 10, sentV (A 0)]
        exact ⟨(1, 10, 0), faultV wr.heap.size, .inr (.inl ⟨HF.out, hl10, rfl⟩), rfl, .inr ⟨0, by omega, rfl, _, rfl, cell_below (ext_drewN _ 1) (hN.cell 0 rfl), cell_below (ext_drewN _ 1) (hN.cell 1 rfl)⟩, ext_trans HB.out (ext_trans (ext_alloc wr _) (ext_drewN _ 1))⟩
      · have hl10c : ¬ (10 : Int) < (s.length : Int) := by omega
        have hlen2 : s.length = 10 := by omega
        have HL := Lib.hid hlen2
        clear hlen2 hlen
        have x0 := HK.out.cell 0 rfl
        have x1 := HK.out.cell 1 rfl
        have x2 := HK.out.cell 2 rfl
        by_cases hV : Vld (st s 10).1 (st s 10).2.1 (st s 10).2.2
        · have HV := Lib.hid hV
          clear hV
          go_wp2_with fail
          refine (of_yes _ _ _ HV.out _).mono ?_
          rintro e w' ⟨rfl, rfl⟩
          go_wp2_with fail
          go_ret2
          exact ⟨(0, -1, _), _, .inr (.inr (.inr ⟨HF.out, HL.out, HV.out, rfl⟩)), rfl, .inl ⟨rfl, rfl⟩, HB.out⟩
        · have HV := Lib.hid hV
          clear hV
          go_wp2_with fail
          refine (of_no _ _ _ HV.out (sentV (A 3)) _ g3).mono ?_
          rintro e w' ⟨rfl, n, rfl⟩
          unfold sentV
          go_wp2_with fail
          go_ret2
          have hN := Blk.new (wr.drewN n) 85 [.int .i64 0, sentV (A 3)]
          exact ⟨(4, 0, 0), faultV wr.heap.size, .inr (.inr (.inl ⟨HF.out, HL.out, HV.out, rfl⟩)), rfl, .inr ⟨3, by omega, rfl, _, rfl, hN.cell 0 rfl, hN.cell 1 rfl⟩, ext_trans HB.out (ext_trans (ext_drewN wr n) (ext_alloc _ _))⟩
end Go.Proofs.YtdfajigepchccaaDoor.Rd

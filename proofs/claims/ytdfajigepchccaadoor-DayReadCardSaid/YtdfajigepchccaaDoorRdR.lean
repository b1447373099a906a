/- A day read from a text: the document's side. -/
import Derived.Test.YtdfajigepchccaaDoorRdW
import Derived.Test.YtdfajigepchccaaDoorRefDay2
import Derived.Deep.RegionHeld3
namespace Go.Proofs.YtdfajigepchccaaDoor.Rd
open Go.RowKit Mem Nest Cal Day

theorem blk_other {w : World} {B : Nat} {T : TypeId} {cs : List Value} (h : Blk w B T cs) {a : Addr} (ha : B ≠ a.block) (v : Value) : Blk (w.setCell a v) B T cs := by
  unfold Blk at h ⊢
  simp [World.setCell, Array.getElem?_modify, h, Ne.symm ha]
def InB (a b n : Int) (w : World) (e : Ending) (w' : World) : Prop := ∃ r : Bool, e = .returned (.bool r) ∧ w' = w ∧ (r = true ↔ a ≤ n ∧ n ≤ b)
theorem rdig_any (n : Int) (w : World) : Calls Tryd.prog 47 #[.int .u8 n] w (InB 48 57 n w) := by
  by_cases h1 : 48 ≤ n
  · by_cases h2 : n ≤ 57
    · go_enter Tryd.func47, Tryd.ntmps47
      go_wp2_with fail
      go_ret
      exact ⟨_, rfl, rfl, by simp [h1, h2]⟩
    · go_enter Tryd.func47, Tryd.ntmps47
      go_wp2_with fail
      go_ret
      exact ⟨_, rfl, rfl, by simp; omega⟩
  · go_enter Tryd.func47, Tryd.ntmps47
    go_wp2_with fail
    go_ret
    exact ⟨_, rfl, rfl, by simp; omega⟩
/-- the document's world: its answer's place, and the three numbers -/
def RW (w wr : World) (x y z : Int) : Prop :=
  Blk wr w.heap.size 36 [.int .i64 0, .int .i64 0] ∧ Blk wr (w.heap.size + 1) 3 [.int .i64 x, .int .i64 y, .int .i64 z] ∧ Below w.heap.size w wr
theorem RW.ext {w wr wn : World} {x y z : Int} (h : RW w wr x y z) (hb : Below wr.heap.size wr wn) : RW w wn x y z := ⟨blk_ext h.1 hb, blk_ext h.2.1 hb, ext_trans h.2.2 hb⟩
theorem RW.set {w wr : World} {x y z : Int} (h : RW w wr x y z) (k : Nat) (v : Int) :
    Blk (wr.setCell ⟨w.heap.size + 1, k, none⟩ (.int .i64 v)) w.heap.size 36 [.int .i64 0, .int .i64 0] ∧ Blk (wr.setCell ⟨w.heap.size + 1, k, none⟩ (.int .i64 v)) (w.heap.size + 1) 3 ([.int .i64 x, .int .i64 y, .int .i64 z].set k (.int .i64 v)) ∧ Below w.heap.size w (wr.setCell ⟨w.heap.size + 1, k, none⟩ (.int .i64 v)) :=
  ⟨blk_other h.1 (by simp) _, h.2.1.set k _, h.2.2.setCell (by simp) _⟩
theorem rw_ret {w wr : World} {x y z : Int} (h : RW w wr x y z) (c a : Int) :
    ((wr.setCell ⟨w.heap.size, 0, none⟩ (.int .i64 c)).setCell ⟨w.heap.size, 1, none⟩ (.int .i64 a)).cell? ⟨w.heap.size, 0, none⟩ = some (.int .i64 c) ∧
    ((wr.setCell ⟨w.heap.size, 0, none⟩ (.int .i64 c)).setCell ⟨w.heap.size, 1, none⟩ (.int .i64 a)).cell? ⟨w.heap.size, 1, none⟩ = some (.int .i64 a) ∧
    Below w.heap.size w ((wr.setCell ⟨w.heap.size, 0, none⟩ (.int .i64 c)).setCell ⟨w.heap.size, 1, none⟩ (.int .i64 a)) := by
  have hb := (h.1.set 0 (.int .i64 c)).set 1 (.int .i64 a)
  exact ⟨hb.cell 0 rfl, hb.cell 1 rfl, (h.2.2.setCell (by simp) _).setCell (by simp) _⟩
def RReadPost (s : List UInt8) (w : World) (e : Ending) (w' : World) : Prop := ∃ o, OutP s o ∧ e = .returned (.tuple #[.int .i64 o.2.2, .agg #[.int .i64 o.1, .int .i64 o.2.1]]) ∧ Below w.heap.size w w'
theorem pow9 : ∀ k : Nat, k < 10 → (10 : Int) ^ k ≤ 1000000000 := by decide
theorem kk_lt {k : Nat} (h : k < 4) : kk k = 0 ∧ kk (k + 1) = 0 := by unfold kk; omega
theorem kk_b {k : Nat} (h : 4 < k ∧ k < 7) : kk k = 1 ∧ kk (k + 1) = 1 := by unfold kk; omega
theorem kk_c {k : Nat} (h : 7 < k) : kk k = 2 ∧ kk (k + 1) = 2 := by unfold kk; omega
set_option maxRecDepth 100000 in
set_option maxHeartbeats 8000000 in
theorem rread_any (s : List UInt8) (w : World) (hl : s.length ≤ 9223372036854775807) :
    Calls Tryd.prog 18 #[.string ⟨s.toArray⟩] w (RReadPost s w) := by
  have b2 := Blk.new w 36 [.int .i64 0, .int .i64 0]
  have hx1 := ext_alloc w (.cells #[.int .i64 0, .int .i64 0] 36)
  have hx2 := ext_alloc (w.alloc (.cells #[.int .i64 0, .int .i64 0] 36)) (.cells #[.int .i64 0, .int .i64 0, .int .i64 0] 3)
  have b4 : Blk ((w.alloc (.cells #[.int .i64 0, .int .i64 0] 36)).alloc (.cells #[.int .i64 0, .int .i64 0, .int .i64 0] 3)) (w.heap.size + 1) 3 [.int .i64 0, .int .i64 0, .int .i64 0] := by simpa using Blk.new (w.alloc (.cells #[.int .i64 0, .int .i64 0] 36)) 3 [.int .i64 0, .int .i64 0, .int .i64 0]
  have h0 : RW w ((w.alloc (.cells #[.int .i64 0, .int .i64 0] 36)).alloc (.cells #[.int .i64 0, .int .i64 0, .int .i64 0] 3)) 0 0 0 := ⟨blk_ext b2 hx2, b4, ext_trans hx1 hx2⟩
  have HL0 := Lib.hid h0
  clear b2 b4 hx1 hx2 h0
  go_enter Tryd.func18, Tryd.ntmps18
  go_wp2_with fail
  go_loopw [5, 6] (fun s5 s6 wr => ∃ k : Nat, k ≤ 10 ∧ s5 = .int .i64 (kk k) ∧ s6 = .int .i64 k ∧ Hid (∀ j, j < k → OkB s j) ∧ Hid (RW w wr (st s k).1 (st s k).2.1 (st s k).2.2)) (fun _ s6 _ => 10 - (intOf s6).toNat)
  case atStart => exact ⟨0, Nat.zero_le _, rfl, rfl, fun j hj => absurd hj (by omega), HL0.out⟩
  case round =>
    clear HL0
    obtain ⟨k, hk, hs5, rfl, HO, HL⟩ := hrel
    have z0 := HL.out.1.cell 0 rfl
    have z1 := HL.out.1.cell 1 rfl
    have f0 := HL.out.1.free 0
    have f1 := HL.out.1.free 1
    have x0 := HL.out.2.1.cell 0 rfl
    have x1 := HL.out.2.1.cell 1 rfl
    have x2 := HL.out.2.1.cell 2 rfl
    have e0 := HL.out.2.1.free 0
    have e1 := HL.out.2.1.free 1
    have e2 := HL.out.2.1.free 2
    by_cases hk10 : k < 10
    · by_cases hj : k < s.length
      · have hcl : (k : Int) < (s.length : Int) := by omega
        have hck : (k : Int) < 10 := by omega
        have hsz : k < (ByteArray.mk s.toArray).size := hj
        obtain ⟨c, hc⟩ : ∃ c : Int, (((ByteArray.mk s.toArray)[k]'hsz).toNat : Int) = c := ⟨_, rfl⟩
        have hc' : (s[k].toNat : Int) = c := hc
        go_wp2_with fail
        refine (rdig_any _ _).mono ?_
        rintro e w' ⟨gd, rfl, hw', hgd⟩
        subst hw'
        have HGD := Lib.hid hgd
        clear hgd
        by_cases hm : k = 4 ∨ k = 7
        · have HOk := Lib.hid (okb_bar hj hm)
          have HOb := Lib.hid (show OkB s k ↔ c = 45 by rw [HOk.out]; omega)
          have HK := Lib.hid (show kk (k + 1) = kk k + 1 by rcases hm with rfl | rfl <;> rfl)
          have HST := Lib.hid (st_bar s k hm)
          have hkb : 0 ≤ kk k ∧ kk k ≤ 2 := by unfold kk; omega
          obtain ⟨K, hK⟩ : ∃ K, K = kk k := ⟨_, rfl⟩
          rw [← hK] at hs5 HK hkb
          clear hK
          obtain ⟨kb1, kb2⟩ := hkb
          subst hs5
          rcases hm with rfl | rfl
          · by_cases hb : c = 45
            · have HOj := Lib.hid (HOb.out.2 hb)
              have hq : (c != 45) = false := by simp [hb]
              go_wp2_with fail
              go_roundw
              case rel => exact ⟨5, by omega, by rw [HK.out], by rfl, fun q hq => if e : q = 4 then e ▸ HOj.out else HO.out q (by omega), by rw [HST.out]; exact HL.out⟩
              case measure => simp [intOf]
            · have HOj := Lib.hid (fun h => hb (HOb.out.1 h))
              have hq : (c != 45) = true := by simp [hb]
              have hr := rw_ret HL.out (1) (4)
              have s0 := hr.1
              have s1 := hr.2.1
              have HB := Lib.hid hr.2.2
              clear hr
              go_wp2_with fail
              refine bodyPost_ret (v := .tuple #[.int .i64 (0), .agg #[.int .i64 (1), .int .i64 (4)]]) (by simp [results, Tryd.results18, go_sem, s0, s1]) rfl ?_
              exact ⟨(1, 4, 0), .inl ⟨4, ⟨by omega, HO.out, HOj.out⟩, rfl⟩, rfl, HB.out⟩
          · by_cases hb : c = 45
            · have HOj := Lib.hid (HOb.out.2 hb)
              have hq : (c != 45) = false := by simp [hb]
              go_wp2_with fail
              go_roundw
              case rel => exact ⟨8, by omega, by rw [HK.out], by rfl, fun q hq => if e : q = 7 then e ▸ HOj.out else HO.out q (by omega), by rw [HST.out]; exact HL.out⟩
              case measure => simp [intOf]
            · have HOj := Lib.hid (fun h => hb (HOb.out.1 h))
              have hq : (c != 45) = true := by simp [hb]
              have hr := rw_ret HL.out (1) (7)
              have s0 := hr.1
              have s1 := hr.2.1
              have HB := Lib.hid hr.2.2
              clear hr
              go_wp2_with fail
              refine bodyPost_ret (v := .tuple #[.int .i64 (0), .agg #[.int .i64 (1), .int .i64 (7)]]) (by simp [results, Tryd.results18, go_sem, s0, s1]) rfl ?_
              exact ⟨(1, 7, 0), .inl ⟨7, ⟨by omega, HO.out, HOj.out⟩, rfl⟩, rfl, HB.out⟩
        · have n4 : k ≠ 4 := fun e => hm (.inl e)
          have n7 : k ≠ 7 := fun e => hm (.inr e)
          have HOk := Lib.hid (okb_digit hj n4 n7)
          have HOb := Lib.hid (show OkB s k ↔ 48 ≤ c ∧ c ≤ 57 by rw [HOk.out]; omega)
          have HDg := Lib.hid (show dgt s k = c - 48 by rw [dgt_at hj, hc'])
          have q4 : ((k : Int) == 4) = false := by rw [beq_eq_false_iff_ne]; omega
          have q7 : ((k : Int) == 7) = false := by rw [beq_eq_false_iff_ne]; omega
          clear hc' HOk
          cases gd
          · have HOj := Lib.hid (show ¬ OkB s k from fun h => by have := HGD.out.2 (HOb.out.1 h); cases this)
            have hr := rw_ret HL.out (1) ((k : Int))
            have s0 := hr.1
            have s1 := hr.2.1
            have HB := Lib.hid hr.2.2
            clear hr
            go_wp2_with fail
            refine bodyPost_ret (v := .tuple #[.int .i64 (0), .agg #[.int .i64 (1), .int .i64 ((k : Int))]]) (by simp [results, Tryd.results18, go_sem, s0, s1]) rfl ?_
            exact ⟨(1, (k : Int), 0), .inl ⟨k, ⟨by omega, HO.out, HOj.out⟩, rfl⟩, rfl, HB.out⟩
          · have hcb := HGD.out.1 rfl
            obtain ⟨cb1, cb2⟩ := hcb
            have HOj := Lib.hid (HOb.out.2 (by omega))
            obtain ⟨⟨b1, b2⟩, ⟨b3, b4⟩, ⟨b5, b6⟩⟩ := st_bd k HO.out
            have hp : (10 : Int) ^ k ≤ 1000000000 := pow9 k hk10
            have hu : IntKind.u8.wrap (c - 48) = c - 48 := IntWalk.u8_in _ (by omega)
            rcases (show k < 4 ∨ (4 < k ∧ k < 7) ∨ 7 < k by omega) with hcl | hcl | hcl
            · skip
              have HS := Lib.hid (st_a s k hcl)
              have HK := Lib.hid (kk_lt hcl).2
              rw [(kk_lt hcl).1] at hs5
              subst hs5
              obtain ⟨X, hX⟩ : ∃ X, X = st s k := ⟨_, rfl⟩
              rw [← hX] at HS HL b1 b2 b3 b4 b5 b6 x0 x1 x2
              clear hX
              rw [HDg.out] at HS
              obtain ⟨x, y, z⟩ := X
              simp only at HL b1 b2 b3 b4 b5 b6 x0 x1 x2
              have b2 : x < 1000000000 := by omega
              have b4 : y < 1000000000 := by omega
              have b6 : z < 1000000000 := by omega
              clear hp
              go_wp2_with fail
              go_region
              go_wp2_with fail
              go_roundw
              case rel =>
                refine ⟨k + 1, by omega, by rw [HK.out], by go_num, fun q hq => if e : q = k then e ▸ HOj.out else HO.out q (by omega), ?_⟩
                have hn : RW w _ _ _ _ := HL.out.set 0 (x * 10 + (c - 48))
                rw [HS.out]
                exact hn.ext (ext_drewN _ 1)
              case measure => simp [intOf]; omega
            · skip
              have HS := Lib.hid (st_b s k hcl)
              have HK := Lib.hid (kk_b hcl).2
              rw [(kk_b hcl).1] at hs5
              subst hs5
              obtain ⟨X, hX⟩ : ∃ X, X = st s k := ⟨_, rfl⟩
              rw [← hX] at HS HL b1 b2 b3 b4 b5 b6 x0 x1 x2
              clear hX
              rw [HDg.out] at HS
              obtain ⟨x, y, z⟩ := X
              simp only at HL b1 b2 b3 b4 b5 b6 x0 x1 x2
              have b2 : x < 1000000000 := by omega
              have b4 : y < 1000000000 := by omega
              have b6 : z < 1000000000 := by omega
              clear hp
              go_wp2_with fail
              go_region
              go_wp2_with fail
              go_roundw
              case rel =>
                refine ⟨k + 1, by omega, by rw [HK.out], by go_num, fun q hq => if e : q = k then e ▸ HOj.out else HO.out q (by omega), ?_⟩
                have hn : RW w _ _ _ _ := HL.out.set 1 (y * 10 + (c - 48))
                rw [HS.out]
                exact hn.ext (ext_drewN _ 1)
              case measure => simp [intOf]; omega
            · skip
              have HS := Lib.hid (st_c s k hcl)
              have HK := Lib.hid (kk_c hcl).2
              rw [(kk_c hcl).1] at hs5
              subst hs5
              obtain ⟨X, hX⟩ : ∃ X, X = st s k := ⟨_, rfl⟩
              rw [← hX] at HS HL b1 b2 b3 b4 b5 b6 x0 x1 x2
              clear hX
              rw [HDg.out] at HS
              obtain ⟨x, y, z⟩ := X
              simp only at HL b1 b2 b3 b4 b5 b6 x0 x1 x2
              have b2 : x < 1000000000 := by omega
              have b4 : y < 1000000000 := by omega
              have b6 : z < 1000000000 := by omega
              clear hp
              go_wp2_with fail
              go_region
              go_wp2_with fail
              go_roundw
              case rel =>
                refine ⟨k + 1, by omega, by rw [HK.out], by go_num, fun q hq => if e : q = k then e ▸ HOj.out else HO.out q (by omega), ?_⟩
                have hn : RW w _ _ _ _ := HL.out.set 2 (z * 10 + (c - 48))
                rw [HS.out]
                exact hn.ext (ext_drewN _ 1)
              case measure => simp [intOf]; omega
      · have hcl : ¬ (k : Int) < (s.length : Int) := by omega
        have hck : (k : Int) < 10 := by omega
        have HOj := Lib.hid (okb_none hj)
        have hkl : k = s.length := by
          by_cases e : k = 0
          · omega
          · have := (HO.out (k - 1) (by omega)).1
            omega
        have HKL := Lib.hid (show (s.length : Int) = k by omega)
        clear hkl
        have hr := rw_ret HL.out (1) ((s.length : Int))
        have s0 := hr.1
        have s1 := hr.2.1
        have HB := Lib.hid hr.2.2
        clear hr
        go_wp2_with fail
        refine bodyPost_ret (v := .tuple #[.int .i64 (0), .agg #[.int .i64 (1), .int .i64 ((s.length : Int))]]) (by simp [results, Tryd.results18, go_sem, s0, s1]) rfl ?_
        exact ⟨(1, (s.length : Int), 0), .inl ⟨k, ⟨by omega, HO.out, HOj.out⟩, by rw [HKL.out]⟩, rfl, HB.out⟩
      
    · obtain rfl : k = 10 := by omega
      have HF := Lib.hid (show Fits s from HO.out)
      have hlen := HF.out.len
      by_cases hl10 : 10 < s.length
      · have hl10c : (10 : Int) < (s.length : Int) := by omega
        have hr := rw_ret HL.out (1) (10)
        have s0 := hr.1
        have s1 := hr.2.1
        have HB := Lib.hid hr.2.2
        clear hr
        go_wp2_with fail
        refine bodyPost_ret (v := .tuple #[.int .i64 (0), .agg #[.int .i64 (1), .int .i64 (10)]]) (by simp [results, Tryd.results18, go_sem, s0, s1]) rfl ?_
        exact ⟨(1, 10, 0), .inr (.inl ⟨HF.out, hl10, rfl⟩), rfl, HB.out⟩
      · have hl10c : ¬ (10 : Int) < (s.length : Int) := by omega
        have HLN := Lib.hid (show s.length = 10 by omega)
        obtain ⟨X, hX⟩ : ∃ X, X = st s 10 := ⟨_, rfl⟩
        rw [← hX] at HL x0 x1 x2
        have HX := Lib.hid hX
        clear hX
        obtain ⟨x, y, z⟩ := X
        simp only at HL x0 x1 x2
        by_cases hV : Vld x y z
        · have HV := Lib.hid hV
          clear hV
          go_wp2_with fail
          go_region_held3 (fun w' => w'.cell? ⟨w.heap.size + 1, 0, none⟩ = some (.int .i64 x) ∧ w'.cell? ⟨w.heap.size + 1, 1, none⟩ = some (.int .i64 y) ∧ w'.cell? ⟨w.heap.size + 1, 2, none⟩ = some (.int .i64 z))
            ((first | exact ⟨x0, x1, x2⟩ | exact ⟨cell_ext (ext_drewN wr 1) x0, cell_ext (ext_drewN wr 1) x1, cell_ext (ext_drewN wr 1) x2⟩ | exact ⟨HL3.out.2.1.cell 0 rfl, HL3.out.2.1.cell 1 rfl, HL3.out.2.1.cell 2 rfl⟩))
            ((go_at_call 48; refine (RefDay.dayof_yes _ _ _ HV.out _).mono ?_; rintro e w3 ⟨rfl, hb3⟩; have HL3 := Lib.hid ((show RW w wr.drew x y z from HL.out.ext (ext_drewN wr 1)).ext hb3); clear hb3))
          obtain ⟨D, hD⟩ : ∃ D, D = num x y z := ⟨_, rfl⟩
          rw [← hD]
          have HD := Lib.hid hD
          clear hD
          have hr := rw_ret HL3.out (0) (-1)
          have s0 := hr.1
          have s1 := hr.2.1
          have HB := Lib.hid hr.2.2
          clear hr
          have z0 := HL3.out.1.cell 0 rfl
          have z1 := HL3.out.1.cell 1 rfl
          have f0 := HL3.out.1.free 0
          have f1 := HL3.out.1.free 1
          go_wp2_with fail
          refine bodyPost_ret (v := .tuple #[.int .i64 (D), .agg #[.int .i64 (0), .int .i64 (-1)]]) (by simp [results, Tryd.results18, go_sem, s0, s1]) rfl ?_
          exact ⟨(0, -1, D), .inr (.inr (.inr ⟨HF.out, HLN.out, by rw [← HX.out]; exact HV.out, by rw [HD.out, ← HX.out]⟩)), rfl, HB.out⟩
        · have HV := Lib.hid hV
          clear hV
          go_wp2_with fail
          go_region_held3 (fun w' => w'.cell? ⟨w.heap.size + 1, 0, none⟩ = some (.int .i64 x) ∧ w'.cell? ⟨w.heap.size + 1, 1, none⟩ = some (.int .i64 y) ∧ w'.cell? ⟨w.heap.size + 1, 2, none⟩ = some (.int .i64 z))
            ((first | exact ⟨x0, x1, x2⟩ | exact ⟨cell_ext (ext_drewN wr 1) x0, cell_ext (ext_drewN wr 1) x1, cell_ext (ext_drewN wr 1) x2⟩ | exact ⟨HL3.out.2.1.cell 0 rfl, HL3.out.2.1.cell 1 rfl, HL3.out.2.1.cell 2 rfl⟩))
            ((go_at_call 48; refine (RefDay.dayof_no _ _ _ HV.out _).mono ?_; rintro e w3 ⟨rfl, hb3⟩; have HL3 := Lib.hid ((show RW w wr.drew x y z from HL.out.ext (ext_drewN wr 1)).ext hb3); clear hb3))
          have hr := rw_ret HL3.out (4) (0)
          have s0 := hr.1
          have s1 := hr.2.1
          have HB := Lib.hid hr.2.2
          clear hr
          have z0 := HL3.out.1.cell 0 rfl
          have z1 := HL3.out.1.cell 1 rfl
          have f0 := HL3.out.1.free 0
          have f1 := HL3.out.1.free 1
          go_wp2_with fail
          refine bodyPost_ret (v := .tuple #[.int .i64 (0), .agg #[.int .i64 (4), .int .i64 (0)]]) (by simp [results, Tryd.results18, go_sem, s0, s1]) rfl ?_
          exact ⟨(4, 0, 0), .inr (.inr (.inl ⟨HF.out, HLN.out, by rw [← HX.out]; exact HV.out, rfl⟩)), rfl, HB.out⟩
end Go.Proofs.YtdfajigepchccaaDoor.Rd

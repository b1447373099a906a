/- The document's labels: LabelOf walked. -/
import Derived.Test.YtflklbhgjfonbaaGreatDoorLabW
import Derived.Test.YtflklbhgjfonbaaGreatDoorNest
import Derived.OwnWalk
import Derived.Deep.DeepCutAuto
import Derived.Deep.RegionHeld3
import Derived.StillTailTactics
namespace Go.Proofs.YtflklbhgjfonbaaGreatDoor.Lab
open Go.RowKit Mem

theorem lbx_ext {B : Nat} {T : TypeId} {cs : List Value} {w w' : World} (h : Nest.Blk w B T cs) (hb : Below w.heap.size w w') : Nest.Blk w' B T cs := h.ext (hb.mono (show B + 1 ≤ _ from h.lt))
theorem lbx_set {w : World} {b : Nat} {T : TypeId} {cs : List Value} {a : Addr} (h : Nest.Blk w b T cs) (ha : b ≠ a.block) (v : Value) : Nest.Blk (w.setCell a v) b T cs := by
  unfold Nest.Blk at h ⊢
  rw [← h]
  simp [World.setCell, Array.getElem?_modify, Ne.symm ha]

theorem rin_any (n : Int) (w : World) : Calls Tryz.prog 70 #[.int .u8 n] w (InPost 48 57 n w) := by
  by_cases h1 : 48 ≤ n
  · by_cases h2 : n ≤ 57
    · go_enter Tryz.func70, Tryz.ntmps70
      go_wp2_with fail
      go_ret
      exact ⟨_, rfl, rfl, by simp [h1, h2]⟩
    · go_enter Tryz.func70, Tryz.ntmps70
      go_wp2_with fail
      go_ret
      exact ⟨_, rfl, rfl, by simp; omega⟩
  · go_enter Tryz.func70, Tryz.ntmps70
    go_wp2_with fail
    go_ret
    exact ⟨_, rfl, rfl, by simp; omega⟩
theorem rsm_any (n : Int) (w : World) : Calls Tryz.prog 71 #[.int .u8 n] w (InPost 97 122 n w) := by
  by_cases h1 : 97 ≤ n
  · by_cases h2 : n ≤ 122
    · go_enter Tryz.func71, Tryz.ntmps71
      go_wp2_with fail
      go_ret
      exact ⟨_, rfl, rfl, by simp [h1, h2]⟩
    · go_enter Tryz.func71, Tryz.ntmps71
      go_wp2_with fail
      go_ret
      exact ⟨_, rfl, rfl, by simp; omega⟩
  · go_enter Tryz.func71, Tryz.ntmps71
    go_wp2_with fail
    go_ret
    exact ⟨_, rfl, rfl, by simp; omega⟩
theorem rbg_any (n : Int) (w : World) : Calls Tryz.prog 72 #[.int .u8 n] w (InPost 65 90 n w) := by
  by_cases h1 : 65 ≤ n
  · by_cases h2 : n ≤ 90
    · go_enter Tryz.func72, Tryz.ntmps72
      go_wp2_with fail
      go_ret
      exact ⟨_, rfl, rfl, by simp [h1, h2]⟩
    · go_enter Tryz.func72, Tryz.ntmps72
      go_wp2_with fail
      go_ret
      exact ⟨_, rfl, rfl, by simp; omega⟩
  · go_enter Tryz.func72, Tryz.ntmps72
    go_wp2_with fail
    go_ret
    exact ⟨_, rfl, rfl, by simp; omega⟩
def LbW (w wr : World) (v : Int) (lo : List UInt8) (hi : List UInt8) : Prop :=
  Nest.Blk wr w.heap.size 90 [.int .i64 0, .string ⟨#[]⟩, .string ⟨#[]⟩] ∧ Nest.Blk wr (w.heap.size + 1) 90 [.int .i64 v, .string ⟨lo.toArray⟩, .string ⟨hi.toArray⟩] ∧ Below w.heap.size w wr
theorem lb_n {w wr : World} {v : Int} {lo hi : List UInt8} (h : LbW w wr v lo hi) (v' : Int) : LbW w (wr.setCell ⟨w.heap.size + 1, 0, none⟩ (.int .i64 v')) v' lo hi :=
  ⟨lbx_set h.1 (by simp) _, h.2.1.set 0 _, h.2.2.setCell (by simp) _⟩
theorem lb_lo {w wr : World} {v : Int} {lo hi : List UInt8} (h : LbW w wr v lo hi) (lo' : List UInt8) : LbW w (wr.setCell ⟨w.heap.size + 1, 1, none⟩ (.string ⟨lo'.toArray⟩)) v lo' hi :=
  ⟨lbx_set h.1 (by simp) _, h.2.1.set 1 _, h.2.2.setCell (by simp) _⟩
theorem lb_hi {w wr : World} {v : Int} {lo hi : List UInt8} (h : LbW w wr v lo hi) (hi' : List UInt8) : LbW w (wr.setCell ⟨w.heap.size + 1, 2, none⟩ (.string ⟨hi'.toArray⟩)) v lo hi' :=
  ⟨lbx_set h.1 (by simp) _, h.2.1.set 2 _, h.2.2.setCell (by simp) _⟩
theorem LbW.drewN {w wr : World} {v : Int} {lo hi : List UInt8} (h : LbW w wr v lo hi) (n : Nat) : LbW w (wr.drewN n) v lo hi :=
  ⟨lbx_ext h.1 (ext_drewN _ _), lbx_ext h.2.1 (ext_drewN _ _), ext_trans h.2.2 (ext_drewN _ _)⟩
theorem lb_ret {w wr : World} {v : Int} {lo hi : List UInt8} (h : LbW w wr v lo hi) :
    (((wr.setCell ⟨w.heap.size, 0, none⟩ (.int .i64 v)).setCell ⟨w.heap.size, 1, none⟩ (.string ⟨lo.toArray⟩)).setCell ⟨w.heap.size, 2, none⟩ (.string ⟨hi.toArray⟩)).cell? ⟨w.heap.size, 0, none⟩ = some (.int .i64 v) ∧
    (((wr.setCell ⟨w.heap.size, 0, none⟩ (.int .i64 v)).setCell ⟨w.heap.size, 1, none⟩ (.string ⟨lo.toArray⟩)).setCell ⟨w.heap.size, 2, none⟩ (.string ⟨hi.toArray⟩)).cell? ⟨w.heap.size, 1, none⟩ = some (.string ⟨lo.toArray⟩) ∧
    (((wr.setCell ⟨w.heap.size, 0, none⟩ (.int .i64 v)).setCell ⟨w.heap.size, 1, none⟩ (.string ⟨lo.toArray⟩)).setCell ⟨w.heap.size, 2, none⟩ (.string ⟨hi.toArray⟩)).cell? ⟨w.heap.size, 2, none⟩ = some (.string ⟨hi.toArray⟩) ∧
    Below w.heap.size w (((wr.setCell ⟨w.heap.size, 0, none⟩ (.int .i64 v)).setCell ⟨w.heap.size, 1, none⟩ (.string ⟨lo.toArray⟩)).setCell ⟨w.heap.size, 2, none⟩ (.string ⟨hi.toArray⟩)) := by
  have hb := ((h.1.set 0 (.int .i64 v)).set 1 (.string ⟨lo.toArray⟩)).set 2 (.string ⟨hi.toArray⟩)
  exact ⟨hb.cell 0 rfl, hb.cell 1 rfl, hb.cell 2 rfl, ((h.2.2.setCell (by simp) _).setCell (by simp) _).setCell (by simp) _⟩
theorem lb_same (w : World) (a : Addr) (u : Value) {v : Value} (h : w.cell? a = some v) : (w.setCell a u).cell? a = some u := World.cell?_setCell_same' w a u (by rw [h]; rfl)
def LabRPost (l : List UInt8) (w : World) (e : Ending) (w' : World) : Prop :=
  ∃ (ok : Bool) (n : Int) (low hi : List UInt8), e = .returned (.tuple #[.agg #[.int .i64 n, .string ⟨low.toArray⟩, .string ⟨hi.toArray⟩], .bool ok]) ∧ Below w.heap.size w w' ∧ ((ok = true ∧ lab l = some (n, low, hi)) ∨ (ok = false ∧ lab l = none))
set_option maxRecDepth 100000 in
set_option maxHeartbeats 8000000 in
theorem labelof_any (l : List UInt8) (hlen : l.length ≤ 1000000) (w : World) : Calls Tryz.prog 39 #[.string ⟨l.toArray⟩] w (LabRPost l w) := by
  have hbl : (l.length : Int) ≤ 1000000 := by omega
  have b2 := Nest.Blk.new w 90 [.int .i64 0, .string ⟨#[]⟩, .string ⟨#[]⟩]
  have hx1 := ext_alloc w (.cells #[.int .i64 0, .string ⟨#[]⟩, .string ⟨#[]⟩] 90)
  have hx2 := ext_alloc (w.alloc (.cells #[.int .i64 0, .string ⟨#[]⟩, .string ⟨#[]⟩] 90)) (.cells #[.int .i64 0, .string ⟨#[]⟩, .string ⟨#[]⟩] 90)
  have b4 : Nest.Blk ((w.alloc (.cells #[.int .i64 0, .string ⟨#[]⟩, .string ⟨#[]⟩] 90)).alloc (.cells #[.int .i64 0, .string ⟨#[]⟩, .string ⟨#[]⟩] 90)) (w.heap.size + 1) 90 [.int .i64 0, .string ⟨#[]⟩, .string ⟨#[]⟩] := by simpa using Nest.Blk.new (w.alloc (.cells #[.int .i64 0, .string ⟨#[]⟩, .string ⟨#[]⟩] 90)) 90 [.int .i64 0, .string ⟨#[]⟩, .string ⟨#[]⟩]
  have h0 : LbW w ((w.alloc (.cells #[.int .i64 0, .string ⟨#[]⟩, .string ⟨#[]⟩] 90)).alloc (.cells #[.int .i64 0, .string ⟨#[]⟩, .string ⟨#[]⟩] 90)) 0 [] [] := ⟨lbx_ext b2 hx2, b4, ext_trans hx1 hx2⟩
  have HL0 := Lib.hid h0
  clear b2 b4 hx1 hx2 h0
  go_enter Tryz.func39, Tryz.ntmps39
  go_wp2_with fail
  go_loopw [5] (fun s5 wr => ∃ k : Nat, s5 = .int .i64 k ∧ k ≤ l.length ∧ k ≤ 4 ∧ Hid (∀ j (h : j < l.length), j < k → dig l[j]) ∧ Hid (LbW w wr (val (l.take k)) [] []) ∧ Hid (0 < k → ∀ h : 0 < l.length, l[0].toNat ≠ 48)) (fun s5 _ => (l.length - intOf s5).toNat)
  case atStart => exact ⟨0, rfl, by omega, by omega, (fun j _ hj => absurd hj (by omega)), HL0.out, (fun h => absurd h (by omega))⟩
  case round =>
    clear HL0
    obtain ⟨k, rfl, hk, hk4, HA, HL, H48⟩ := hrel
    have x0 := HL.out.2.1.cell 0 rfl
    have x1 := HL.out.2.1.cell 1 rfl
    have x2 := HL.out.2.1.cell 2 rfl
    have z0 := HL.out.1.cell 0 rfl
    have z1 := HL.out.1.cell 1 rfl
    have z2 := HL.out.1.cell 2 rfl
    have f0 := HL.out.1.free 0
    have f1 := HL.out.1.free 1
    have f2 := HL.out.1.free 2
    have g0 := HL.out.2.1.free 0
    have g1 := HL.out.2.1.free 1
    have g2 := HL.out.2.1.free 2
    by_cases hlt : k < l.length
    · have hcl : (k : Int) < (l.length : Int) := by omega
      go_wp2_with fail
      refine (rin_any _ _).mono ?_
      rintro e w' ⟨gd, rfl, hw', hgd⟩
      subst hw'
      have HGD := Lib.hid (show gd = true ↔ dig l[k] by rw [hgd]; unfold dig; rw [ba_at l k _ hlt]; omega)
      clear hgd
      cases gd
      · have HU := Lib.hid (show Upto dig l k from ⟨hk, HA.out, fun _ hd => by simpa using HGD.out.2 hd⟩)
        clear HA HGD
        have hkl := HU.out.le
        obtain ⟨wo, rfl⟩ : ∃ wo, wo = wr := ⟨_, rfl⟩
        by_cases hk0 : k = 0
        · subst hk0
          have HD0 := Lib.hid (fun h : 0 < l.length => HU.out.stop h)
          simp only [List.take_zero] at HL
          have hv0 : val [] = 0 := rfl
          rw [hv0] at HL
          clear hv0 HU H48 x0 x1 x2 z0 z1 z2 f0 f1 f2 g0 g1 g2
          go_wp2_with fail
          go_loopw [5] (fun s5 wr => wo = wr ∧ ∃ k : Nat, s5 = .int .i64 k ∧ k ≤ l.length ∧ k ≤ 4 ∧ Hid (∀ j (h : j < l.length), j < k → sma l[j])) (fun s5 _ => (l.length - intOf s5).toNat)
          case atStart => exact ⟨rfl, 0, rfl, by omega, by omega, fun j _ hj => absurd hj (by omega)⟩
          case round =>
            obtain ⟨hw, k, rfl, hk, hk4, HA⟩ := hrel
            subst hw
            by_cases hlt : k < l.length
            · have hcl : (k : Int) < (l.length : Int) := by omega
              go_wp2_with fail
              refine (rsm_any _ _).mono ?_
              rintro e w' ⟨gd, rfl, hw', hgd⟩
              subst hw'
              have HGD := Lib.hid (show gd = true ↔ sma l[k] by rw [hgd]; unfold sma; rw [ba_at l k _ hlt]; omega)
              clear hgd
              cases gd
              · have HU := Lib.hid (show Upto sma l k from ⟨hk, HA.out, fun _ hd => by simpa using HGD.out.2 hd⟩)
                clear HA HGD
                have hkl := HU.out.le
                have hx1 : (ByteArray.mk l.toArray).extract 0 k = ⟨(l.take k).toArray⟩ := by rw [ByteArray.extract_mk]; simp
                have x0 := HL.out.2.1.cell 0 rfl
                have x1 := HL.out.2.1.cell 1 rfl
                have x2 := HL.out.2.1.cell 2 rfl
                have z0 := HL.out.1.cell 0 rfl
                have z1 := HL.out.1.cell 1 rfl
                have z2 := HL.out.1.cell 2 rfl
                have f0 := HL.out.1.free 0
                have f1 := HL.out.1.free 1
                have f2 := HL.out.1.free 2
                have g0 := HL.out.2.1.free 0
                have g1 := HL.out.2.1.free 1
                have g2 := HL.out.2.1.free 2
                obtain ⟨lw, hlw⟩ : ∃ lw, lw = l.take k := ⟨_, rfl⟩
                obtain ⟨hw, hhw⟩ : ∃ hw, hw = l.drop k := ⟨_, rfl⟩
                rw [← hlw] at hx1
                have HLW := Lib.hid hlw
                clear hlw
                have HL1 := Lib.hid (lb_lo HL.out lw)
                by_cases hk0 : k = 0
                · have hx2 : (ByteArray.mk l.toArray).extract k l.length = ⟨hw.toArray⟩ := by rw [hhw, ByteArray.extract_mk]; congr 2; rw [List.take_of_length_le (by rw [List.length_drop]; omega)]
                  have hq0 : ((k : Int) == 0) = true := by rw [hk0]; rfl
                  have HN := Lib.hid (show lab l = none from lab_nothing HD0.out (fun h => by have := HU.out.stop; subst hk0; exact this h))
                  have HL2 := Lib.hid (lb_hi HL1.out hw)
                  clear hk0 hhw
                  go_wp2_with fail
                  obtain ⟨s0, s1, s2, hbE⟩ := lb_ret HL2.out
                  have HBE := Lib.hid hbE
                  clear hbE
                  refine bodyPost_ret (v := .tuple #[.agg #[.int .i64 (0), .string ⟨(lw).toArray⟩, .string ⟨(hw).toArray⟩], .bool false]) (by simp [results, Tryz.results39, go_sem, s0, s1, s2]) rfl ?_
                  exact ⟨false, 0, lw, hw, rfl, HBE.out, .inr ⟨rfl, HN.out⟩⟩
                · have hk1 : 1 ≤ k := by omega
                  clear hhw
                  go_upto_region 14 with fail
                  obtain ⟨wy, hwy⟩ : ∃ wy, wy = wo.setCell ⟨w.heap.size + 1, 1, none⟩ (.string ⟨lw.toArray⟩) := ⟨_, rfl⟩
                  rw [← hwy]
                  rw [← hwy] at HL1
                  clear hwy HL x0 x1 x2 z0 z1 z2 f0 f1 f2 g0 g1 g2
                  obtain ⟨wo, rfl⟩ : ∃ wo, wo = wy := ⟨_, rfl⟩
                  have x0 := HL1.out.2.1.cell 0 rfl
                  have x1 := HL1.out.2.1.cell 1 rfl
                  have x2 := HL1.out.2.1.cell 2 rfl
                  have z0 := HL1.out.1.cell 0 rfl
                  have z1 := HL1.out.1.cell 1 rfl
                  have z2 := HL1.out.1.cell 2 rfl
                  have f0 := HL1.out.1.free 0
                  have f1 := HL1.out.1.free 1
                  have f2 := HL1.out.1.free 2
                  have g0 := HL1.out.2.1.free 0
                  have g1 := HL1.out.2.1.free 1
                  have g2 := HL1.out.2.1.free 2
                  obtain ⟨hi, hhi⟩ : ∃ hi, hi = l.drop k := ⟨_, rfl⟩
                  have hx2 : (ByteArray.mk l.toArray).extract k l.length = ⟨hi.toArray⟩ := by rw [hhi, ByteArray.extract_mk]; congr 2; rw [List.take_of_length_le (by rw [List.length_drop]; omega)]
                  have HHI := Lib.hid hhi
                  have hlk : hi.length = l.length - k := by rw [hhi, List.length_drop]
                  have hk0 : ((k : Int) == 0) = false := by rw [beq_eq_false_iff_ne]; omega
                  have hk0n : ¬ (k : Int) = 0 := by omega
                  clear hhi
                  have HW2 := Lib.hid (lb_hi HL1.out hi)
                  by_cases hh : 2 < hi.length
                  · have hh2 : (2 : Int) < (hi.length : Int) := by omega
                    have HN := Lib.hid (show lab l = none from lab_bad_sma HU.out (by omega) (.inr (.inl (by rw [← HHI.out]; exact hh))))
                    go_wp2_with fail
                    obtain ⟨s0, s1, s2, hbE⟩ := lb_ret HW2.out
                    have HBE := Lib.hid hbE
                    clear hbE
                    refine bodyPost_ret (v := .tuple #[.agg #[.int .i64 (0), .string ⟨(lw).toArray⟩, .string ⟨(hi).toArray⟩], .bool false]) (by simp [results, Tryz.results39, go_sem, s0, s1, s2]) rfl ?_
                    exact ⟨false, 0, lw, hi, rfl, HBE.out, .inr ⟨rfl, HN.out⟩⟩
                  · have hh2 : ¬ (2 : Int) < (hi.length : Int) := by omega
                    have HH := Lib.hid (show (l.drop k).length ≤ 2 by rw [← HHI.out]; omega)
                    have hkk : (hi.length : Int) ≤ 2 := by omega
                    go_wp2_with fail
                    obtain ⟨wz, hwz⟩ : ∃ wz, wz = wo.setCell ⟨w.heap.size + 1, 2, none⟩ (.string ⟨hi.toArray⟩) := ⟨_, rfl⟩
                    rw [← hwz]
                    rw [← hwz] at HW2
                    clear hwz x0 x1 x2 z0 z1 z2 f0 f1 f2 g0 g1 g2
                    go_loopw [6] (fun s6 wr => wz = wr ∧ ∃ i : Nat, s6 = .int .i64 i ∧ i ≤ hi.length ∧ Hid (∀ j (h : j < hi.length), j < i → big hi[j])) (fun s6 _ => (hi.length - intOf s6).toNat)
                    case atStart => exact ⟨rfl, 0, rfl, by omega, fun j _ hj => absurd hj (by omega)⟩
                    case round =>
                      obtain ⟨hw, i, rfl, hi2, HA⟩ := hrel
                      subst hw
                      have x0 := HW2.out.2.1.cell 0 rfl
                      have x1 := HW2.out.2.1.cell 1 rfl
                      have x2 := HW2.out.2.1.cell 2 rfl
                      have z0 := HW2.out.1.cell 0 rfl
                      have z1 := HW2.out.1.cell 1 rfl
                      have z2 := HW2.out.1.cell 2 rfl
                      have f0 := HW2.out.1.free 0
                      have f1 := HW2.out.1.free 1
                      have f2 := HW2.out.1.free 2
                      have g0 := HW2.out.2.1.free 0
                      have g1 := HW2.out.2.1.free 1
                      have g2 := HW2.out.2.1.free 2
                      by_cases hli : i < hi.length
                      · have hci : (i : Int) < (hi.length : Int) := by omega
                        go_wp2_with fail
                        refine (rbg_any _ _).mono ?_
                        rintro e w' ⟨gb, rfl, hw', hgb⟩
                        subst hw'
                        have HGB := Lib.hid (show gb = true ↔ big hi[i] by rw [hgb]; unfold big; rw [ba_at hi i _ hli]; omega)
                        clear hgb
                        cases gb
                        · have HN := Lib.hid (show lab l = none from lab_bad_sma HU.out (by omega) (.inr (.inr ⟨hi[i], by rw [← HHI.out]; exact List.getElem_mem hli, fun hb => by simpa using HGB.out.2 hb⟩)))
                          go_wp2_with fail
                          obtain ⟨s0, s1, s2, hbE⟩ := lb_ret HW2.out
                          have HBE := Lib.hid hbE
                          clear hbE
                          refine bodyPost_ret (v := .tuple #[.agg #[.int .i64 (0), .string ⟨(lw).toArray⟩, .string ⟨(hi).toArray⟩], .bool false]) (by simp [results, Tryz.results39, go_sem, s0, s1, s2]) rfl ?_
                          exact ⟨false, 0, lw, hi, rfl, HBE.out, .inr ⟨rfl, HN.out⟩⟩
                        · go_wp2_with fail
                          go_roundw
                          case rel =>
                            refine ⟨by first | trivial | rfl, i + 1, by simp, by omega, ?_⟩
                            intro j hj hji
                            rcases Nat.lt_or_ge j i with h | h
                            · exact HA.out j hj h
                            · obtain rfl : j = i := by omega
                              exact HGB.out.1 (by simp)
                          case measure => simp [intOf] <;> omega
                      · have hci : ¬ (i : Int) < (hi.length : Int) := by omega
                        have HA2 := Lib.hid (show ∀ c ∈ l.drop k, big c by
                          rw [← HHI.out]
                          intro c hc
                          obtain ⟨j, hj, rfl⟩ := List.getElem_of_mem hc
                          exact HA.out j hj (by omega))
                        have HN := Lib.hid (show lab l = some (0, lw, l.drop k) from HLW.out ▸ lab_smalls HU.out (by omega) (by omega) HH.out HA2.out)
                        rw [← HHI.out] at HN
                        go_wp2_with fail
                        obtain ⟨s0, s1, s2, hbE⟩ := lb_ret HW2.out
                        have HBE := Lib.hid hbE
                        clear hbE
                        refine bodyPost_ret (v := .tuple #[.agg #[.int .i64 (0), .string ⟨(lw).toArray⟩, .string ⟨(hi).toArray⟩], .bool true]) (by simp [results, Tryz.results39, go_sem, s0, s1, s2]) rfl ?_
                        exact ⟨true, 0, lw, hi, rfl, HBE.out, .inl ⟨rfl, HN.out⟩⟩
              · by_cases h4 : k = 4
                · subst h4
                  have HN := Lib.hid (show lab l = none from lab_long_sma (by omega) (fun j hj h5 => by
                    rcases Nat.lt_or_ge j 4 with h | h
                    · exact HA.out j hj h
                    · obtain rfl : j = 4 := by omega
                      exact HGD.out.1 (by simp)))
                  have x0 := HL.out.2.1.cell 0 rfl
                  have x1 := HL.out.2.1.cell 1 rfl
                  have x2 := HL.out.2.1.cell 2 rfl
                  have z0 := HL.out.1.cell 0 rfl
                  have z1 := HL.out.1.cell 1 rfl
                  have z2 := HL.out.1.cell 2 rfl
                  have f0 := HL.out.1.free 0
                  have f1 := HL.out.1.free 1
                  have f2 := HL.out.1.free 2
                  have g0 := HL.out.2.1.free 0
                  have g1 := HL.out.2.1.free 1
                  have g2 := HL.out.2.1.free 2
                  go_wp2_with fail
                  obtain ⟨s0, s1, s2, hbE⟩ := lb_ret HL.out
                  have HBE := Lib.hid hbE
                  clear hbE
                  refine bodyPost_ret (v := .tuple #[.agg #[.int .i64 (0), .string ⟨([]).toArray⟩, .string ⟨([]).toArray⟩], .bool false]) (by simp [results, Tryz.results39, go_sem, s0, s1, s2]) rfl ?_
                  exact ⟨false, 0, [], [], rfl, HBE.out, .inr ⟨rfl, HN.out⟩⟩
                · have h4i : ((k : Int) == 4) = false := by rw [beq_eq_false_iff_ne]; omega
                  have h4n : ¬ (k : Int) = 4 := by omega
                  go_wp2_with fail
                  go_roundw
                  case rel =>
                    refine ⟨by first | trivial | rfl, k + 1, by simp, by omega, by omega, ?_⟩
                    intro j hj hji
                    rcases Nat.lt_or_ge j k with h | h
                    · exact HA.out j hj h
                    · obtain rfl : j = k := by omega
                      exact HGD.out.1 (by simp)
                  case measure => simp [intOf] <;> omega
            · have hcl : ¬ (k : Int) < (l.length : Int) := by omega
              have HU := Lib.hid (show Upto sma l k from ⟨hk, HA.out, fun h => absurd h hlt⟩)
              clear HA
              have hkl := HU.out.le
              have hx1 : (ByteArray.mk l.toArray).extract 0 k = ⟨(l.take k).toArray⟩ := by rw [ByteArray.extract_mk]; simp
              have x0 := HL.out.2.1.cell 0 rfl
              have x1 := HL.out.2.1.cell 1 rfl
              have x2 := HL.out.2.1.cell 2 rfl
              have z0 := HL.out.1.cell 0 rfl
              have z1 := HL.out.1.cell 1 rfl
              have z2 := HL.out.1.cell 2 rfl
              have f0 := HL.out.1.free 0
              have f1 := HL.out.1.free 1
              have f2 := HL.out.1.free 2
              have g0 := HL.out.2.1.free 0
              have g1 := HL.out.2.1.free 1
              have g2 := HL.out.2.1.free 2
              obtain ⟨lw, hlw⟩ : ∃ lw, lw = l.take k := ⟨_, rfl⟩
              obtain ⟨hw, hhw⟩ : ∃ hw, hw = l.drop k := ⟨_, rfl⟩
              rw [← hlw] at hx1
              have HLW := Lib.hid hlw
              clear hlw
              have HL1 := Lib.hid (lb_lo HL.out lw)
              have hk1 : 1 ≤ k := by omega
              clear hhw
              go_upto_region 14 with fail
              obtain ⟨wy, hwy⟩ : ∃ wy, wy = wo.setCell ⟨w.heap.size + 1, 1, none⟩ (.string ⟨lw.toArray⟩) := ⟨_, rfl⟩
              rw [← hwy]
              rw [← hwy] at HL1
              clear hwy HL x0 x1 x2 z0 z1 z2 f0 f1 f2 g0 g1 g2
              obtain ⟨wo, rfl⟩ : ∃ wo, wo = wy := ⟨_, rfl⟩
              have x0 := HL1.out.2.1.cell 0 rfl
              have x1 := HL1.out.2.1.cell 1 rfl
              have x2 := HL1.out.2.1.cell 2 rfl
              have z0 := HL1.out.1.cell 0 rfl
              have z1 := HL1.out.1.cell 1 rfl
              have z2 := HL1.out.1.cell 2 rfl
              have f0 := HL1.out.1.free 0
              have f1 := HL1.out.1.free 1
              have f2 := HL1.out.1.free 2
              have g0 := HL1.out.2.1.free 0
              have g1 := HL1.out.2.1.free 1
              have g2 := HL1.out.2.1.free 2
              obtain ⟨hi, hhi⟩ : ∃ hi, hi = l.drop k := ⟨_, rfl⟩
              have hx2 : (ByteArray.mk l.toArray).extract k l.length = ⟨hi.toArray⟩ := by rw [hhi, ByteArray.extract_mk]; congr 2; rw [List.take_of_length_le (by rw [List.length_drop]; omega)]
              have HHI := Lib.hid hhi
              have hlk : hi.length = l.length - k := by rw [hhi, List.length_drop]
              have hk0 : ((k : Int) == 0) = false := by rw [beq_eq_false_iff_ne]; omega
              have hk0n : ¬ (k : Int) = 0 := by omega
              clear hhi
              have HW2 := Lib.hid (lb_hi HL1.out hi)
              by_cases hh : 2 < hi.length
              · exfalso; omega
              · have hh2 : ¬ (2 : Int) < (hi.length : Int) := by omega
                have HH := Lib.hid (show (l.drop k).length ≤ 2 by rw [← HHI.out]; omega)
                have hkk : (hi.length : Int) ≤ 2 := by omega
                go_wp2_with fail
                obtain ⟨wz, hwz⟩ : ∃ wz, wz = wo.setCell ⟨w.heap.size + 1, 2, none⟩ (.string ⟨hi.toArray⟩) := ⟨_, rfl⟩
                rw [← hwz]
                rw [← hwz] at HW2
                clear hwz x0 x1 x2 z0 z1 z2 f0 f1 f2 g0 g1 g2
                go_loopw [6] (fun s6 wr => wz = wr ∧ ∃ i : Nat, s6 = .int .i64 i ∧ i ≤ hi.length ∧ Hid (∀ j (h : j < hi.length), j < i → big hi[j])) (fun s6 _ => (hi.length - intOf s6).toNat)
                case atStart => exact ⟨rfl, 0, rfl, by omega, fun j _ hj => absurd hj (by omega)⟩
                case round =>
                  obtain ⟨hw, i, rfl, hi2, HA⟩ := hrel
                  subst hw
                  have x0 := HW2.out.2.1.cell 0 rfl
                  have x1 := HW2.out.2.1.cell 1 rfl
                  have x2 := HW2.out.2.1.cell 2 rfl
                  have z0 := HW2.out.1.cell 0 rfl
                  have z1 := HW2.out.1.cell 1 rfl
                  have z2 := HW2.out.1.cell 2 rfl
                  have f0 := HW2.out.1.free 0
                  have f1 := HW2.out.1.free 1
                  have f2 := HW2.out.1.free 2
                  have g0 := HW2.out.2.1.free 0
                  have g1 := HW2.out.2.1.free 1
                  have g2 := HW2.out.2.1.free 2
                  by_cases hli : i < hi.length
                  · exfalso; omega
                  · have hci : ¬ (i : Int) < (hi.length : Int) := by omega
                    have HA2 := Lib.hid (show ∀ c ∈ l.drop k, big c by
                      rw [← HHI.out]
                      intro c hc
                      obtain ⟨j, hj, rfl⟩ := List.getElem_of_mem hc
                      exact HA.out j hj (by omega))
                    have HN := Lib.hid (show lab l = some (0, lw, l.drop k) from HLW.out ▸ lab_smalls HU.out (by omega) (by omega) HH.out HA2.out)
                    rw [← HHI.out] at HN
                    go_wp2_with fail
                    obtain ⟨s0, s1, s2, hbE⟩ := lb_ret HW2.out
                    have HBE := Lib.hid hbE
                    clear hbE
                    refine bodyPost_ret (v := .tuple #[.agg #[.int .i64 (0), .string ⟨(lw).toArray⟩, .string ⟨(hi).toArray⟩], .bool true]) (by simp [results, Tryz.results39, go_sem, s0, s1, s2]) rfl ?_
                    exact ⟨true, 0, lw, hi, rfl, HBE.out, .inl ⟨rfl, HN.out⟩⟩
        · have hk1 : 1 ≤ k := by omega
          have hk0i : ((k : Int) == 0) = false := by rw [beq_eq_false_iff_ne]; omega
          have hk0j : ¬ (k : Int) = 0 := by omega
          have H48' := Lib.hid (H48.out hk1)
          clear H48
          have H48 := H48'
          clear H48'
          generalize hvk : val (l.take k) = vk at HL x0
          have HVK := Lib.hid hvk
          clear hvk
          obtain ⟨hi, hhi⟩ : ∃ hi, hi = l.drop k := ⟨_, rfl⟩
          have hx2 : (ByteArray.mk l.toArray).extract k l.length = ⟨hi.toArray⟩ := by rw [hhi, ByteArray.extract_mk]; congr 2; rw [List.take_of_length_le (by rw [List.length_drop]; omega)]
          have HHI := Lib.hid hhi
          have hlk : hi.length = l.length - k := by rw [hhi, List.length_drop]
          have hk0 : ((k : Int) == 0) = false := by rw [beq_eq_false_iff_ne]; omega
          have hk0n : ¬ (k : Int) = 0 := by omega
          clear hhi
          have HW2 := Lib.hid (lb_hi HL.out hi)
          by_cases hh : 2 < hi.length
          · have hh2 : (2 : Int) < (hi.length : Int) := by omega
            have HN := Lib.hid (show lab l = none from lab_bad_dig HU.out (by omega) (.inr (.inl (by rw [← HHI.out]; exact hh))))
            go_wp2_with fail
            obtain ⟨s0, s1, s2, hbE⟩ := lb_ret HW2.out
            have HBE := Lib.hid hbE
            clear hbE
            refine bodyPost_ret (v := .tuple #[.agg #[.int .i64 (vk), .string ⟨([]).toArray⟩, .string ⟨(hi).toArray⟩], .bool false]) (by simp [results, Tryz.results39, go_sem, s0, s1, s2]) rfl ?_
            exact ⟨false, vk, [], hi, rfl, HBE.out, .inr ⟨rfl, HN.out⟩⟩
          · have hh2 : ¬ (2 : Int) < (hi.length : Int) := by omega
            have HH := Lib.hid (show (l.drop k).length ≤ 2 by rw [← HHI.out]; omega)
            have hkk : (hi.length : Int) ≤ 2 := by omega
            go_wp2_with fail
            obtain ⟨wz, hwz⟩ : ∃ wz, wz = wo.setCell ⟨w.heap.size + 1, 2, none⟩ (.string ⟨hi.toArray⟩) := ⟨_, rfl⟩
            rw [← hwz]
            rw [← hwz] at HW2
            clear hwz x0 x1 x2 z0 z1 z2 f0 f1 f2 g0 g1 g2
            go_loopw [6] (fun s6 wr => wz = wr ∧ ∃ i : Nat, s6 = .int .i64 i ∧ i ≤ hi.length ∧ Hid (∀ j (h : j < hi.length), j < i → big hi[j])) (fun s6 _ => (hi.length - intOf s6).toNat)
            case atStart => exact ⟨rfl, 0, rfl, by omega, fun j _ hj => absurd hj (by omega)⟩
            case round =>
              obtain ⟨hw, i, rfl, hi2, HA⟩ := hrel
              subst hw
              have x0 := HW2.out.2.1.cell 0 rfl
              have x1 := HW2.out.2.1.cell 1 rfl
              have x2 := HW2.out.2.1.cell 2 rfl
              have z0 := HW2.out.1.cell 0 rfl
              have z1 := HW2.out.1.cell 1 rfl
              have z2 := HW2.out.1.cell 2 rfl
              have f0 := HW2.out.1.free 0
              have f1 := HW2.out.1.free 1
              have f2 := HW2.out.1.free 2
              have g0 := HW2.out.2.1.free 0
              have g1 := HW2.out.2.1.free 1
              have g2 := HW2.out.2.1.free 2
              by_cases hli : i < hi.length
              · have hci : (i : Int) < (hi.length : Int) := by omega
                go_wp2_with fail
                refine (rbg_any _ _).mono ?_
                rintro e w' ⟨gb, rfl, hw', hgb⟩
                subst hw'
                have HGB := Lib.hid (show gb = true ↔ big hi[i] by rw [hgb]; unfold big; rw [ba_at hi i _ hli]; omega)
                clear hgb
                cases gb
                · have HN := Lib.hid (show lab l = none from lab_bad_dig HU.out (by omega) (.inr (.inr ⟨hi[i], by rw [← HHI.out]; exact List.getElem_mem hli, fun hb => by simpa using HGB.out.2 hb⟩)))
                  go_wp2_with fail
                  obtain ⟨s0, s1, s2, hbE⟩ := lb_ret HW2.out
                  have HBE := Lib.hid hbE
                  clear hbE
                  refine bodyPost_ret (v := .tuple #[.agg #[.int .i64 (vk), .string ⟨([]).toArray⟩, .string ⟨(hi).toArray⟩], .bool false]) (by simp [results, Tryz.results39, go_sem, s0, s1, s2]) rfl ?_
                  exact ⟨false, vk, [], hi, rfl, HBE.out, .inr ⟨rfl, HN.out⟩⟩
                · go_wp2_with fail
                  go_roundw
                  case rel =>
                    refine ⟨by first | trivial | rfl, i + 1, by simp, by omega, ?_⟩
                    intro j hj hji
                    rcases Nat.lt_or_ge j i with h | h
                    · exact HA.out j hj h
                    · obtain rfl : j = i := by omega
                      exact HGB.out.1 (by simp)
                  case measure => simp [intOf] <;> omega
              · have hci : ¬ (i : Int) < (hi.length : Int) := by omega
                have HA2 := Lib.hid (show ∀ c ∈ l.drop k, big c by
                  rw [← HHI.out]
                  intro c hc
                  obtain ⟨j, hj, rfl⟩ := List.getElem_of_mem hc
                  exact HA.out j hj (by omega))
                have HN := Lib.hid (show lab l = some (vk, [], l.drop k) from HVK.out ▸ lab_digits HU.out (by omega) (by omega) HH.out HA2.out H48.out)
                rw [← HHI.out] at HN
                go_wp2_with fail
                obtain ⟨s0, s1, s2, hbE⟩ := lb_ret HW2.out
                have HBE := Lib.hid hbE
                clear hbE
                refine bodyPost_ret (v := .tuple #[.agg #[.int .i64 (vk), .string ⟨([]).toArray⟩, .string ⟨(hi).toArray⟩], .bool true]) (by simp [results, Tryz.results39, go_sem, s0, s1, s2]) rfl ?_
                exact ⟨true, vk, [], hi, rfl, HBE.out, .inl ⟨rfl, HN.out⟩⟩
      · by_cases h4 : k = 4
        · subst h4
          have HN := Lib.hid (show lab l = none from lab_long_dig (by omega) (fun j hj h5 => by
            rcases Nat.lt_or_ge j 4 with h | h
            · exact HA.out j hj h
            · obtain rfl : j = 4 := by omega
              exact HGD.out.1 (by simp)))
          go_wp2_with fail
          obtain ⟨s0, s1, s2, hbE⟩ := lb_ret HL.out
          have HBE := Lib.hid hbE
          clear hbE
          refine bodyPost_ret (v := .tuple #[.agg #[.int .i64 (val (l.take 4)), .string ⟨([]).toArray⟩, .string ⟨([]).toArray⟩], .bool false]) (by simp [results, Tryz.results39, go_sem, s0, s1, s2]) rfl ?_
          exact ⟨false, val (l.take 4), [], [], rfl, HBE.out, .inr ⟨rfl, HN.out⟩⟩
        · have h4i : ((k : Int) == 4) = false := by rw [beq_eq_false_iff_ne]; omega
          have h4n : ¬ (k : Int) = 4 := by omega
          by_cases hk0 : k = 0
          · subst hk0
            by_cases h48 : l[0].toNat = 48
            · have hsz : 0 < (ByteArray.mk l.toArray).size := hlt
              have hq : ((((ByteArray.mk l.toArray)[0]'hsz).toNat : Int) == 48) = true := by rw [ba_at l 0 _ hlt, h48]; rfl
              have hq2 : (((ByteArray.mk l.toArray)[0]'hsz).toNat : Int) = 48 := by rw [ba_at l 0 _ hlt, h48]; rfl
              have HN := Lib.hid (show lab l = none from lab_zero (fun _ => h48))
              have hv0 : val (l.take 0) = 0 := rfl
              rw [hv0] at HL x0
              clear hv0
              go_wp2_with fail
              obtain ⟨s0, s1, s2, hbE⟩ := lb_ret HL.out
              have HBE := Lib.hid hbE
              clear hbE
              refine bodyPost_ret (v := .tuple #[.agg #[.int .i64 (0), .string ⟨([]).toArray⟩, .string ⟨([]).toArray⟩], .bool false]) (by simp [results, Tryz.results39, go_sem, s0, s1, s2]) rfl ?_
              exact ⟨false, 0, [], [], rfl, HBE.out, .inr ⟨rfl, HN.out⟩⟩
            · have hsz : 0 < (ByteArray.mk l.toArray).size := hlt
              have hq : ((((ByteArray.mk l.toArray)[0]'hsz).toNat : Int) == 48) = false := by rw [ba_at l 0 _ hlt, beq_eq_false_iff_ne]; omega
              have hq2 : ¬ (((ByteArray.mk l.toArray)[0]'hsz).toNat : Int) = 48 := by rw [ba_at l 0 _ hlt]; omega
              have H48n := Lib.hid (fun (_ : 0 < l.length) => h48)
              obtain ⟨v1, v2⟩ := val_small (l.take 0) (fun c hc => by obtain ⟨j, hj, rfl⟩ := List.getElem_of_mem hc; rw [List.length_take] at hj; rw [List.getElem_take]; exact HA.out j (by omega) (by omega)) (by rw [List.length_take]; omega)
              have hdk := HGD.out.1 (by simp)
              unfold dig at hdk
              obtain ⟨c1, c2⟩ := hdk
              generalize hvk : val (l.take 0) = vk at HL x0 v1 v2
              have HVK := Lib.hid hvk
              clear hvk
              have hsk : 0 < (ByteArray.mk l.toArray).size := hlt
              obtain ⟨c, hc⟩ : ∃ c : Int, c = ((l[0].toNat : Nat) : Int) := ⟨_, rfl⟩
              have HCC := Lib.hid hc
              have hcx : (((ByteArray.mk l.toArray)[0]'hsk).toNat : Int) = c := hc.symm
              have d1 : 48 ≤ c := by omega
              have d2 : c ≤ 57 := by omega
              clear hc c1 c2
              have hw1 : IntKind.i64.wrap (vk * 10) = vk * 10 := IntWalk.i64_in _ (by omega)
              have hw2 : IntKind.u8.wrap (c - 48) = c - 48 := IntWalk.u8_in _ (by omega)
              have hw3 : IntKind.i64.wrap (c - 48) = c - 48 := IntWalk.i64_in _ (by omega)
              have hw4 : IntKind.i64.wrap (vk * 10 + (c - 48)) = vk * 10 + (c - 48) := IntWalk.i64_in _ (by omega)
              go_wp2_with fail
              have x0d := cell_ext (ext_drewN wr 1) x0
              refine wp_region_held_drew (S := (fun w' => w'.frozen? ⟨w.heap.size + 1, 0, none⟩ = false ∧ (w'.cell? ⟨w.heap.size + 1, 0, none⟩).isSome = true)) (by kernel_rfl) ?_ (fun hHeld => ?_)
              · exact ⟨g0, Option.isSome_iff_exists.2 ⟨_, x0d⟩⟩
              refine wpAnyH_take (i := 0) (v := ?_) rfl (by kernel_rfl) (by kernel_rfl) (by kernel_rfl) (fun _ _ _ h => h) (Or.inl ⟨by rfl, ?_⟩) (by assumption) ?_
              rotate_left
              · intro w hSw; (try dsimp only at hSw); go_simp; try with_reducible rfl
              (try dsimp only [Act.put, List.setIfInBounds_toArray, List.set_cons_zero, List.set_cons_succ])
              refine wpAnyH_take (i := 3) (v := ?_) rfl (by kernel_rfl) (by kernel_rfl) (by kernel_rfl) (fun _ _ _ h => h) (Or.inl ⟨by rfl, ?_⟩) (by assumption) ?_
              rotate_left
              · intro w hSw; (try dsimp only at hSw); go_simp; try with_reducible rfl
              (try dsimp only [Act.put, List.setIfInBounds_toArray, List.set_cons_zero, List.set_cons_succ])
              refine wpAnyH_take (i := 4) (v := ?_) rfl (by kernel_rfl) (by kernel_rfl) (by kernel_rfl) (fun _ _ _ h => h) (Or.inl ⟨by rfl, ?_⟩) (by assumption) ?_
              rotate_left
              · intro w hSw; (try dsimp only at hSw); go_simp; try with_reducible rfl
              (try dsimp only [Act.put, List.setIfInBounds_toArray, List.set_cons_zero, List.set_cons_succ])
              refine wpAnyH_take (i := 5) (v := ?_) rfl (by kernel_rfl) (by kernel_rfl) (by kernel_rfl) (fun _ _ _ h => h) (Or.inl ⟨by rfl, ?_⟩) (by assumption) ?_
              rotate_left
              · intro w hSw; (try dsimp only at hSw); go_simp; try with_reducible rfl
              (try dsimp only [Act.put, List.setIfInBounds_toArray, List.set_cons_zero, List.set_cons_succ])
              refine wpAnyH_take (i := 6) (v := ?_) rfl (by kernel_rfl) (by kernel_rfl) (by kernel_rfl) (fun _ _ _ h => h) (Or.inl ⟨by rfl, ?_⟩) (by assumption) ?_
              rotate_left
              · intro w hSw; (try dsimp only at hSw); go_simp; try with_reducible rfl
              (try dsimp only [Act.put, List.setIfInBounds_toArray, List.set_cons_zero, List.set_cons_succ])
              refine wpAnyH_take (i := 7) (v := ?_) rfl (by kernel_rfl) (by kernel_rfl) (by kernel_rfl) (fun _ _ _ h => h) (Or.inl ⟨by rfl, ?_⟩) (by assumption) ?_
              rotate_left
              · intro w hSw; (try dsimp only at hSw); go_simp; try with_reducible rfl
              (try dsimp only [Act.put, List.setIfInBounds_toArray, List.set_cons_zero, List.set_cons_succ])
              refine wpAnyH_ready (rs := [1]) (by kernel_rfl) (by simp) ?_
              refine AllReadyH.cons rfl (fun K hK => ?_) ?_
              · go_simp
                refine hK.out _ _ ?_ (fun hHeld => ?_)
                · exact ⟨g0, Option.isSome_iff_exists.2 ⟨_, x0d⟩⟩
                clear hK K
                (try dsimp only [Act.put, List.setIfInBounds_toArray, List.set_cons_zero, List.set_cons_succ])
                refine wpAnyH_take (i := 2) (v := ?_) rfl (by kernel_rfl) (by kernel_rfl) (by kernel_rfl) (fun _ _ _ h => h) (Or.inl ⟨by rfl, ?_⟩) (by assumption) ?_
                rotate_left
                · intro w hSw; (try dsimp only at hSw); go_simp; try with_reducible rfl
                (try dsimp only [Act.put, List.setIfInBounds_toArray, List.set_cons_zero, List.set_cons_succ])
                refine wpAnyH_take (i := 8) (v := ?_) rfl (by kernel_rfl) (by kernel_rfl) (by kernel_rfl) (fun _ _ _ h => h) (Or.inl ⟨by rfl, ?_⟩) (by assumption) ?_
                rotate_left
                · intro w hSw; (try dsimp only at hSw); go_simp; try with_reducible rfl
                (try dsimp only [Act.put, List.setIfInBounds_toArray, List.set_cons_zero, List.set_cons_succ])
                refine wpAnyH_take (i := 9) (v := ?_) rfl (by kernel_rfl) (by kernel_rfl) (by kernel_rfl) (fun _ _ _ h => h) (Or.inl ⟨by rfl, ?_⟩) (by assumption) ?_
                rotate_left
                · intro w hSw; (try dsimp only at hSw); go_simp; try with_reducible rfl
                (try dsimp only [Act.put, List.setIfInBounds_toArray, List.set_cons_zero, List.set_cons_succ])
                refine wpAnyH_ready (rs := [10]) (by kernel_rfl) (by simp) ?_
                refine AllReadyH.cons rfl (fun K hK => ?_) ?_
                · go_simp
                  refine hK.out _ _ ?_ (fun hHeld => ?_)
                  · exact ⟨by simpa using g0, Option.isSome_iff_exists.2 ⟨_, lb_same _ _ _ x0d⟩⟩
                  clear hK K
                  (try dsimp only [Act.put, List.setIfInBounds_toArray, List.set_cons_zero, List.set_cons_succ])
                  refine wpAnyH_done (by kernel_rfl) ?_ _
                  go_wp2_with fail
                  go_roundw
                  case rel =>
                    refine ⟨0 + 1, by simp, by omega, by omega, ?_, ?_, ?_⟩
                    · intro j hj hji
                      rcases Nat.lt_or_ge j 0 with h | h
                      · exact HA.out j hj h
                      · obtain rfl : j = 0 := by omega
                        exact HGD.out.1 (by simp)
                    · have h := lb_n (HL.out.drewN 1) (vk * 10 + (c - 48))
                      show LbW _ _ _ _ _
                      rw [val_take l 0 hlt, HVK.out, ← HCC.out]
                      exact h
                    · exact fun _ h => H48n.out h
                  case measure => simp [intOf] <;> omega
                exact AllReadyH.nil
              exact AllReadyH.nil
          · have hk0i : ((k : Int) == 0) = false := by rw [beq_eq_false_iff_ne]; omega
            have hk0j : ¬ (k : Int) = 0 := by omega
            have H48n := Lib.hid (H48.out (by omega))
            obtain ⟨v1, v2⟩ := val_small (l.take k) (fun c hc => by obtain ⟨j, hj, rfl⟩ := List.getElem_of_mem hc; rw [List.length_take] at hj; rw [List.getElem_take]; exact HA.out j (by omega) (by omega)) (by rw [List.length_take]; omega)
            have hdk := HGD.out.1 (by simp)
            unfold dig at hdk
            obtain ⟨c1, c2⟩ := hdk
            generalize hvk : val (l.take k) = vk at HL x0 v1 v2
            have HVK := Lib.hid hvk
            clear hvk
            have hsk : k < (ByteArray.mk l.toArray).size := hlt
            obtain ⟨c, hc⟩ : ∃ c : Int, c = ((l[k].toNat : Nat) : Int) := ⟨_, rfl⟩
            have HCC := Lib.hid hc
            have hcx : (((ByteArray.mk l.toArray)[k]'hsk).toNat : Int) = c := hc.symm
            have d1 : 48 ≤ c := by omega
            have d2 : c ≤ 57 := by omega
            clear hc c1 c2
            have hw1 : IntKind.i64.wrap (vk * 10) = vk * 10 := IntWalk.i64_in _ (by omega)
            have hw2 : IntKind.u8.wrap (c - 48) = c - 48 := IntWalk.u8_in _ (by omega)
            have hw3 : IntKind.i64.wrap (c - 48) = c - 48 := IntWalk.i64_in _ (by omega)
            have hw4 : IntKind.i64.wrap (vk * 10 + (c - 48)) = vk * 10 + (c - 48) := IntWalk.i64_in _ (by omega)
            go_wp2_with fail
            have x0d := cell_ext (ext_drewN wr 1) x0
            refine wp_region_held_drew (S := (fun w' => w'.frozen? ⟨w.heap.size + 1, 0, none⟩ = false ∧ (w'.cell? ⟨w.heap.size + 1, 0, none⟩).isSome = true)) (by kernel_rfl) ?_ (fun hHeld => ?_)
            · exact ⟨g0, Option.isSome_iff_exists.2 ⟨_, x0d⟩⟩
            refine wpAnyH_take (i := 0) (v := ?_) rfl (by kernel_rfl) (by kernel_rfl) (by kernel_rfl) (fun _ _ _ h => h) (Or.inl ⟨by rfl, ?_⟩) (by assumption) ?_
            rotate_left
            · intro w hSw; (try dsimp only at hSw); go_simp; try with_reducible rfl
            (try dsimp only [Act.put, List.setIfInBounds_toArray, List.set_cons_zero, List.set_cons_succ])
            refine wpAnyH_take (i := 3) (v := ?_) rfl (by kernel_rfl) (by kernel_rfl) (by kernel_rfl) (fun _ _ _ h => h) (Or.inl ⟨by rfl, ?_⟩) (by assumption) ?_
            rotate_left
            · intro w hSw; (try dsimp only at hSw); go_simp; try with_reducible rfl
            (try dsimp only [Act.put, List.setIfInBounds_toArray, List.set_cons_zero, List.set_cons_succ])
            refine wpAnyH_take (i := 4) (v := ?_) rfl (by kernel_rfl) (by kernel_rfl) (by kernel_rfl) (fun _ _ _ h => h) (Or.inl ⟨by rfl, ?_⟩) (by assumption) ?_
            rotate_left
            · intro w hSw; (try dsimp only at hSw); go_simp; try with_reducible rfl
            (try dsimp only [Act.put, List.setIfInBounds_toArray, List.set_cons_zero, List.set_cons_succ])
            refine wpAnyH_take (i := 5) (v := ?_) rfl (by kernel_rfl) (by kernel_rfl) (by kernel_rfl) (fun _ _ _ h => h) (Or.inl ⟨by rfl, ?_⟩) (by assumption) ?_
            rotate_left
            · intro w hSw; (try dsimp only at hSw); go_simp; try with_reducible rfl
            (try dsimp only [Act.put, List.setIfInBounds_toArray, List.set_cons_zero, List.set_cons_succ])
            refine wpAnyH_take (i := 6) (v := ?_) rfl (by kernel_rfl) (by kernel_rfl) (by kernel_rfl) (fun _ _ _ h => h) (Or.inl ⟨by rfl, ?_⟩) (by assumption) ?_
            rotate_left
            · intro w hSw; (try dsimp only at hSw); go_simp; try with_reducible rfl
            (try dsimp only [Act.put, List.setIfInBounds_toArray, List.set_cons_zero, List.set_cons_succ])
            refine wpAnyH_take (i := 7) (v := ?_) rfl (by kernel_rfl) (by kernel_rfl) (by kernel_rfl) (fun _ _ _ h => h) (Or.inl ⟨by rfl, ?_⟩) (by assumption) ?_
            rotate_left
            · intro w hSw; (try dsimp only at hSw); go_simp; try with_reducible rfl
            (try dsimp only [Act.put, List.setIfInBounds_toArray, List.set_cons_zero, List.set_cons_succ])
            refine wpAnyH_ready (rs := [1]) (by kernel_rfl) (by simp) ?_
            refine AllReadyH.cons rfl (fun K hK => ?_) ?_
            · go_simp
              refine hK.out _ _ ?_ (fun hHeld => ?_)
              · exact ⟨g0, Option.isSome_iff_exists.2 ⟨_, x0d⟩⟩
              clear hK K
              (try dsimp only [Act.put, List.setIfInBounds_toArray, List.set_cons_zero, List.set_cons_succ])
              refine wpAnyH_take (i := 2) (v := ?_) rfl (by kernel_rfl) (by kernel_rfl) (by kernel_rfl) (fun _ _ _ h => h) (Or.inl ⟨by rfl, ?_⟩) (by assumption) ?_
              rotate_left
              · intro w hSw; (try dsimp only at hSw); go_simp; try with_reducible rfl
              (try dsimp only [Act.put, List.setIfInBounds_toArray, List.set_cons_zero, List.set_cons_succ])
              refine wpAnyH_take (i := 8) (v := ?_) rfl (by kernel_rfl) (by kernel_rfl) (by kernel_rfl) (fun _ _ _ h => h) (Or.inl ⟨by rfl, ?_⟩) (by assumption) ?_
              rotate_left
              · intro w hSw; (try dsimp only at hSw); go_simp; try with_reducible rfl
              (try dsimp only [Act.put, List.setIfInBounds_toArray, List.set_cons_zero, List.set_cons_succ])
              refine wpAnyH_take (i := 9) (v := ?_) rfl (by kernel_rfl) (by kernel_rfl) (by kernel_rfl) (fun _ _ _ h => h) (Or.inl ⟨by rfl, ?_⟩) (by assumption) ?_
              rotate_left
              · intro w hSw; (try dsimp only at hSw); go_simp; try with_reducible rfl
              (try dsimp only [Act.put, List.setIfInBounds_toArray, List.set_cons_zero, List.set_cons_succ])
              refine wpAnyH_ready (rs := [10]) (by kernel_rfl) (by simp) ?_
              refine AllReadyH.cons rfl (fun K hK => ?_) ?_
              · go_simp
                refine hK.out _ _ ?_ (fun hHeld => ?_)
                · exact ⟨by simpa using g0, Option.isSome_iff_exists.2 ⟨_, lb_same _ _ _ x0d⟩⟩
                clear hK K
                (try dsimp only [Act.put, List.setIfInBounds_toArray, List.set_cons_zero, List.set_cons_succ])
                refine wpAnyH_done (by kernel_rfl) ?_ _
                go_wp2_with fail
                go_roundw
                case rel =>
                  refine ⟨k + 1, by simp, by omega, by omega, ?_, ?_, ?_⟩
                  · intro j hj hji
                    rcases Nat.lt_or_ge j k with h | h
                    · exact HA.out j hj h
                    · obtain rfl : j = k := by omega
                      exact HGD.out.1 (by simp)
                  · have h := lb_n (HL.out.drewN 1) (vk * 10 + (c - 48))
                    show LbW _ _ _ _ _
                    rw [val_take l k hlt, HVK.out, ← HCC.out]
                    exact h
                  · exact fun _ h => H48n.out h
                case measure => simp [intOf] <;> omega
              exact AllReadyH.nil
            exact AllReadyH.nil
    · have hcl : ¬ (k : Int) < (l.length : Int) := by omega
      have HU := Lib.hid (show Upto dig l k from ⟨hk, HA.out, fun h => absurd h hlt⟩)
      clear HA
      have hkl := HU.out.le
      obtain ⟨wo, rfl⟩ : ∃ wo, wo = wr := ⟨_, rfl⟩
      by_cases hk0 : k = 0
      · subst hk0
        have HD0 := Lib.hid (fun h : 0 < l.length => HU.out.stop h)
        simp only [List.take_zero] at HL
        have hv0 : val [] = 0 := rfl
        rw [hv0] at HL
        clear hv0 HU H48 x0 x1 x2 z0 z1 z2 f0 f1 f2 g0 g1 g2
        clear hcl
        have hl0 : ¬ (0 : Int) < (l.length : Int) := by omega
        go_wp2_with fail
        go_loopw [5] (fun s5 wr => wo = wr ∧ ∃ k : Nat, s5 = .int .i64 k ∧ k ≤ l.length) (fun _ _ => 0)
        case atStart => exact ⟨rfl, 0, rfl, by omega⟩
        case round =>
          obtain ⟨hw, k, rfl, hk⟩ := hrel
          subst hw
          have hlt : ¬ k < l.length := by omega
          have hcl : ¬ (k : Int) < (l.length : Int) := by omega
          have HU := Lib.hid (show Upto sma l k from ⟨hk, (fun j h => absurd h (by omega)), fun h => absurd h hlt⟩)
          have hkl := HU.out.le
          have hx1 : (ByteArray.mk l.toArray).extract 0 k = ⟨(l.take k).toArray⟩ := by rw [ByteArray.extract_mk]; simp
          have x0 := HL.out.2.1.cell 0 rfl
          have x1 := HL.out.2.1.cell 1 rfl
          have x2 := HL.out.2.1.cell 2 rfl
          have z0 := HL.out.1.cell 0 rfl
          have z1 := HL.out.1.cell 1 rfl
          have z2 := HL.out.1.cell 2 rfl
          have f0 := HL.out.1.free 0
          have f1 := HL.out.1.free 1
          have f2 := HL.out.1.free 2
          have g0 := HL.out.2.1.free 0
          have g1 := HL.out.2.1.free 1
          have g2 := HL.out.2.1.free 2
          obtain ⟨lw, hlw⟩ : ∃ lw, lw = l.take k := ⟨_, rfl⟩
          obtain ⟨hw, hhw⟩ : ∃ hw, hw = l.drop k := ⟨_, rfl⟩
          rw [← hlw] at hx1
          have HLW := Lib.hid hlw
          clear hlw
          have HL1 := Lib.hid (lb_lo HL.out lw)
          have hk0 : k = 0 := by omega
          have hx2 : (ByteArray.mk l.toArray).extract k l.length = ⟨hw.toArray⟩ := by rw [hhw, ByteArray.extract_mk]; congr 2; rw [List.take_of_length_le (by rw [List.length_drop]; omega)]
          have hq0 : ((k : Int) == 0) = true := by rw [hk0]; rfl
          have HN := Lib.hid (show lab l = none from lab_nothing HD0.out (fun h => by have := HU.out.stop; subst hk0; exact this h))
          have HL2 := Lib.hid (lb_hi HL1.out hw)
          clear hk0 hhw
          go_wp2_with fail
          obtain ⟨s0, s1, s2, hbE⟩ := lb_ret HL2.out
          have HBE := Lib.hid hbE
          clear hbE
          refine bodyPost_ret (v := .tuple #[.agg #[.int .i64 (0), .string ⟨(lw).toArray⟩, .string ⟨(hw).toArray⟩], .bool false]) (by simp [results, Tryz.results39, go_sem, s0, s1, s2]) rfl ?_
          exact ⟨false, 0, lw, hw, rfl, HBE.out, .inr ⟨rfl, HN.out⟩⟩
      · have hk1 : 1 ≤ k := by omega
        have hk0i : ((k : Int) == 0) = false := by rw [beq_eq_false_iff_ne]; omega
        have hk0j : ¬ (k : Int) = 0 := by omega
        have H48' := Lib.hid (H48.out hk1)
        clear H48
        have H48 := H48'
        clear H48'
        generalize hvk : val (l.take k) = vk at HL x0
        have HVK := Lib.hid hvk
        clear hvk
        obtain ⟨hi, hhi⟩ : ∃ hi, hi = l.drop k := ⟨_, rfl⟩
        have hx2 : (ByteArray.mk l.toArray).extract k l.length = ⟨hi.toArray⟩ := by rw [hhi, ByteArray.extract_mk]; congr 2; rw [List.take_of_length_le (by rw [List.length_drop]; omega)]
        have HHI := Lib.hid hhi
        have hlk : hi.length = l.length - k := by rw [hhi, List.length_drop]
        have hk0 : ((k : Int) == 0) = false := by rw [beq_eq_false_iff_ne]; omega
        have hk0n : ¬ (k : Int) = 0 := by omega
        clear hhi
        have HW2 := Lib.hid (lb_hi HL.out hi)
        by_cases hh : 2 < hi.length
        · exfalso; omega
        · have hh2 : ¬ (2 : Int) < (hi.length : Int) := by omega
          have HH := Lib.hid (show (l.drop k).length ≤ 2 by rw [← HHI.out]; omega)
          have hkk : (hi.length : Int) ≤ 2 := by omega
          go_wp2_with fail
          obtain ⟨wz, hwz⟩ : ∃ wz, wz = wo.setCell ⟨w.heap.size + 1, 2, none⟩ (.string ⟨hi.toArray⟩) := ⟨_, rfl⟩
          rw [← hwz]
          rw [← hwz] at HW2
          clear hwz x0 x1 x2 z0 z1 z2 f0 f1 f2 g0 g1 g2
          go_loopw [6] (fun s6 wr => wz = wr ∧ ∃ i : Nat, s6 = .int .i64 i ∧ i ≤ hi.length ∧ Hid (∀ j (h : j < hi.length), j < i → big hi[j])) (fun s6 _ => (hi.length - intOf s6).toNat)
          case atStart => exact ⟨rfl, 0, rfl, by omega, fun j _ hj => absurd hj (by omega)⟩
          case round =>
            obtain ⟨hw, i, rfl, hi2, HA⟩ := hrel
            subst hw
            have x0 := HW2.out.2.1.cell 0 rfl
            have x1 := HW2.out.2.1.cell 1 rfl
            have x2 := HW2.out.2.1.cell 2 rfl
            have z0 := HW2.out.1.cell 0 rfl
            have z1 := HW2.out.1.cell 1 rfl
            have z2 := HW2.out.1.cell 2 rfl
            have f0 := HW2.out.1.free 0
            have f1 := HW2.out.1.free 1
            have f2 := HW2.out.1.free 2
            have g0 := HW2.out.2.1.free 0
            have g1 := HW2.out.2.1.free 1
            have g2 := HW2.out.2.1.free 2
            by_cases hli : i < hi.length
            · exfalso; omega
            · have hci : ¬ (i : Int) < (hi.length : Int) := by omega
              have HA2 := Lib.hid (show ∀ c ∈ l.drop k, big c by
                rw [← HHI.out]
                intro c hc
                obtain ⟨j, hj, rfl⟩ := List.getElem_of_mem hc
                exact HA.out j hj (by omega))
              have HN := Lib.hid (show lab l = some (vk, [], l.drop k) from HVK.out ▸ lab_digits HU.out (by omega) (by omega) HH.out HA2.out H48.out)
              rw [← HHI.out] at HN
              go_wp2_with fail
              obtain ⟨s0, s1, s2, hbE⟩ := lb_ret HW2.out
              have HBE := Lib.hid hbE
              clear hbE
              refine bodyPost_ret (v := .tuple #[.agg #[.int .i64 (vk), .string ⟨([]).toArray⟩, .string ⟨(hi).toArray⟩], .bool true]) (by simp [results, Tryz.results39, go_sem, s0, s1, s2]) rfl ?_
              exact ⟨true, vk, [], hi, rfl, HBE.out, .inl ⟨rfl, HN.out⟩⟩
end Go.Proofs.YtflklbhgjfonbaaGreatDoor.Lab

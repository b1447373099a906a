/- plain.Code: the number of an error, and its place: nil, a sentinel, an api.Fault around a sentinel. -/
import Derived.Test.YtipbmpakdcmdoaaDoorErrAs
import Derived.BigQuiet
import Derived.Deep.QuietTactic
namespace Go.Proofs.YtipbmpakdcmdoaaDoor.Err
open Go.RowKit

/-- the value of a sentinel that lies at a -/
def sentV (a : Addr) : Value := .iface 191 (.pointer (some a))
/-- The eleven sentinels are laid: sentinel k's text lies at A k; the errors package's handle of the type error is laid, too. -/
structure Errs (w : World) (A : Nat → Addr) : Prop where
  v0 : w.cell? ⟨0, 0, none⟩ = some (sentV (A 0))
  v1 : w.cell? ⟨1, 0, none⟩ = some (sentV (A 1))
  v2 : w.cell? ⟨2, 0, none⟩ = some (sentV (A 2))
  v3 : w.cell? ⟨3, 0, none⟩ = some (sentV (A 3))
  v4 : w.cell? ⟨4, 0, none⟩ = some (sentV (A 4))
  v5 : w.cell? ⟨5, 0, none⟩ = some (sentV (A 5))
  v6 : w.cell? ⟨6, 0, none⟩ = some (sentV (A 6))
  v7 : w.cell? ⟨7, 0, none⟩ = some (sentV (A 7))
  v8 : w.cell? ⟨8, 0, none⟩ = some (sentV (A 8))
  v9 : w.cell? ⟨9, 0, none⟩ = some (sentV (A 9))
  v10 : w.cell? ⟨10, 0, none⟩ = some (sentV (A 10))
  blk : ∀ k, k < 11 → ∃ c t, w.heap[(A k).block]? = some (.cells c t (0, 0))
  ne : ∀ i j, i < 11 → j < 11 → i ≠ j → A i ≠ A j
  typ : w.cell? ⟨11, 0, none⟩ = some (.iface 150 (.agg #[.pointer (some ⟨12, 23, none⟩)]))

theorem lt_of_cell {w : World} {a : Addr} {v : Value} (h : w.cell? a = some v) : a.block < w.heap.size := by
  rcases Nat.lt_or_ge a.block w.heap.size with h' | h'
  · exact h'
  · simp [World.cell?, Array.getElem?_eq_none h'] at h
theorem cell_keep {B : Nat} {w w' : World} (h : Below B w w') {a : Addr} {v : Value} (ha : a.block < B) (hc : w.cell? a = some v) : w'.cell? a = some v := by
  rw [h.cell ha]; exact hc
theorem cell_below {w w' : World} (h : Below w.heap.size w w') {a : Addr} {v : Value} (hc : w.cell? a = some v) : w'.cell? a = some v :=
  cell_keep h (lt_of_cell hc) hc
theorem lt_of_block {w : World} {b : Nat} {o : Obj} (h : w.heap[b]? = some o) : b < w.heap.size := by
  rcases Nat.lt_or_ge b w.heap.size with h' | h'
  · exact h'
  · simp [Array.getElem?_eq_none h'] at h
theorem Errs.below {w w' : World} {A : Nat → Addr} (h : Errs w A) (hb : Below w.heap.size w w') : Errs w' A where
  v0 := cell_below hb h.v0
  v1 := cell_below hb h.v1
  v2 := cell_below hb h.v2
  v3 := cell_below hb h.v3
  v4 := cell_below hb h.v4
  v5 := cell_below hb h.v5
  v6 := cell_below hb h.v6
  v7 := cell_below hb h.v7
  v8 := cell_below hb h.v8
  v9 := cell_below hb h.v9
  v10 := cell_below hb h.v10
  blk := fun k hk => by
    obtain ⟨c, t, hc⟩ := h.blk k hk
    exact ⟨c, t, by rw [hb.block _ (lt_of_block hc)]; exact hc⟩
  ne := h.ne
  typ := cell_below hb h.typ
theorem Errs.drewN {w : World} {A : Nat → Addr} (h : Errs w A) (n : Nat) : Errs (w.drewN n) A := h.below (below_drewN (Below.refl _ _) n)

/-- The table that Code makes, by its index. -/
def tab (A : Nat → Addr) : Array Value := #[sentV (A 0), sentV (A 1), sentV (A 2), sentV (A 3), sentV (A 4), sentV (A 5), sentV (A 6), sentV (A 7), sentV (A 8), sentV (A 9), sentV (A 10)]
theorem tab_at (A : Nat → Addr) (k : Nat) (hk : k < 11) : (tab A)[k]? = some (sentV (A k)) := by
  have : k = 0 ∨ k = 1 ∨ k = 2 ∨ k = 3 ∨ k = 4 ∨ k = 5 ∨ k = 6 ∨ k = 7 ∨ k = 8 ∨ k = 9 ∨ k = 10 := by omega
  rcases this with rfl | rfl | rfl | rfl | rfl | rfl | rfl | rfl | rfl | rfl | rfl <;> rfl

theorem code_nil (w : World) : Calls Tryd.prog 66 #[.nilIface] w fun e w' => e = .returned (.tuple #[.int .i64 0, .int .i64 (-1)]) ∧ w = w' := by
  go_enter Tryd.func66, Tryd.ntmps66
  go_wp2
  go_ret2
  exact ⟨rfl, rfl⟩
set_option maxHeartbeats 400000 in
theorem code_sent (c : Nat) (hc : c < 11) (A : Nat → Addr) (w : World) (hE : Errs w A) :
    Calls Tryd.prog 66 #[sentV (A c)] w fun e w' => e = .returned (.tuple #[.int .i64 ((c : Int) + 1), .int .i64 (-1)]) ∧ Below w.heap.size w w' := by
  have HE := Lib.hid hE
  clear hE
  unfold sentV
  go_enter Tryd.func66, Tryd.ntmps66
  go_wp2_with fail
  refine (as_sent _ _ _ (cell_below ((Below.refl _ _).alloc (Nat.le_refl _) _) HE.out.typ)).mono ?_
  rintro e w1 ⟨rfl, hb1⟩
  have hb : Below w.heap.size w w1 := ((Below.refl _ _).alloc (Nat.le_refl _) _).trans (hb1.mono (by simp))
  have E1 := HE.out.below hb
  have V0 := E1.v0
  have V1 := E1.v1
  have V2 := E1.v2
  have V3 := E1.v3
  have V4 := E1.v4
  have V5 := E1.v5
  have V6 := E1.v6
  have V7 := E1.v7
  have V8 := E1.v8
  have V9 := E1.v9
  have V10 := E1.v10
  have E1' := Lib.hid E1
  have hb' := Lib.hid hb
  clear E1 hb hb1 HE
  unfold sentV at V0 V1 V2 V3 V4 V5 V6 V7 V8 V9 V10
  go_wp2_with fail
  have hcell : ∀ k, k < 11 → (w1.alloc (.cells #[.iface 191 (.pointer (some (A 0))), .iface 191 (.pointer (some (A 1))), .iface 191 (.pointer (some (A 2))), .iface 191 (.pointer (some (A 3))), .iface 191 (.pointer (some (A 4))), .iface 191 (.pointer (some (A 5))), .iface 191 (.pointer (some (A 6))), .iface 191 (.pointer (some (A 7))), .iface 191 (.pointer (some (A 8))), .iface 191 (.pointer (some (A 9))), .iface 191 (.pointer (some (A 10)))] 23)).cell? ⟨w1.heap.size, k, none⟩ = some (.iface 191 (.pointer (some (A k)))) := by
    intro k hk
    rw [World.cell?_alloc_at _ _ _ _ (by simp)]
    exact tab_at A k hk
  have hb2 := hb'.out.trans (((Below.refl w1.heap.size w1).alloc (Nat.le_refl _) (.cells #[.iface 191 (.pointer (some (A 0))), .iface 191 (.pointer (some (A 1))), .iface 191 (.pointer (some (A 2))), .iface 191 (.pointer (some (A 3))), .iface 191 (.pointer (some (A 4))), .iface 191 (.pointer (some (A 5))), .iface 191 (.pointer (some (A 6))), .iface 191 (.pointer (some (A 7))), .iface 191 (.pointer (some (A 8))), .iface 191 (.pointer (some (A 9))), .iface 191 (.pointer (some (A 10)))] 23)).mono hb'.out.size)
  have E2 := Lib.hid (E1'.out.below ((Below.refl w1.heap.size w1).alloc (Nat.le_refl _) (.cells #[.iface 191 (.pointer (some (A 0))), .iface 191 (.pointer (some (A 1))), .iface 191 (.pointer (some (A 2))), .iface 191 (.pointer (some (A 3))), .iface 191 (.pointer (some (A 4))), .iface 191 (.pointer (some (A 5))), .iface 191 (.pointer (some (A 6))), .iface 191 (.pointer (some (A 7))), .iface 191 (.pointer (some (A 8))), .iface 191 (.pointer (some (A 9))), .iface 191 (.pointer (some (A 10)))] 23)))
  have HC := Lib.hid hcell
  have HB := Lib.hid hb2
  clear hcell hb2 V0 V1 V2 V3 V4 V5 V6 V7 V8 V9 V10
  generalize w1.alloc (.cells #[.iface 191 (.pointer (some (A 0))), .iface 191 (.pointer (some (A 1))), .iface 191 (.pointer (some (A 2))), .iface 191 (.pointer (some (A 3))), .iface 191 (.pointer (some (A 4))), .iface 191 (.pointer (some (A 5))), .iface 191 (.pointer (some (A 6))), .iface 191 (.pointer (some (A 7))), .iface 191 (.pointer (some (A 8))), .iface 191 (.pointer (some (A 9))), .iface 191 (.pointer (some (A 10)))] 23) = w2 at *
  go_loop [3, 29] (fun s i => ∃ k : Nat, k ≤ c ∧ i = .int .i64 k ∧ s = .int .i64 (-1)) (fun _ i => c + 1 - (intOf i).toNat)
  case atStart => exact ⟨0, Nat.zero_le _, rfl, rfl⟩
  case round =>
    obtain ⟨k, hk, rfl, rfl⟩ := hrel
    have hlt : k < 11 := by omega
    have hck := HC.out k hlt
    by_cases heq : k = c
    · subst heq
      go_wp2_with (go_at_call 32; refine (is_same _ _).mono ?_; rintro e w' ⟨rfl, rfl⟩)
      go_ret2
      exact ⟨rfl, HB.out⟩
    · obtain ⟨ca, ta, hba⟩ := E2.out.blk c hc
      obtain ⟨cb, tb, hbb⟩ := E2.out.blk k hlt
      have hne := E2.out.ne c k hc hlt (Ne.symm heq)
      have Ha := Lib.hid hba
      have Hb := Lib.hid hbb
      have Hn := Lib.hid hne
      have Hk := Lib.hid heq
      clear hba hbb hne heq
      go_wp2_with (go_at_call 32; refine (is_other _ _ _ _ _ _ _ Hn.out Ha.out Hb.out).mono ?_; rintro e w' ⟨rfl, rfl⟩)
      go_round
      case rel => exact ⟨k + 1, by have := Hk.out; omega, by go_num, rfl⟩
      case measure => simp [intOf]; omega
theorem as_fault (e : Addr) (w : World) (hg : w.cell? ⟨11, 0, none⟩ = some (.iface 150 (.agg #[.pointer (some ⟨12, 23, none⟩)]))) :
    Calls Tryd.prog 85 #[.iface 159 (.pointer (some e)), .iface 161 (.pointer (some ⟨w.heap.size, 0, none⟩))] (w.alloc (.cells #[.pointer none] 159)) fun ev w' => ev = .returned (.bool true) ∧ Below w.heap.size w w' ∧ w.heap.size < w'.heap.size ∧ w'.cell? ⟨w.heap.size, 0, none⟩ = some (.pointer (some e)) := by
  refine (as_hit e ⟨w.heap.size, 0, none⟩ (.pointer none) (w.alloc (.cells #[.pointer none] 159)) (cell_below ((Below.refl _ _).alloc (Nat.le_refl _) _) hg) (by simp) (by simp)).mono ?_
  rintro ev w' ⟨rfl, rfl⟩
  refine ⟨rfl, ?_, ?_, ?_⟩
  · refine Below.setCell (p := ⟨w.heap.size, 0, none⟩) ?_ (show w.heap.size ≤ w.heap.size from Nat.le_refl _) _
    repeat (first | exact Below.refl _ _ | (refine Below.alloc ?_ (by simp <;> omega) _))
  · simp [World.setCell]
    omega
  · refine World.cell?_setCell_same _ _ _ (u := .pointer none) ?_
    rw [World.cell?_alloc_lt _ _ _ (by simp; omega), World.cell?_alloc_lt _ _ _ (by simp; omega), World.cell?_alloc_lt _ _ _ (by simp; omega), World.cell?_alloc_lt _ _ _ (by simp)]
    simp
set_option maxHeartbeats 400000 in
theorem code_fault (c : Nat) (hc : c < 11) (A : Nat → Addr) (pb po : Nat) (n : Int) (w : World) (hE : Errs w A) (hat : w.cell? ⟨pb, po, none⟩ = some (.int .i64 n)) (herr : w.cell? ⟨pb, po + 1, none⟩ = some (sentV (A c))) :
    Calls Tryd.prog 66 #[.iface 159 (.pointer (some ⟨pb, po, none⟩))] w fun e w' => e = .returned (.tuple #[.int .i64 ((c : Int) + 1), .int .i64 n]) ∧ Below w.heap.size w w' := by
  have HE := Lib.hid hE
  have Hat := Lib.hid hat
  have Herr := Lib.hid herr
  clear hE hat herr
  go_enter Tryd.func66, Tryd.ntmps66
  go_wp2_with fail
  refine (as_fault _ _ HE.out.typ).mono ?_
  rintro e w1 ⟨rfl, hb, _, ht⟩
  have hw := cell_below hb Hat.out
  have hfe := cell_below hb Herr.out
  unfold sentV at hfe
  have E1 := HE.out.below hb
  have V0 := E1.v0
  have V1 := E1.v1
  have V2 := E1.v2
  have V3 := E1.v3
  have V4 := E1.v4
  have V5 := E1.v5
  have V6 := E1.v6
  have V7 := E1.v7
  have V8 := E1.v8
  have V9 := E1.v9
  have V10 := E1.v10
  have E1' := Lib.hid E1
  have hb' := Lib.hid hb
  clear E1 hb HE
  unfold sentV at V0 V1 V2 V3 V4 V5 V6 V7 V8 V9 V10
  go_wp2_with fail
  have hcell : ∀ k, k < 11 → (w1.alloc (.cells #[.iface 191 (.pointer (some (A 0))), .iface 191 (.pointer (some (A 1))), .iface 191 (.pointer (some (A 2))), .iface 191 (.pointer (some (A 3))), .iface 191 (.pointer (some (A 4))), .iface 191 (.pointer (some (A 5))), .iface 191 (.pointer (some (A 6))), .iface 191 (.pointer (some (A 7))), .iface 191 (.pointer (some (A 8))), .iface 191 (.pointer (some (A 9))), .iface 191 (.pointer (some (A 10)))] 23)).cell? ⟨w1.heap.size, k, none⟩ = some (.iface 191 (.pointer (some (A k)))) := by
    intro k hk
    rw [World.cell?_alloc_at _ _ _ _ (by simp)]
    exact tab_at A k hk
  have hb2 := hb'.out.trans (((Below.refl w1.heap.size w1).alloc (Nat.le_refl _) (.cells #[.iface 191 (.pointer (some (A 0))), .iface 191 (.pointer (some (A 1))), .iface 191 (.pointer (some (A 2))), .iface 191 (.pointer (some (A 3))), .iface 191 (.pointer (some (A 4))), .iface 191 (.pointer (some (A 5))), .iface 191 (.pointer (some (A 6))), .iface 191 (.pointer (some (A 7))), .iface 191 (.pointer (some (A 8))), .iface 191 (.pointer (some (A 9))), .iface 191 (.pointer (some (A 10)))] 23)).mono hb'.out.size)
  have E2 := Lib.hid (E1'.out.below ((Below.refl w1.heap.size w1).alloc (Nat.le_refl _) (.cells #[.iface 191 (.pointer (some (A 0))), .iface 191 (.pointer (some (A 1))), .iface 191 (.pointer (some (A 2))), .iface 191 (.pointer (some (A 3))), .iface 191 (.pointer (some (A 4))), .iface 191 (.pointer (some (A 5))), .iface 191 (.pointer (some (A 6))), .iface 191 (.pointer (some (A 7))), .iface 191 (.pointer (some (A 8))), .iface 191 (.pointer (some (A 9))), .iface 191 (.pointer (some (A 10)))] 23)))
  have HC := Lib.hid hcell
  have HB := Lib.hid hb2
  have hfe2 := cell_below ((Below.refl w1.heap.size w1).alloc (Nat.le_refl _) (.cells #[.iface 191 (.pointer (some (A 0))), .iface 191 (.pointer (some (A 1))), .iface 191 (.pointer (some (A 2))), .iface 191 (.pointer (some (A 3))), .iface 191 (.pointer (some (A 4))), .iface 191 (.pointer (some (A 5))), .iface 191 (.pointer (some (A 6))), .iface 191 (.pointer (some (A 7))), .iface 191 (.pointer (some (A 8))), .iface 191 (.pointer (some (A 9))), .iface 191 (.pointer (some (A 10)))] 23)) hfe
  clear hcell hb2 hfe hw ht V0 V1 V2 V3 V4 V5 V6 V7 V8 V9 V10
  generalize w1.alloc (.cells #[.iface 191 (.pointer (some (A 0))), .iface 191 (.pointer (some (A 1))), .iface 191 (.pointer (some (A 2))), .iface 191 (.pointer (some (A 3))), .iface 191 (.pointer (some (A 4))), .iface 191 (.pointer (some (A 5))), .iface 191 (.pointer (some (A 6))), .iface 191 (.pointer (some (A 7))), .iface 191 (.pointer (some (A 8))), .iface 191 (.pointer (some (A 9))), .iface 191 (.pointer (some (A 10)))] 23) = w2 at *
  go_loop [3, 29] (fun s i => ∃ k : Nat, k ≤ c ∧ i = .int .i64 k ∧ s = .int .i64 n) (fun _ i => c + 1 - (intOf i).toNat)
  case atStart => exact ⟨0, Nat.zero_le _, rfl, rfl⟩
  case round =>
    obtain ⟨k, hk, rfl, rfl⟩ := hrel
    have hlt : k < 11 := by omega
    have hck := HC.out k hlt
    by_cases heq : k = c
    · subst heq
      go_wp2_with (go_at_call 32; refine (is_fault_same _ _ _ _ hfe2).mono ?_; rintro e w' ⟨rfl, rfl⟩)
      go_ret2
      exact ⟨rfl, HB.out⟩
    · obtain ⟨ca, ta, hba⟩ := E2.out.blk c hc
      obtain ⟨cb, tb, hbb⟩ := E2.out.blk k hlt
      have hne := E2.out.ne c k hc hlt (Ne.symm heq)
      have Ha := Lib.hid hba
      have Hb := Lib.hid hbb
      have Hn := Lib.hid hne
      have Hk := Lib.hid heq
      clear hba hbb hne heq
      go_wp2_with (go_at_call 32; refine (is_fault_other _ _ _ _ _ _ _ _ _ hfe2 Hn.out Ha.out Hb.out).mono ?_; rintro e w' ⟨rfl, rfl⟩)
      go_round
      case rel => exact ⟨k + 1, by have := Hk.out; omega, by go_num, rfl⟩
      case measure => simp [intOf]; omega
end Go.Proofs.YtipbmpakdcmdoaaDoor.Err

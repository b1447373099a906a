/- The law Names answers true: the walk: the eleven errors are apart, and each has its number. -/
import Derived.Test.YtipbmpakdcmdoaaDoorCoded1
namespace Go.Proofs.YtipbmpakdcmdoaaDoor.Names
open Go.RowKit Err

/-- what the loops keep of the world: the table, the errors, and all that was there -/
structure Kept (w : World) (A : Nat → Addr) (B : Nat) (wr : World) : Prop where
  below : Below w.heap.size w wr
  errs : Errs wr A
  tabl : ∀ k, k < 11 → wr.cell? ⟨B, k, none⟩ = some (.iface 191 (.pointer (some (A k))))
theorem Kept.step {w wr w' : World} {A : Nat → Addr} {B : Nat} (h : Kept w A B wr) (hb : Below wr.heap.size wr w') : Kept w A B w' where
  below := h.below.trans (hb.mono h.below.size)
  errs := h.errs.below hb
  tabl := fun k hk => cell_below hb (h.tabl k hk)
theorem quiet_same {P : Program} {f : FuncId} {args : Array Value} {w : World} {n : Nat} {v : Value} (h : Calls P f args (w.drewN n) fun e w' => e = .returned v ∧ w.drewN n = w') :
    Calls P f args (w.drewN n) fun e w'' => e = .returned v ∧ ∃ m, w'' = w.drewN m := Calls.quiet_of_same (h.mono fun _ _ hh => ⟨hh.1, hh.2.symm⟩)
set_option maxRecDepth 100000 in
set_option maxHeartbeats 1000000 in
theorem walk (A : Nat → Addr) (w : World) (hE : Errs w A) :
    Calls Tryd.prog 8 #[] w fun e w' => e = .returned (.bool true) ∧ Below w.heap.size w w' := by
  have V0 := hE.v0
  have V1 := hE.v1
  have V2 := hE.v2
  have V3 := hE.v3
  have V4 := hE.v4
  have V5 := hE.v5
  have V6 := hE.v6
  have V7 := hE.v7
  have V8 := hE.v8
  have V9 := hE.v9
  have V10 := hE.v10
  unfold sentV at V0 V1 V2 V3 V4 V5 V6 V7 V8 V9 V10
  have K0 : Kept w A w.heap.size (w.alloc (.cells #[.iface 191 (.pointer (some (A 0))), .iface 191 (.pointer (some (A 1))), .iface 191 (.pointer (some (A 2))), .iface 191 (.pointer (some (A 3))), .iface 191 (.pointer (some (A 4))), .iface 191 (.pointer (some (A 5))), .iface 191 (.pointer (some (A 6))), .iface 191 (.pointer (some (A 7))), .iface 191 (.pointer (some (A 8))), .iface 191 (.pointer (some (A 9))), .iface 191 (.pointer (some (A 10)))] 23)) :=
    ⟨(Below.refl _ _).alloc (Nat.le_refl _) _, hE.below ((Below.refl _ _).alloc (Nat.le_refl _) _), fun k hk => by rw [World.cell?_alloc_at _ _ _ _ rfl]; exact tab_at A k hk⟩
  have HK := Lib.hid K0
  clear hE K0
  go_enter Tryd.func8, Tryd.ntmps8
  go_wp2_with fail
  clear V0 V1 V2 V3 V4 V5 V6 V7 V8 V9 V10
  generalize w.alloc (.cells #[.iface 191 (.pointer (some (A 0))), .iface 191 (.pointer (some (A 1))), .iface 191 (.pointer (some (A 2))), .iface 191 (.pointer (some (A 3))), .iface 191 (.pointer (some (A 4))), .iface 191 (.pointer (some (A 5))), .iface 191 (.pointer (some (A 6))), .iface 191 (.pointer (some (A 7))), .iface 191 (.pointer (some (A 8))), .iface 191 (.pointer (some (A 9))), .iface 191 (.pointer (some (A 10)))] 23) = w2 at *
  go_loopw [5] (fun i wr => Hid (Kept w A w.heap.size wr) ∧ ∃ k : Nat, k ≤ 11 ∧ i = .int .i64 k) (fun i _ => 11 - (intOf i).toNat)
  case atStart => exact ⟨HK, 0, by omega, rfl⟩
  case round =>
    obtain ⟨hK, k, hk, rfl⟩ := hrel
    by_cases hlt : k < 11
    · go_wp2_with fail
      go_loopw [6] (fun i wr => Hid (Kept w A w.heap.size wr) ∧ ∃ j : Nat, j ≤ k ∧ i = .int .i64 j) (fun i _ => k - (intOf i).toNat)
      case atStart => exact ⟨hK, 0, by omega, rfl⟩
      case round =>
        clear hK
        obtain ⟨hK, j, hj, rfl⟩ := hrel
        by_cases hjk : j < k
        · have hj11 : j < 11 := by omega
          have t1 := hK.out.tabl k hlt
          have t2 := hK.out.tabl j hj11
          obtain ⟨ca, ta, hba⟩ := hK.out.errs.blk k hlt
          obtain ⟨cb, tb, hbb⟩ := hK.out.errs.blk j hj11
          have Ha := Lib.hid hba
          have Hb := Lib.hid hbb
          have Hn := Lib.hid (hK.out.errs.ne k j hlt hj11 (by omega))
          have b0 : (0 : Int) ≤ k := by omega
          have b1 : (0 : Int) ≤ j := by omega
          have b2 : (k : Int) < 11 := by omega
          have b3 : (j : Int) < 11 := by omega
          clear hba hbb
          go_wp2_with fail
          go_quiet ((go_at_call 32; exact quiet_same (is_other _ _ _ _ _ _ _ Hn.out Ha.out Hb.out)))
          go_wp2_with fail
          go_roundw
          case rel => exact ⟨hK.out.step (below_drewN (Below.refl _ _) _), j + 1, by omega, by go_num⟩
          case measure => simp [intOf]; omega
        · obtain rfl : j = k := by omega
          have t1 := hK.out.tabl j hlt
          go_wp2_with fail
          refine (coded_sent j hlt _ A _ hK.out.errs).mono ?_
          rintro e w3 ⟨rfl, hb3⟩
          have hK3 := Lib.hid (hK.out.step hb3)
          clear hb3 hK t1
          have hd : decide ((j : Int) + 1 = (j : Int) + 1) = true := by simp
          go_wp2_with fail
          go_roundw
          case rel => exact ⟨hK3, j + 1, by omega, by go_num⟩
          case measure => simp [intOf]; omega
    · obtain rfl : k = 11 := by omega
      go_wp2_with fail
      go_ret
      exact ⟨rfl, hK.out.below⟩
end Go.Proofs.YtipbmpakdcmdoaaDoor.Names

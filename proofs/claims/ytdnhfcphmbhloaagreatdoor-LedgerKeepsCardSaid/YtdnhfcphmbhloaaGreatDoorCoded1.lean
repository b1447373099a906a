/- coded of package statutelaw1: whether an error has a number. coded of package statutelaw3: whether an error has a number. coded of package statutelaw4: whether an error has a number. coded of package statutelaw5: whether an error has a number. -/
import Derived.Test.YtdnhfcphmbhloaaGreatDoorErr
namespace Go.Proofs.YtdnhfcphmbhloaaGreatDoor.Err
open Go.RowKit

theorem coded_nil (c : Int) (w : World) :
    Calls Tryz.prog 38 #[.nilIface, .int .i64 c] w fun e w' => e = .returned (.bool (decide (0 = c))) ∧ w = w' := by
  go_enter Tryz.func38, Tryz.ntmps38
  go_wp2_with (go_at_call 29; refine (code_nil _).mono ?_; rintro e w' ⟨rfl, rfl⟩)
  go_ret
  exact ⟨rfl, rfl⟩
theorem coded_sent (k : Nat) (hk : k < 11) (c : Int) (A : Nat → Addr) (w : World) (hE : Errs w A) :
    Calls Tryz.prog 38 #[sentV (A k), .int .i64 c] w fun e w' => e = .returned (.bool (decide ((k : Int) + 1 = c))) ∧ Below w.heap.size w w' := by
  have HE := Lib.hid hE
  clear hE
  go_enter Tryz.func38, Tryz.ntmps38
  go_wp2_with (go_at_call 29; refine (code_sent k hk A _ HE.out).mono ?_; rintro e w' ⟨rfl, hb⟩)
  go_ret
  exact ⟨rfl, hb⟩
theorem coded_fault (k : Nat) (hk : k < 11) (pb po : Nat) (n : Int) (c : Int) (A : Nat → Addr) (w : World) (hE : Errs w A) (hat : w.cell? ⟨pb, po, none⟩ = some (.int .i64 n)) (herr : w.cell? ⟨pb, po + 1, none⟩ = some (sentV (A k))) :
    Calls Tryz.prog 38 #[.iface 110 (.pointer (some ⟨pb, po, none⟩)), .int .i64 c] w fun e w' => e = .returned (.bool (decide ((k : Int) + 1 = c))) ∧ Below w.heap.size w w' := by
  have HE := Lib.hid hE
  have H1 := Lib.hid hat
  have H2 := Lib.hid herr
  clear hE hat herr
  go_enter Tryz.func38, Tryz.ntmps38
  go_wp2_with (go_at_call 29; refine (code_fault k hk A pb po n _ HE.out H1.out H2.out).mono ?_; rintro e w' ⟨rfl, hb⟩)
  go_ret
  exact ⟨rfl, hb⟩
end Go.Proofs.YtdnhfcphmbhloaaGreatDoor.Err
namespace Go.Proofs.YtdnhfcphmbhloaaGreatDoor.Err
open Go.RowKit

end Go.Proofs.YtdnhfcphmbhloaaGreatDoor.Err
namespace Go.Proofs.YtdnhfcphmbhloaaGreatDoor.Err
open Go.RowKit

end Go.Proofs.YtdnhfcphmbhloaaGreatDoor.Err
namespace Go.Proofs.YtdnhfcphmbhloaaGreatDoor.Err
open Go.RowKit

theorem coded5_nil (c : Int) (w : World) :
    Calls Tryz.prog 11 #[.nilIface, .int .i64 c] w fun e w' => e = .returned (.bool (decide (0 = c))) ∧ w = w' := by
  go_enter Tryz.func11, Tryz.ntmps11
  go_wp2_with (go_at_call 29; refine (code_nil _).mono ?_; rintro e w' ⟨rfl, rfl⟩)
  go_ret
  exact ⟨rfl, rfl⟩
theorem coded5_sent (k : Nat) (hk : k < 11) (c : Int) (A : Nat → Addr) (w : World) (hE : Errs w A) :
    Calls Tryz.prog 11 #[sentV (A k), .int .i64 c] w fun e w' => e = .returned (.bool (decide ((k : Int) + 1 = c))) ∧ Below w.heap.size w w' := by
  have HE := Lib.hid hE
  clear hE
  go_enter Tryz.func11, Tryz.ntmps11
  go_wp2_with (go_at_call 29; refine (code_sent k hk A _ HE.out).mono ?_; rintro e w' ⟨rfl, hb⟩)
  go_ret
  exact ⟨rfl, hb⟩
theorem coded5_fault (k : Nat) (hk : k < 11) (pb po : Nat) (n : Int) (c : Int) (A : Nat → Addr) (w : World) (hE : Errs w A) (hat : w.cell? ⟨pb, po, none⟩ = some (.int .i64 n)) (herr : w.cell? ⟨pb, po + 1, none⟩ = some (sentV (A k))) :
    Calls Tryz.prog 11 #[.iface 110 (.pointer (some ⟨pb, po, none⟩)), .int .i64 c] w fun e w' => e = .returned (.bool (decide ((k : Int) + 1 = c))) ∧ Below w.heap.size w w' := by
  have HE := Lib.hid hE
  have H1 := Lib.hid hat
  have H2 := Lib.hid herr
  clear hE hat herr
  go_enter Tryz.func11, Tryz.ntmps11
  go_wp2_with (go_at_call 29; refine (code_fault k hk A pb po n _ HE.out H1.out H2.out).mono ?_; rintro e w' ⟨rfl, hb⟩)
  go_ret
  exact ⟨rfl, hb⟩
end Go.Proofs.YtdnhfcphmbhloaaGreatDoor.Err

/- The theory as the statement hands it on: few, Theory. -/
import Derived.Test.YtipbmpakdcmdoaaDoorSolve
import Derived.Test.YtipbmpakdcmdoaaDoorApp
import Derived.StillTailTactics
namespace Go.Proofs.YtipbmpakdcmdoaaDoor.LawT
open Go.RowKit Mem Thy Nest Day Thm

/-- a theory among the arguments -/
structure ThA (w : World) (b o : Nat) (N : Int) (rs : List Rw) (RA : Option Addr) (rc : Nat) (ov : List (Int × Int)) (OA : Option Addr) (oc : Nat) : Prop where
  c0 : w.cell? ⟨b, o, none⟩ = some (.int .i64 N)
  c1 : w.cell? ⟨b, o + 1, none⟩ = some (.slice RA rs.length rc)
  c2 : w.cell? ⟨b, o + 2, none⟩ = some (.slice OA ov.length oc)
  rules : Rws w RA rs
  over : Rd w OA (ov.flatMap prCells)
  onil : OA = none → oc = 0
  bnil : ∀ r ∈ rs, r.A = none → r.c = 0
  l1 : rs.length ≤ 1048576
  l2 : ∀ r ∈ rs, r.body.length ≤ 1048576
  l3 : ov.length ≤ 1048576
section
variable {w w' : World} {b o : Nat} {N : Int} {rs : List Rw} {RA : Option Addr} {rc : Nat} {ov : List (Int × Int)} {OA : Option Addr} {oc : Nat}
theorem ThA.ext (h : ThA w b o N rs RA rc ov OA oc) (hb : Below w.heap.size w w') : ThA w' b o N rs RA rc ov OA oc :=
  ⟨cell_ext hb h.c0, cell_ext hb h.c1, cell_ext hb h.c2, h.rules.ext hb, h.over.ext hb, h.onil, h.bnil, h.l1, h.l2, h.l3⟩
end
def SomeB (w : World) (e : Ending) (w' : World) : Prop := (∃ b : Bool, e = .returned (.bool b)) ∧ w = w'
set_option maxHeartbeats 2000000 in
theorem few_any (b o : Nat) (N : Int) (rs : List Rw) (RA : Option Addr) (rc : Nat) (ov : List (Int × Int)) (OA : Option Addr) (oc : Nat) (w : World) (h : ThA w b o N rs RA rc ov OA oc) :
    Calls Tryd.prog 28 #[.pointer (some ⟨b, o, none⟩)] w (SomeB w) := by
  have H := Lib.hid h
  have l1 := h.l1
  have c0 := h.c0
  have c1 := h.c1
  have c2 := h.c2
  clear h
  go_enter Tryd.func28, Tryd.ntmps28
  go_wp2_with fail
  go_loop [3, 4] (fun t3 t4 => ∃ (z : Int) (j : Nat), t3 = .int .i64 z ∧ t4 = .int .i64 j ∧ j ≤ rs.length) (fun _ t4 => rs.length - (intOf t4).toNat)
  case atStart => exact ⟨0, 0, rfl, rfl, Nat.zero_le _⟩
  case round =>
    obtain ⟨z, j, rfl, rfl, hj⟩ := hrel
    by_cases hlt : j < rs.length
    · obtain ⟨b', o', rfl, r0, r1, r2⟩ := H.out.rules.row hlt
      go_wp2_with fail
      go_round
      case rel => exact ⟨_, j + 1, rfl, by go_num, by omega⟩
      case measure => simp [intOf]; omega
    · go_wp2_with fail
      all_goals
        go_ret
        exact ⟨⟨_, rfl⟩, rfl⟩
end Go.Proofs.YtipbmpakdcmdoaaDoor.LawT

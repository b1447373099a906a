/- A calendar of working days in memory. -/
import Derived.Test.YtcpcejmlnhflpaaGreatDoorCdP
import Derived.Test.YtcpcejmlnhflpaaGreatDoorMem
namespace Go.Proofs.YtcpcejmlnhflpaaGreatDoor.CdM
open Go.RowKit Mem CdP

structure CdA (w : World) (b o : Nat) (c : Cd) (A : Option Addr) (hc : Nat) : Prop where
  off : ∀ (j : Nat) (h : j < 7), w.cell? ⟨b, o + j, none⟩ = some (.bool (c.off[j]'(by rw [c.len]; exact h)))
  hol : w.cell? ⟨b, o + 7, none⟩ = some (.slice A c.hol.length hc)
  rd : Rd w A (ints c.hol)
theorem CdA.ext {w w' : World} {b o : Nat} {c : Cd} {A : Option Addr} {hc : Nat} (h : CdA w b o c A hc) (hb : Below w.heap.size w w') : CdA w' b o c A hc :=
  ⟨fun j hj => cell_ext hb (h.off j hj), cell_ext hb h.hol, h.rd.ext hb⟩
theorem offAt_get (c : Cd) (d : Int) : offAt c.off d = c.off[((d - 1) % 7).toNat]'(by rw [c.len]; omega) := by
  unfold offAt
  rw [List.getD_eq_getElem?_getD, List.getElem?_eq_getElem (by rw [c.len]; omega)]
  rfl
/-- a day's own flag -/
theorem CdA.flag {w : World} {b o : Nat} {c : Cd} {A : Option Addr} {hc : Nat} (h : CdA w b o c A hc) (d : Int) : w.cell? ⟨b, o + ((d - 1) % 7).toNat, none⟩ = some (.bool (offAt c.off d)) := by
  rw [offAt_get]
  exact h.off _ (by omega)
end Go.Proofs.YtcpcejmlnhflpaaGreatDoor.CdM

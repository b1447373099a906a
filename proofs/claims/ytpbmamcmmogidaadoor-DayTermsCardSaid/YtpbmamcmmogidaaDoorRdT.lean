/- A day's text: the program's side. -/
import Derived.Test.YtpbmamcmmogidaaDoorRdP
import Derived.Test.YtpbmamcmmogidaaDoorDay
import Derived.Test.YtpbmamcmmogidaaDoorTabs
namespace Go.Proofs.YtpbmamcmmogidaaDoor.Rd
open Go.RowKit Mem Cal Day Tabs

theorem ba_app (r l : List UInt8) : (ByteArray.mk r.toArray ++ ByteArray.mk l.toArray : ByteArray) = ⟨(r ++ l).toArray⟩ := by
  apply ByteArray.ext
  simp
theorem pad_length : ∀ (m u : Nat), (pad m u).length = m
  | 0, _ => rfl
  | m + 1, u => by unfold pad; simp [pad_length m]
/-- a date's text -/
def dtext (y m d : Int) : List UInt8 := pad 4 y.toNat ++ [45] ++ pad 2 m.toNat ++ [45] ++ pad 2 d.toNat
end Go.Proofs.YtpbmamcmmogidaaDoor.Rd

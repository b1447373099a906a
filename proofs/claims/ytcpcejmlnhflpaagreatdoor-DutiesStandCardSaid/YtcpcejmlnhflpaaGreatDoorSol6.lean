/- A theory's solver: what follows; what is said. A theory's solver: what is said. -/
import Derived.Test.YtcpcejmlnhflpaaGreatDoorSol4
import Derived.Test.YtcpcejmlnhflpaaGreatDoorThy
namespace Go.Proofs.YtcpcejmlnhflpaaGreatDoor.Sol
open Go.RowKit Mem Thy Nest Day Thm MapSet

end Go.Proofs.YtcpcejmlnhflpaaGreatDoor.Sol
namespace Go.Proofs.YtcpcejmlnhflpaaGreatDoor.Sol
open Go.RowKit Mem Thy Nest Day Thm MapSet

theorem set_keep {n : Nat} {a : Addr} (w : World) (ha : n ≤ a.block) (v : Value) : Below n w (w.setCell a v) := (Below.refl n w).setCell ha v
/-- the world behind Say -/
def sayW (p : SvP) (a b : Bool) (q : Int) (w : World) : World := match a, b with
  | true, true => (w.setCell ⟨p.sb, place q, none⟩ (.int .i64 2)).setCell ⟨p.sb, place q, none⟩ (.int .i64 1)
  | true, false => w.setCell ⟨p.sb, place q, none⟩ (.int .i64 2)
  | false, true => (w.setCell ⟨p.hb, place q, none⟩ (.int .i64 2)).setCell ⟨p.hb, place q, none⟩ (.int .i64 1)
  | false, false => w.setCell ⟨p.hb, place q, none⟩ (.int .i64 2)
end Go.Proofs.YtcpcejmlnhflpaaGreatDoor.Sol

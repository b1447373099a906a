/- Running a solver until nothing more follows. -/
import Derived.Test.YtjfiodknjchngaaGreatDoorSol2
import Derived.Deep.LoopGhost
namespace Go.Proofs.YtjfiodknjchngaaGreatDoor.Sol
open Go.RowKit Mem Thy Nest Day Thm MapSet

theorem sayW_blk {w : World} {p : SvP} {a b : Bool} {q : Int} {B : Nat} {T : TypeId} {cs : List Value} (h : Blk w B T cs) (h1 : B ≠ p.sb) (h2 : B ≠ p.hb) : Blk (sayW p a b q w) B T cs := by
  cases a <;> cases b
  · exact blk_set h (by simpa using h2) _
  · exact blk_set (blk_set h (by simpa using h2) _) (by simpa using h2) _
  · exact blk_set h (by simpa using h1) _
  · exact blk_set (blk_set h (by simpa using h1) _) (by simpa using h1) _
theorem sayW_below {w : World} {p : SvP} {a b : Bool} {q : Int} {n : Nat} (h1 : n ≤ p.sb) (h2 : n ≤ p.hb) : Below n w (sayW p a b q w) := by
  cases a <;> cases b
  · exact (Below.refl n w).setCell (by simpa using h2) _
  · exact ((Below.refl n w).setCell (by simpa using h2) _).setCell (by simpa using h2) _
  · exact (Below.refl n w).setCell (by simpa using h1) _
  · exact ((Below.refl n w).setCell (by simpa using h1) _).setCell (by simpa using h1) _
def bools2 : List Value := [.bool true, .bool false]
end Go.Proofs.YtjfiodknjchngaaGreatDoor.Sol

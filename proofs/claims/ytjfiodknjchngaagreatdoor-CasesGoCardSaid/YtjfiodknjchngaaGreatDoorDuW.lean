/- The law's copies of duties and events; the first event of a kind; how a duty stands. How a duty stands on a day. The law's copies of events; how a duty stands on a day. -/
import Derived.Test.YtjfiodknjchngaaGreatDoorDuM
import Derived.Test.YtjfiodknjchngaaGreatDoorApp
import Derived.Deep.Quiet
import Derived.Deep.QuietTactic
import Derived.BigQuiet
import Derived.Deep.RegionHeld3
import Derived.StillTailTactics
import Derived.IntWalk
namespace Go.Proofs.YtjfiodknjchngaaGreatDoor.Dut
open Go.RowKit Mem Nest Sol App

def SlPost (cells : List Value) (n : Nat) (w : World) (e : Ending) (w' : World) : Prop := ∃ (A : Option Addr) (c : Nat), e = .returned (.slice A n c) ∧ Rd w' A cells ∧ n ≤ c ∧ c ≤ maxLen ∧ Below w.heap.size w w'
/-- what first hands on -/
def FirstPost (x : Dt) (wv : Bool) (on : Int) (es : List Ev) (w : World) (e : Ending) (w' : World) : Prop := e = .returned (.int .i64 (firstP x wv on es)) ∧ Below w.heap.size w w'
end Go.Proofs.YtjfiodknjchngaaGreatDoor.Dut
namespace Go.Proofs.YtjfiodknjchngaaGreatDoor.Dut
open Go.RowKit Mem Nest Sol App

end Go.Proofs.YtjfiodknjchngaaGreatDoor.Dut
namespace Go.Proofs.YtjfiodknjchngaaGreatDoor.Dut
open Go.RowKit Mem Nest Sol App

end Go.Proofs.YtjfiodknjchngaaGreatDoor.Dut

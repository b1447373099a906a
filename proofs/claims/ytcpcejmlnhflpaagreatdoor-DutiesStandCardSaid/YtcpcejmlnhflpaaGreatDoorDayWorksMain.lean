/- The law DayWorks answers true: the walk of the law. -/
import Derived.Test.YtcpcejmlnhflpaaGreatDoorCdBoth
namespace Go.Proofs.YtcpcejmlnhflpaaGreatDoor.DayWorks
open Go.RowKit Mem CdP MapSet Solve CdR CdM Day Nest RefDay App Thm Err

def BoolT (w : World) (e : Ending) (w' : World) : Prop := e = .returned (.bool true) ∧ Below w.heap.size w w'
/-- a calendar of nothing -/
theorem zero_cal (w : World) : CdA (w.alloc (.cells #[.bool false, .bool false, .bool false, .bool false, .bool false, .bool false, .bool false, .slice none 0 0] 136)) w.heap.size 0 (cdOf [] []) none 0 :=
  box_cd (offs := []) (i := 0) (hol := []) (T := 136) (by show Blk _ _ _ (boxCells [] 0 (.slice none 0 0)); rw [box_zero]; exact Blk.new w _ [_, _, _, _, _, _, _, _]) (.inr (by simp)) Rd.nil
theorem zero_ok : CdOk (cdOf [] []) := ⟨by simp [cdOf], by simp [cdOf]⟩
theorem zero_works : worksB (cdOf [] []) 5 = true := by decide
/-- plain data of a calendar, as it lies -/
structure Dat (w : World) (offs : List Bool) (hol : List Int) (AO : Option Addr) (co : Nat) (AH : Option Addr) (ch : Nat) : Prop where
  rO : Rd w AO (bls offs)
  rH : Rd w AH (ints hol)
  nil : AH = none → ch = 0
  ol : offs.length ≤ 9223372036854775807
  hl : hol.length ≤ 9223372036854775807
  wf : ∀ x ∈ hol, (Lit.int .i64 x).wf = true
theorem cd_ok {w : World} {offs : List Bool} {hol : List Int} {AO : Option Addr} {co : Nat} {AH : Option Addr} {ch : Nat} (h : Dat w offs hol AO co AH ch) (hl : hol.length ≤ 100) : CdOk (cdOf offs hol) := ⟨by show hol.length ≤ _; omega, h.wf⟩
end Go.Proofs.YtcpcejmlnhflpaaGreatDoor.DayWorks

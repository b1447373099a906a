/- FactsLater: the law's walk. -/
import Derived.Test.YtnchlnfenebomaaGreatDoorFkN
namespace Go.Proofs.YtnchlnfenebomaaGreatDoor.FactsLater
open Go.RowKit Mem Nest Err App Go.Sort Fk

def LawPost (w : World) (e : Ending) (w' : World) : Prop := e = .returned (.bool true) ∧ Below w.heap.size w w'
theorem early_len (kn : Int) (l : List Fa) : (earlyF kn l).length ≤ l.length := List.length_filter_le _ _
theorem oth40 (wh : Int) (nm : List UInt8) (on kn : Int) (l : List Fa) : (othersF wh nm on kn l).length ≤ 100000 := by
  unfold othersF
  have := oth_len (fun o => standsB (bestF wh nm on kn o l)) 40
  omega
theorem early_sub {kn : Int} {l : List Fa} {P : Fa → Prop} (h : ∀ x ∈ l, P x) : ∀ x ∈ earlyF kn l, P x := fun x hx => h x (List.mem_filter.1 hx).1
end Go.Proofs.YtnchlnfenebomaaGreatDoor.FactsLater

/- A map from strings to integers that the call has made: what is under a key, one more entry. -/
import Derived.Test.YtflklbhgjfonbaaGreatDoorProg
import Derived.Test.YtflklbhgjfonbaaGreatDoorNest
import Derived.Maps.OwnSet
import Derived.Maps.OwnOps
import Derived.Maps.Views
namespace Go.Proofs.YtflklbhgjfonbaaGreatDoor.Msi
open Go.RowKit Mem Nest

def enc (x : Int) : DataW Unit := .lit (.int .i64 x)
def rd : Value → Option (DataW Unit × List MemPlace)
  | .int .i64 x => some (enc x, [])
  | _ => none
theorem rd_inv {v : Value} {y : DataW Unit × List MemPlace} (h : rd v = some y) : ∃ x, v = .int .i64 x ∧ y = (enc x, []) := by
  unfold rd at h
  split at h
  · exact ⟨_, rfl, (Option.some.inj h).symm⟩
  · cases h
theorem enc_inj {x y : Int} (h : enc x = enc y) : x = y := by
  unfold enc at h
  injection h with h
  injection h
theorem zero_int (w : World) : (zeroValue 3).run Tryz.prog w = .ok (.int .i64 0) w := by kernel_rfl
theorem str_law : Go.Maps.Keyed Tryz.prog 9 := Go.Maps.string_keyed Tryz.underlying9
theorem str_key (s : List UInt8) (h : s.length ≤ 9223372036854775807) : keyOf Tryz.prog 9 (.string ⟨s.toArray⟩) = some (.string s) := by
  unfold keyOf mapKey
  have hs : (ByteArray.mk s.toArray).size ≤ maxLen := by
    show s.length ≤ _
    unfold maxLen
    omega
  simp [Tryz.underlying9, hs]
/-- block b is a map of at most n entries: under each key the number that g tells -/
def SI (w : World) (b n : Nat) (g : List UInt8 → Option Int) : Prop :=
  ∃ D : DataW Unit, w.ownsMap Tryz.prog 9 rd b n D ∧ ∀ s : List UInt8, s.length ≤ 9223372036854775807 → Maps.has D (.string s) = (g s).isSome ∧ ∀ x, g s = some x → ∀ z, D.atKey (.string s) z = enc x
theorem SI.made (w : World) : SI (w.alloc (.map #[] 0)) w.heap.size 0 (fun _ => none) :=
  ⟨_, World.ownsMap_made w _ _ _, fun o _ => ⟨rfl, fun x h => by cases h⟩⟩
theorem SI.lt {w : World} {b n : Nat} {g : List UInt8 → Option Int} (h : SI w b n g) : b < w.heap.size := by
  obtain ⟨D, hD, _⟩ := h
  exact hD.lt
theorem SI.ext {w w' : World} {b n : Nat} {g : List UInt8 → Option Int} (h : SI w b n g) (hb : Below w.heap.size w w') : SI w' b n g := by
  obtain ⟨D, hD, hs⟩ := h
  exact ⟨D, hD.kept (row := none) ⟨hb.os, hb.tape, hb.output, hb.size, fun k hk _ => hb.block k hk⟩ (by simp), hs⟩
end Go.Proofs.YtflklbhgjfonbaaGreatDoor.Msi

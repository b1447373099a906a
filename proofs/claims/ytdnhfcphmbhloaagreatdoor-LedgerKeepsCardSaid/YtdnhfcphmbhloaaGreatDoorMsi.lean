/- A map from strings to integers that the call has made: what is under a key, one more entry. -/
import Derived.Test.YtdnhfcphmbhloaaGreatDoorProg
import Derived.Test.YtdnhfcphmbhloaaGreatDoorNest
import Derived.Maps.OwnSet
import Derived.Maps.OwnOps
import Derived.Maps.Views
namespace Go.Proofs.YtdnhfcphmbhloaaGreatDoor.Msi
open Go.RowKit Mem Nest

def enc (x : Int) : DataW Unit := .lit (.int .i64 x)
def rd : Value → Option (DataW Unit × List MemPlace)
  | .int .i64 x => some (enc x, [])
  | _ => none
theorem rd_inv {v : Value} {y : DataW Unit × List MemPlace} (h : rd v = some y) : ∃ x, v = .int .i64 x ∧ y = (enc x, []) := by
  unfold rd at h
  split at h
  · exact ⟨_, rfl, (Option.some.inj h).symm⟩
  · cases h
theorem enc_inj {x y : Int} (h : enc x = enc y) : x = y := by
  unfold enc at h
  injection h with h
  injection h
theorem zero_int (w : World) : (zeroValue 3).run Tryz.prog w = .ok (.int .i64 0) w := by kernel_rfl
theorem str_law : Go.Maps.Keyed Tryz.prog 9 := Go.Maps.string_keyed Tryz.underlying9
theorem str_key (s : List UInt8) (h : s.length ≤ 9223372036854775807) : keyOf Tryz.prog 9 (.string ⟨s.toArray⟩) = some (.string s) := by
  unfold keyOf mapKey
  have hs : (ByteArray.mk s.toArray).size ≤ maxLen := by
    show s.length ≤ _
    unfold maxLen
    omega
  simp [Tryz.underlying9, hs]
/-- block b is a map of at most n entries: under each key the number that g tells -/
def SI (w : World) (b n : Nat) (g : List UInt8 → Option Int) : Prop :=
  ∃ D : DataW Unit, w.ownsMap Tryz.prog 9 rd b n D ∧ ∀ s : List UInt8, s.length ≤ 9223372036854775807 → Maps.has D (.string s) = (g s).isSome ∧ ∀ x, g s = some x → ∀ z, D.atKey (.string s) z = enc x
theorem SI.made (w : World) : SI (w.alloc (.map #[] 0)) w.heap.size 0 (fun _ => none) :=
  ⟨_, World.ownsMap_made w _ _ _, fun o _ => ⟨rfl, fun x h => by cases h⟩⟩
theorem SI.lt {w : World} {b n : Nat} {g : List UInt8 → Option Int} (h : SI w b n g) : b < w.heap.size := by
  obtain ⟨D, hD, _⟩ := h
  exact hD.lt
theorem SI.ext {w w' : World} {b n : Nat} {g : List UInt8 → Option Int} (h : SI w b n g) (hb : Below w.heap.size w w') : SI w' b n g := by
  obtain ⟨D, hD, hs⟩ := h
  exact ⟨D, hD.kept (row := none) ⟨hb.os, hb.tape, hb.output, hb.size, fun k hk _ => hb.block k hk⟩ (by simp), hs⟩
theorem SI.look {w : World} {b n : Nat} {g : List UInt8 → Option Int} (h : SI w b n g) {s : List UInt8} (hs : s.length ≤ 9223372036854775807) :
    (Instr.lookup 100 (.map (some b)) (.string ⟨s.toArray⟩) false).run Tryz.prog w = .ok (.int .i64 ((g s).getD 0)) w := by
  obtain ⟨D, ⟨es, clock, hb, F, _, rfl⟩, hg⟩ := h
  obtain ⟨h1, h2⟩ := hg s hs
  rcases Maps.fit_look (R := rd) false str_law Tryz.underlying100 (zero_int w) hb F (str_key s hs) with ⟨hrun, _, hat⟩ | ⟨e0, y, _, _, hrun, hRv, hat, _⟩
  · rw [Maps.has_false_of_atKey hat] at h1
    cases hq : g s with
    | none => simpa using hrun
    | some x => rw [hq] at h1; cases h1
  · rw [Maps.has_true_of_atKey hat] at h1
    cases hq : g s with
    | none => rw [hq] at h1; cases h1
    | some x =>
      have e := h2 x hq (enc 0)
      rw [hat] at e
      obtain ⟨x', hv, rfl⟩ := rd_inv hRv
      have := enc_inj e
      subst this
      rw [hv] at hrun
      simpa using hrun
theorem SI.upd {w : World} {b n : Nat} {g : List UInt8 → Option Int} (h : SI w b n g) {s : List UInt8} (ho : s.length ≤ 9223372036854775807) (hn : n < maxLen) (x : Int) :
    ∃ w', (Instr.mapUpdate 100 (.map (some b)) (.string ⟨s.toArray⟩) (.int .i64 x)).run Tryz.prog w = .ok () w' ∧ SI w' b (n + 1) (fun s' => if s' = s then some x else g s') ∧ w.grownBy w' (some b) := by
  obtain ⟨D, hD, hs⟩ := h
  obtain ⟨w', hrun, hD', hg⟩ := hD.update str_law Tryz.underlying100 hn (str_key s ho) (show rd (.int .i64 x) = some (enc x, []) from rfl)
  refine ⟨w', hrun, ⟨_, hD', fun o' ho' => ?_⟩, hg⟩
  show Maps.has _ _ = (if o' = s then some x else g o').isSome ∧ ∀ y, (if o' = s then some x else g o') = some y → _
  by_cases e : o' = s
  · subst e
    rw [if_pos rfl]
    exact ⟨Maps.has_put_same hD.isMap (str_law.key (str_key o' ho')) _, fun y hy z => by obtain rfl := Option.some.inj hy; exact Maps.atKey_put_same hD.isMap (str_law.key (str_key o' ho')) _ _⟩
  · have hne : (Lit.string o') ≠ .string s := fun h => e (by injection h)
    rw [if_neg e]
    obtain ⟨h1, h2⟩ := hs o' ho'
    exact ⟨by rw [Maps.has_put_other hne]; exact h1, fun y hy z => by rw [Maps.atKey_put_other hne]; exact h2 y hy z⟩
end Go.Proofs.YtdnhfcphmbhloaaGreatDoor.Msi

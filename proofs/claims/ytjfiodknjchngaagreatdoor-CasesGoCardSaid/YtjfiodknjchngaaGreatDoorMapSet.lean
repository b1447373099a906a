/- A map of bools that the call itself made: a set of keys. -/
import Derived.Maps.OwnSet
import Derived.Maps.Views
import Derived.Below
import Derived.WalkKit
import Derived.Test.YtjfiodknjchngaaGreatDoorMem
import Derived.Test.YtjfiodknjchngaaGreatDoorProg
namespace Go.Proofs.YtjfiodknjchngaaGreatDoor.MapSet
open Go.RowKit Go.Maps Mem

section
variable {P : Program} {k e t : TypeId} {w w' : World} {b n : Nat} {S : Value → Prop}
/-- block b is a map of at most n entries: true at the keys of S, false elsewhere -/
def SetM (P : Program) (k e : TypeId) (w : World) (b n : Nat) (S : Value → Prop) : Prop :=
  ∃ D : DataW Unit, w.ownsMap P k (plainElem P e) b n D ∧ ∀ key kl, keyOf P k key = some kl → ∃ c : Bool, D.atKey kl (.lit (.bool false)) = .lit (.bool c) ∧ (c = true ↔ S key)
theorem SetM.made (w : World) : SetM P k e (w.alloc (.map #[] 0)) w.heap.size 0 (fun _ => False) :=
  ⟨_, World.ownsMap_made w P k _, fun key kl h => ⟨false, by simp [DataW.atKey], by simp⟩⟩
theorem SetM.lt (h : SetM P k e w b n S) : b < w.heap.size := by
  obtain ⟨D, hD, _⟩ := h
  exact hD.lt
theorem SetM.ext (h : SetM P k e w b n S) (hb : Below w.heap.size w w') : SetM P k e w' b n S := by
  obtain ⟨D, hD, hs⟩ := h
  exact ⟨D, hD.kept (row := none) ⟨hb.os, hb.tape, hb.output, hb.size, fun k hk _ => hb.block k hk⟩ (by simp), hs⟩
theorem SetM.keep {B : Nat} (h : SetM P k e w b n S) (hlt : b < B) (hb : Below B w w') : SetM P k e w' b n S := by
  obtain ⟨D, ⟨es, cl, h1, h2⟩, hs⟩ := h
  exact ⟨D, ⟨es, cl, by rw [hb.block b hlt]; exact h1, h2⟩, hs⟩
theorem SetM.congr {S' : Value → Prop} (h : SetM P k e w b n S) (hS : ∀ x, S x ↔ S' x) : SetM P k e w b n S' := by
  obtain ⟨D, hD, hs⟩ := h
  refine ⟨D, hD, fun key kl hk => ?_⟩
  obtain ⟨c, h1, h2⟩ := hs key kl hk
  exact ⟨c, h1, h2.trans (hS key)⟩
theorem SetM.lookup (h : SetM P k e w b n S) (K : Keyed P k) (ht : P.underlying t = some (.map k e)) (he : P.underlying e = some .bool) (hz : (zeroValue e).run P w = .ok (.bool false) w)
    {key : Value} {kl : Lit} (hkey : keyOf P k key = some kl) : ∃ c : Bool, (Instr.lookup t (.map (some b)) key false).run P w = .ok (.bool c) w ∧ (c = true ↔ S key) := by
  obtain ⟨D, hD, hs⟩ := h
  obtain ⟨v, ps, hrun, hv⟩ := hD.lookup K ht hz (plainElem_bool he false) hkey
  obtain ⟨c, h1, h2⟩ := hs key kl hkey
  rw [h1] at hv
  have : v = .bool c := by
    unfold plainElem at hv
    rw [he] at hv
    cases v <;> simp at hv
    rw [hv.1]
  subst this
  exact ⟨c, hrun, h2⟩
theorem SetM.update (h : SetM P k e w b n S) (K : Keyed P k) (ht : P.underlying t = some (.map k e)) (he : P.underlying e = some .bool) (hn : n < maxLen) {key : Value} {kl : Lit} (hkey : keyOf P k key = some kl) :
    ∃ w', (Instr.mapUpdate t (.map (some b)) key (.bool true)).run P w = .ok () w' ∧ SetM P k e w' b (n + 1) (fun x => x = key ∨ S x) ∧ w.grownBy w' (some b) := by
  obtain ⟨D, hD, hs⟩ := h
  obtain ⟨w', hrun, hD', hg⟩ := hD.update K ht hn hkey (plainElem_bool he true)
  refine ⟨w', hrun, ⟨_, hD', fun x xl hx => ?_⟩, hg⟩
  by_cases e' : xl = kl
  · subst e'
    have := K.inj hx hkey
    subst this
    exact ⟨true, atKey_put_same hD.isMap (K.key hkey) _ _, by simp⟩
  · obtain ⟨c, h1, h2⟩ := hs x xl hx
    refine ⟨c, by rw [atKey_put_other e']; exact h1, h2.trans ?_⟩
    have : x ≠ key := by
      rintro rfl
      rw [hkey] at hx
      exact e' (Option.some.inj hx).symm
    simp [this]
/-- what a store leaves of the rest -/
theorem grown_keep {B : Nat} (hg : w.grownBy w' (some b)) (hB : B ≤ b) (hs : B ≤ w.heap.size) : Below B w w' :=
  (Below.refl _ w).grown hg hs fun g hg' => by cases hg'; exact hB
end
/-- the store, at the walk's operation -/
theorem wpList_set {P : Program} (w : World) {ops : Array Oper} {rest : List Oper} {o : Oper} {a : Act} {Q : Exit → Act → World → Prop}
    (hg : o.guard = none) (m x v : Operand) (t : TypeId) (hop : o.op = Op.mapUpdate t m x v)
    (k e : TypeId) (K : Keyed P k) (ht : P.underlying t = some (.map k e)) (he : P.underlying e = some .bool) (b n : Nat) (S : Value → Prop)
    (hm : a.eval m = .map (some b)) (hown : SetM P k e w b n S) (hn : n < maxLen) (key : Value) (kl : Lit) (hx : a.eval x = key) (hv : a.eval v = .bool true) (hkey : keyOf P k key = some kl)
    (hK : ∀ w', SetM P k e w' b (n + 1) (fun x => x = key ∨ S x) → w.grownBy w' (some b) → wpList P ops Q rest (a.put o.dst undef) w') :
    wpList P ops Q (o :: rest) a w := by
  refine wpList_plain hg fun K' hK' => ?_
  obtain ⟨w', hrun, r1, r2⟩ := hown.update K ht he hn hkey
  unfold Oper.wp
  simp [execOp, hop, hm, hx, hv, hrun, Result.andThen]
  exact hK' _ _ (hK w' r1 r2)
/-- the store, at a step of a region that draws its order -/
theorem step_set {P : Program} (w : World) {ops : Array Oper} {o : Oper} {a : Act} {K : Act → World → Prop} {Q : Exit → Act → World → Prop} {E : Prop}
    (hg : o.guard = none) (m x v : Operand) (t : TypeId) (hop : o.op = Op.mapUpdate t m x v)
    (k e : TypeId) (Kd : Keyed P k) (ht : P.underlying t = some (.map k e)) (he : P.underlying e = some .bool) (b n : Nat) (S : Value → Prop)
    (hm : a.eval m = .map (some b)) (hown : SetM P k e w b n S) (hn : n < maxLen) (key : Value) (kl : Lit) (hx : a.eval x = key) (hv : a.eval v = .bool true) (hkey : keyOf P k key = some kl)
    (hK : ∀ w', SetM P k e w' b (n + 1) (fun x => x = key ∨ S x) → w.grownBy w' (some b) → K (a.put o.dst undef) w') :
    if Region.wanted o (yielded ops a.tmps) = true then Oper.wp P o a w K Q else E := by
  have hw : Region.wanted o (yielded ops a.tmps) = true := by simp [Region.wanted, hg]
  rw [if_pos hw]
  obtain ⟨w', hrun, r1, r2⟩ := hown.update Kd ht he hn hkey
  unfold Oper.wp
  simp [execOp, hop, hm, hx, hv, hrun, Result.andThen]
  exact hK w' r1 r2
end Go.Proofs.YtjfiodknjchngaaGreatDoor.MapSet

/- Facts: the map of the facts that count, by the other one. -/
import Derived.Test.YtnchlnfenebomaaGreatDoorFkU
import Derived.Maps.OwnSet
import Derived.Maps.OwnOps
import Derived.Maps.Views
import Derived.Maps.RangeWalk
namespace Go.Proofs.YtnchlnfenebomaaGreatDoor.Fk
open Go.RowKit Mem Nest Err App Go.Sort

def encFa (x : Fa) : DataW Unit := .agg [.lit (.int .i64 x.who), .lit (.string x.name), .lit (.int .i64 x.other), .lit (.int .i64 x.value), .lit (.int .i64 x.from_), .lit (.int .i64 x.to_), .lit (.int .i64 x.learnt)]
/-- how a fact in the map reads -/
def rfa : Value → Option (DataW Unit × List MemPlace)
  | .agg ⟨[.int .i64 a, .string s, .int .i64 c, .int .i64 d, .int .i64 e, .int .i64 f, .int .i64 g]⟩ => some (encFa ⟨a, s.data.toList, c, d, e, f, g⟩, [])
  | _ => none
theorem rfa_mk (x : Fa) : rfa (.agg (faC x).toArray) = some (encFa x, []) := by
  obtain ⟨a, s, c, d, e, f, g⟩ := x
  rfl
theorem rfa_inv {v : Value} {y : DataW Unit × List MemPlace} (h : rfa v = some y) : ∃ x, v = .agg (faC x).toArray ∧ y = (encFa x, []) := by
  unfold rfa at h
  split at h
  · rename_i a s c d e f g
    refine ⟨⟨a, s.data.toList, c, d, e, f, g⟩, ?_, (Option.some.inj h).symm⟩
    have : (⟨s.data.toList.toArray⟩ : ByteArray) = s := by cases s; simp
    simp only [faC, this]
  · cases h
theorem encFa_inj {x y : Fa} (h : encFa x = encFa y) : x = y := by
  obtain ⟨a, s, c, d, e, f, g⟩ := x
  obtain ⟨a', s', c', d', e', f', g'⟩ := y
  unfold encFa at h
  simp at h
  obtain ⟨rfl, rfl, rfl, rfl, rfl, rfl, rfl⟩ := h
  rfl
def zeroFa : Fa := ⟨0, [], 0, 0, 0, 0, 0⟩
theorem zero_fact (w : World) : (zeroValue 102).run Tryz.prog w = .ok (.agg (faC zeroFa).toArray) w := by kernel_rfl
theorem int_law : Go.Maps.Keyed Tryz.prog 3 := Go.Maps.int_keyed Tryz.underlying3
def Wf (o : Int) : Prop := (Lit.int .i64 o).wf = true
theorem int_key (o : Int) (h : Wf o) : keyOf Tryz.prog 3 (.int .i64 o) = some (.int .i64 o) := by
  unfold keyOf mapKey
  simp [Tryz.underlying3, show (Lit.int .i64 o).wf = true from h]
theorem wf_of {o : Int} (h : -1 ≤ o) (h2 : o ≤ 40) : Wf o := by
  show (decide (IntKind.min .i64 ≤ o) && decide (o ≤ IntKind.max .i64)) = true
  have e1 : IntKind.min .i64 = -9223372036854775808 := by kernel_rfl
  have e2 : IntKind.max .i64 = 9223372036854775807 := by kernel_rfl
  rw [e1, e2, Bool.and_eq_true, decide_eq_true_iff, decide_eq_true_iff]
  omega
/-- block b is a map of at most n entries: under each key the fact that g tells -/
def FM (w : World) (b n : Nat) (g : Int → Option Fa) : Prop :=
  ∃ D : DataW Unit, w.ownsMap Tryz.prog 3 rfa b n D ∧ ∀ o, Wf o → Maps.has D (.int .i64 o) = (g o).isSome ∧ ∀ x, g o = some x → ∀ z, D.atKey (.int .i64 o) z = encFa x
theorem FM.made (w : World) : FM (w.alloc (.map #[] 0)) w.heap.size 0 (fun _ => none) :=
  ⟨_, World.ownsMap_made w _ _ _, fun o _ => ⟨rfl, fun x h => by cases h⟩⟩
theorem FM.lt {w : World} {b n : Nat} {g : Int → Option Fa} (h : FM w b n g) : b < w.heap.size := by
  obtain ⟨D, hD, _⟩ := h
  exact hD.lt
theorem FM.ext {w w' : World} {b n : Nat} {g : Int → Option Fa} (h : FM w b n g) (hb : Below w.heap.size w w') : FM w' b n g := by
  obtain ⟨D, hD, hs⟩ := h
  exact ⟨D, hD.kept (row := none) ⟨hb.os, hb.tape, hb.output, hb.size, fun k hk _ => hb.block k hk⟩ (by simp), hs⟩
theorem FM.look {w : World} {b n : Nat} {g : Int → Option Fa} (h : FM w b n g) {o : Int} (ho : Wf o) :
    ∃ (y : Fa) (ok : Bool), (Instr.lookup 171 (.map (some b)) (.int .i64 o) true).run Tryz.prog w = .ok (.tuple #[.agg (faC y).toArray, .bool ok]) w ∧ ((ok = true ∧ g o = some y) ∨ (ok = false ∧ g o = none ∧ y = zeroFa)) := by
  obtain ⟨D, hD, hs⟩ := h
  obtain ⟨h1, h2⟩ := hs o ho
  obtain ⟨v, ps, hrun, hv⟩ := hD.look_ok int_law Tryz.underlying171 (zero_fact w) (rfa_mk zeroFa) (int_key o ho)
  obtain ⟨y, rfl, hy⟩ := rfa_inv hv
  refine ⟨y, _, hrun, ?_⟩
  cases hg : g o with
  | some x =>
    rw [hg] at h1
    refine .inl ⟨h1, ?_⟩
    have e := congrArg Prod.fst hy
    rw [h2 x hg] at e
    rw [encFa_inj e]
  | none =>
    rw [hg] at h1
    refine .inr ⟨h1, rfl, ?_⟩
    have e := congrArg Prod.fst hy
    rw [Maps.atKey_of_not_has h1] at e
    exact (encFa_inj e).symm
theorem FM.upd {w : World} {b n : Nat} {g : Int → Option Fa} (h : FM w b n g) {o : Int} (ho : Wf o) (hn : n < maxLen) (x : Fa) :
    ∃ w', (Instr.mapUpdate 171 (.map (some b)) (.int .i64 o) (.agg (faC x).toArray)).run Tryz.prog w = .ok () w' ∧ FM w' b (n + 1) (fun o' => if o' = o then some x else g o') ∧ w.grownBy w' (some b) := by
  obtain ⟨D, hD, hs⟩ := h
  obtain ⟨w', hrun, hD', hg⟩ := hD.update int_law Tryz.underlying171 hn (int_key o ho) (rfa_mk x)
  refine ⟨w', hrun, ⟨_, hD', fun o' ho' => ?_⟩, hg⟩
  show Maps.has _ _ = (if o' = o then some x else g o').isSome ∧ ∀ y, (if o' = o then some x else g o') = some y → _
  by_cases e : o' = o
  · subst e
    rw [if_pos rfl]
    exact ⟨Maps.has_put_same hD.isMap (int_law.key (int_key o' ho')) _, fun y hy z => by obtain rfl := Option.some.inj hy; exact Maps.atKey_put_same hD.isMap (int_law.key (int_key o' ho')) _ _⟩
  · have hne : (Lit.int .i64 o') ≠ .int .i64 o := fun h => e (by injection h)
    rw [if_neg e]
    obtain ⟨h1, h2⟩ := hs o' ho'
    exact ⟨by rw [Maps.has_put_other hne]; exact h1, fun y hy z => by rw [Maps.atKey_put_other hne]; exact h2 y hy z⟩
theorem FM.congr {w : World} {b n : Nat} {g g' : Int → Option Fa} (h : FM w b n g) (he : ∀ o, Wf o → g o = g' o) : FM w b n g' := by
  obtain ⟨D, hD, hs⟩ := h
  exact ⟨D, hD, fun o ho => by rw [← he o ho]; exact hs o ho⟩
end Go.Proofs.YtnchlnfenebomaaGreatDoor.Fk

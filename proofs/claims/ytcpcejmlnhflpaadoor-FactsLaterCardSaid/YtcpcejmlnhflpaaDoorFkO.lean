/- Facts: the others, as the program's range over the map of the facts that count gathers them. -/
import Derived.Test.YtcpcejmlnhflpaaDoorFkV
namespace Go.Proofs.YtcpcejmlnhflpaaDoor.Fk
open Go.RowKit Mem Nest Err App Go.Sort

/-- what has been gathered, by what is still to come -/
def Gath (g : Int → Option Fa) (left : Lit → Bool) (ks : List Int) : Prop :=
  ks.Nodup ∧ (∀ o ∈ ks, Wf o) ∧ ∀ o, Wf o → (o ∈ ks ↔ 0 ≤ o ∧ left (.int .i64 o) = false ∧ standsB (g o) = true)
theorem stands_some {g : Option Fa} (h : standsB g = true) : g.isSome = true := by
  cases g with
  | none => exact absurd h (by decide)
  | some _ => rfl
theorem Gath.start {g : Int → Option Fa} {D : DataW Unit} (h : ∀ o, Wf o → Maps.has D (.int .i64 o) = (g o).isSome) : Gath g (Maps.has D) [] := by
  refine ⟨List.nodup_nil, (fun o h => by cases h), fun o ho => ⟨(fun h => by cases h), ?_⟩⟩
  rintro ⟨_, h1, h2⟩
  rw [h o ho, stands_some h2] at h1
  cases h1
theorem same_int (o x : Int) : (Lit.int .i64 o).sameKey (.int .i64 x) = decide (o = x) := by
  by_cases e : o = x
  · subst e
    rw [decide_eq_true rfl]
    simp [Lit.sameKey]
  · rw [decide_eq_false e]
    exact Maps.sameKey_ne (fun h => e (by injection h))
theorem Gath.step {g : Int → Option Fa} {left : Lit → Bool} {ks : List Int} (h : Gath g left ks) {x : Int} (hw : Wf x) (hl : left (.int .i64 x) = true) :
    (0 ≤ x → standsB (g x) = true → Gath g (fun z => left z && !z.sameKey (.int .i64 x)) (ks ++ [x])) ∧
    (¬ (0 ≤ x ∧ standsB (g x) = true) → Gath g (fun z => left z && !z.sameKey (.int .i64 x)) ks) := by
  obtain ⟨h1, h2, h3⟩ := h
  have hx : x ∉ ks := fun hm => by
    have := ((h3 x hw).1 hm).2.1
    rw [hl] at this
    cases this
  refine ⟨fun h0 hs => ⟨?_, ?_, ?_⟩, fun hn => ⟨h1, h2, ?_⟩⟩
  · rw [List.nodup_append]
    refine ⟨h1, by simp, ?_⟩
    intro a ha b hb e
    rw [List.mem_singleton] at hb
    subst hb e
    exact hx ha
  · intro o ho
    rw [List.mem_append, List.mem_singleton] at ho
    rcases ho with ho | rfl
    · exact h2 o ho
    · exact hw
  · intro o ho
    rw [List.mem_append, List.mem_singleton, h3 o ho]
    show _ ↔ 0 ≤ o ∧ (left (.int .i64 o) && !(Lit.int .i64 o).sameKey (.int .i64 x)) = false ∧ _
    rw [same_int]
    by_cases e : o = x
    · subst e
      simp [h0, hs]
    · simp [e]
  · intro o ho
    rw [h3 o ho]
    show _ ↔ 0 ≤ o ∧ (left (.int .i64 o) && !(Lit.int .i64 o).sameKey (.int .i64 x)) = false ∧ _
    rw [same_int]
    by_cases e : o = x
    · subst e
      simp only [hl, decide_true, Bool.not_true, Bool.and_false]
      constructor
      · rintro ⟨_, h, _⟩
        cases h
      · rintro ⟨ha, _, hb⟩
        exact absurd ⟨ha, hb⟩ hn
    · simp [e]
theorem Gath.done {wh : Int} {nm : List UInt8} {on kn : Int} {l : List Fa} {left : Lit → Bool} {ks : List Int} (h : Gath (fun o => bestF wh nm on kn o l) left ks) (hl : ∀ z, left z = false) (hk : Kept l) (hok : Oks l) : (ks.mergeSort fun x y => decide (x ≤ y)) = othersF wh nm on kn l := by
  obtain ⟨h1, h2, h3⟩ := h
  refine others_of hk h1 fun o => ⟨fun ho => ?_, ?_⟩
  · obtain ⟨a, _, b⟩ := (h3 o (h2 o ho)).1 ho
    exact ⟨a, b⟩
  · rintro ⟨a, b⟩
    have hw : Wf o := by
      cases hb : bestF wh nm on kn o l with
      | none => rw [hb] at b; exact absurd b (by decide)
      | some y =>
        obtain ⟨m, _, e⟩ := best_hit hb
        have hy := hok y m
        exact wf_of (by omega) (by omega)
    exact (h3 o hw).2 ⟨a, hl _, b⟩
end Go.Proofs.YtcpcejmlnhflpaaDoor.Fk

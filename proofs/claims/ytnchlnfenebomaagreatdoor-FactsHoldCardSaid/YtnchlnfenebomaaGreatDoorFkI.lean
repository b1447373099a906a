/- Facts: the document's insert: one more day among sorted days. -/
import Derived.Test.YtnchlnfenebomaaGreatDoorFkE
namespace Go.Proofs.YtnchlnfenebomaaGreatDoor.Fk
open Go.RowKit Mem Nest Err App

theorem ins_at (n : Int) : ∀ (l : List Int) (i : Nat), i ≤ l.length → (∀ j (h : j < l.length), j < i → l[j] < n) → (∀ h : i < l.length, ¬ l[i] < n) → ins l n = l.take i ++ [n] ++ (if ∃ h : i < l.length, l[i] = n then l.drop (i + 1) else l.drop i)
  | [], i, hi, _, _ => by
    have : i = 0 := by simpa using hi
    subst this
    simp [ins]
  | x :: l, 0, _, _, h2 => by
    have hx : ¬ x < n := h2 (by simp)
    rw [ins, if_neg hx]
    by_cases he : x = n
    · rw [if_pos he, if_pos ⟨by simp, he⟩]
      simp
    · rw [if_neg he, if_neg (fun ⟨_, h⟩ => he h)]
      simp
  | x :: l, i + 1, hi, h1, h2 => by
    have hx : x < n := h1 0 (by simp) (by omega)
    have ih := ins_at n l i (by simpa using hi) (fun j h hj => h1 (j + 1) (by simpa using h) (by omega)) (fun h => h2 (by simpa using h))
    rw [ins, if_pos hx, ih]
    by_cases he : ∃ h : i < l.length, l[i] = n
    · rw [if_pos he, if_pos (by obtain ⟨h, e⟩ := he; exact ⟨by simpa using h, e⟩)]
      simp
    · rw [if_neg he, if_neg (by rintro ⟨h, e⟩; exact he ⟨by simpa using h, e⟩)]
      simp
theorem ints_take (zs : List Int) (k : Nat) : ints (zs.take k) = (ints zs).take k := by simp [ints]
theorem ints_drop (zs : List Int) (k : Nat) : ints (zs.drop k) = (ints zs).drop k := by simp [ints]
theorem ints_one (zs : List Int) : ∀ u ∈ ints zs, u.oneCell' = true := by
  intro u hu
  obtain ⟨z, _, rfl⟩ := List.mem_map.1 hu
  rfl
theorem rd_from {w : World} {b o : Nat} {cs : List Value} (h : Rd w (some ⟨b, o, none⟩) cs) (k : Nat) : Rd w (some ⟨b, o + k, none⟩) (cs.drop k) := fun j u hj => by
  rw [List.getElem?_drop] at hj
  obtain ⟨b', o', e, hc⟩ := h _ u hj
  cases e
  exact ⟨b, o + k, rfl, by rw [Nat.add_assoc]; exact hc⟩
end Go.Proofs.YtnchlnfenebomaaGreatDoor.Fk

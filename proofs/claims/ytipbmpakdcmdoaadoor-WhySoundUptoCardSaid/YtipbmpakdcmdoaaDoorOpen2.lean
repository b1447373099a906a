/- Slices of structs among the arguments, opened to the walks' own words. -/
import Derived.Test.YtipbmpakdcmdoaaDoorOpen
import Derived.Test.YtipbmpakdcmdoaaDoorNest
namespace Go.Proofs.YtipbmpakdcmdoaaDoor.Open
open Go.ChangeShapes Go.WideShapes Go.ChangeAt Go.RowKit Mem

theorem pick {α : Type} {P : Nat → α → Prop} : ∀ (n : Nat), (∀ i, i < n → ∃ r, P i r) → ∃ l : List α, l.length = n ∧ ∀ (i : Nat) (r : α), l[i]? = some r → P i r
  | 0, _ => ⟨[], rfl, fun i r h => by simp at h⟩
  | n + 1, h => by
    obtain ⟨l, hl, hp⟩ := pick n (fun i hi => h i (by omega))
    obtain ⟨r, hr⟩ := h n (by omega)
    refine ⟨l ++ [r], by simp [hl], fun i r' h' => ?_⟩
    by_cases hi : i < l.length
    · rw [List.getElem?_append_left hi] at h'
      exact hp i r' h'
    · rw [List.getElem?_append_right (by omega)] at h'
      have hlt := (List.getElem?_eq_some_iff.1 h').1
      simp at hlt
      have : i = n := by omega
      subst this
      rw [hl] at h'
      simp at h'
      subst h'
      exact hr

section
variable {H : Type} {enc : TypeId × Value → H} {P : Program} {w : World} {base : Nat} {spare : Nat → Bool} {held : Bool}
/-- a slice came in, whose elements are read by a reader of the element's type -/
theorem rows_of {α : Type} {f : α → List Value} {Q : α → Prop} {sz : Nat} {t e : TypeId} (hsz : 0 < sz) (hf : ∀ x, (f x).length = sz) (ht : P.underlying t = some (.slice e)) (hc : P.cellsOf e = sz)
    (hread : ∀ n cs y, DataW.trod enc P w base spare held n e cs = some y → ∃ r, cs = f r ∧ Q r)
    {A : Option Addr} {n c fuel : Nat} {x : DataW H × List MemPlace} (h : DataW.trod enc P w base spare held fuel t (Value.slice A n c).cells.toList = some x) :
    ∃ l : List α, n = l.length ∧ l.length ≤ c ∧ c ≤ maxLen ∧ Rd w A (l.flatMap f) ∧ ∀ r ∈ l, Q r := by
  rcases DataW.trod_slice ht h with ⟨h0, _⟩ | ⟨a, len, cap, elems, rest, m, _, hcs, _, _, hl, hm, hlen, hel, _, _⟩
  · simp [Value.cells] at h0
    obtain ⟨rfl, rfl, rfl⟩ := h0
    exact ⟨[], rfl, by simp, by simp [maxLen], Rd.nil, by simp⟩
  · simp [Value.cells] at hcs
    obtain ⟨rfl, rfl, rfl⟩ := hcs
    have each : ∀ i, i < n → ∃ r, w.cells? base (a.add (i * sz)) sz = some (f r) ∧ Q r := by
      intro i hi
      have hb := hel i hi
      rw [hc, List.getElem?_eq_getElem (by omega), Option.bind_eq_some_iff] at hb
      obtain ⟨cs, h1, h2⟩ := hb
      obtain ⟨r, rfl, hq⟩ := hread _ _ _ h2
      exact ⟨r, h1, hq⟩
    obtain ⟨l, hll, hp⟩ := pick n each
    refine ⟨l, hll.symm, by omega, hm, ?_, fun r hr => ?_⟩
    · intro j u hj
      have hjl : j < l.length * sz := by
        have := (List.getElem?_eq_some_iff.1 hj).1
        rwa [flat_len hf] at this
      have hk : j / sz < l.length := (Nat.div_lt_iff_lt_mul hsz).2 hjl
      have hm' : j % sz < sz := Nat.mod_lt _ hsz
      have hsplit : j / sz * sz + j % sz = j := Nat.div_add_mod' j sz
      have hcell := (World.cells?_some (hp (j / sz) _ (List.getElem?_eq_getElem hk)).1).2.2 (j % sz) hm'
      have hv : (f l[j / sz])[j % sz]? = some u := by
        have := flat_at hf l (j / sz) (j % sz) hm'
        rw [hsplit, hj, List.getElem?_eq_getElem hk] at this
        exact this.symm
      rw [hv, Addr.add_add, hsplit] at hcell
      obtain ⟨b, off, spot⟩ := a
      have hpos : 0 < l.length := Nat.lt_of_le_of_lt (Nat.zero_le _) hk
      have h0 := (World.cells?_some (hp 0 _ (List.getElem?_eq_getElem hpos)).1).2.2 0 hsz
      have hv0 : (f (l[0]'hpos))[0]? = some ((f (l[0]'hpos))[0]'(by rw [hf]; exact hsz)) := List.getElem?_eq_getElem _
      rw [hv0] at h0
      have hs := World.cell?_spot h0
      have : spot = none := by simpa [Addr.add] using hs
      subst this
      rw [add_plain] at hcell
      exact ⟨b, off, rfl, hcell⟩
    · obtain ⟨i, hi⟩ := List.getElem?_of_mem hr
      exact (hp i r hi).2
end
end Go.Proofs.YtipbmpakdcmdoaaDoor.Open

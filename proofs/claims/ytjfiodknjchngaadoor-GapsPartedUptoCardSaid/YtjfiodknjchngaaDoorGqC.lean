/- Gaps: the statement's clashes. -/
import Derived.Test.YtjfiodknjchngaaDoorGpH
import Derived.Test.YtjfiodknjchngaaDoorGqS
import Derived.Test.YtjfiodknjchngaaDoorGpF
namespace Go.Proofs.YtjfiodknjchngaaDoor.Gp
open Go.RowKit Mem Nest Fk Err

def ClRes (ns : List Nat) (rs : List Rw) (a b : Int) (cs : List Int) (sm : Bool) : Prop :=
  (sm = false ∧ a = 0 ∧ b = 0 ∧ cs = [] ∧ NoCl ns rs rs.length 0) ∨ (sm = true ∧ ∃ i k : Nat, a = i ∧ b = k ∧ i < k ∧ k < rs.length ∧ NoCl ns rs i k ∧ clAt ns rs i k = some cs)
theorem ClRes.at {ns : List Nat} {rs : List Rw} {a b : Int} {cs d : List Int} {sm : Bool} {i k : Nat} (h : ClRes ns rs a b cs sm) (hN : NoCl ns rs i k) (hik : i < k) (hk : k < rs.length) (hc : clAt ns rs i k = some d) :
    sm = true ∧ a = i ∧ b = k ∧ cs = d := by
  rcases h with ⟨_, _, _, _, h1⟩ | ⟨h0, i', k', rfl, rfl, hik', hk', hN', hc'⟩
  · rw [h1 i k hik hk (.inl (by omega))] at hc
    cases hc
  · by_cases h1 : i < i' ∨ (i = i' ∧ k < k')
    · rw [hN' i k hik hk h1] at hc
      cases hc
    · by_cases h2 : i' < i ∨ (i' = i ∧ k' < k)
      · rw [hN i' k' hik' hk' h2] at hc'
        cases hc'
      · have e1 : i' = i := by omega
        have e2 : k' = k := by omega
        subst e1 e2
        rw [hc'] at hc
        exact ⟨h0, rfl, rfl, by simpa using hc⟩
theorem ClRes.no {ns : List Nat} {rs : List Rw} {a b : Int} {cs : List Int} {sm : Bool} (h : ClRes ns rs a b cs sm) (hN : NoCl ns rs rs.length 0) : sm = false ∧ a = 0 ∧ b = 0 ∧ cs = [] := by
  rcases h with ⟨h1, h2, h3, h4, _⟩ | ⟨_, i', k', _, _, hik', hk', _, hc'⟩
  · exact ⟨h1, h2, h3, h4⟩
  · rw [hN i' k' hik' hk' (.inl (by omega))] at hc'
    cases hc'
theorem NoCl.last {ns : List Nat} {rs : List Rw} (h : NoCl ns rs rs.length (rs.length + 1)) : NoCl ns rs rs.length 0 := fun a b h1 h2 h3 => h a b h1 h2 (by omega)
def bothF (rs : List Rw) (i k : Nat) (c : List Int) : Bool := fitR (rAt rs i).cells c && fitR (rAt rs k).cells c
theorem clAt_first {ns : List Nat} {rs : List Rw} {xs : List LM} (hx : xs.map LM.l = exts ns) (hN : ∀ r ∈ rs, r.cells.length = ns.length) {i k n : Nat} (hi : i < rs.length) (hk : k < rs.length) (ho : ((rAt rs i).out == (rAt rs k).out) = false)
    (hn : n < xs.length) (hb : bothF rs i k xs[n].l = true) (hl : ∀ j (h : j < xs.length), j < n → bothF rs i k xs[j].l = false) : clAt ns rs i k = some xs[n].l := by
  have e1 : (rAt rs i).cells.length = ns.length := by rw [rAt_get hi]; exact hN _ (List.getElem_mem hi)
  have e2 : (rAt rs k).cells.length = ns.length := by rw [rAt_get hk]; exact hN _ (List.getElem_mem hk)
  unfold clAt
  rw [if_neg (by rw [ho]; simp), ← comm_find ns _ _ e1 e2, ← hx, List.find?_eq_some_iff_getElem]
  refine ⟨hb, n, by simpa using hn, by simp, fun j hj => ?_⟩
  have := hl j (by omega) hj
  unfold bothF at this
  simp only [List.getElem_map]
  rw [this]
  rfl
theorem clAt_never {ns : List Nat} {rs : List Rw} {xs : List LM} (hx : xs.map LM.l = exts ns) (hN : ∀ r ∈ rs, r.cells.length = ns.length) {i k : Nat} (hi : i < rs.length) (hk : k < rs.length) (ho : ((rAt rs i).out == (rAt rs k).out) = false)
    (hl : ∀ j (h : j < xs.length), bothF rs i k xs[j].l = false) : clAt ns rs i k = none := by
  have e1 : (rAt rs i).cells.length = ns.length := by rw [rAt_get hi]; exact hN _ (List.getElem_mem hi)
  have e2 : (rAt rs k).cells.length = ns.length := by rw [rAt_get hk]; exact hN _ (List.getElem_mem hk)
  unfold clAt
  rw [if_neg (by rw [ho]; simp), ← comm_find ns _ _ e1 e2, ← hx, List.find?_eq_none]
  intro c hc
  obtain ⟨x, hx2, rfl⟩ := List.mem_map.1 hc
  obtain ⟨j, hj, rfl⟩ := List.mem_iff_getElem.1 hx2
  have := hl j hj
  unfold bothF at this
  rw [this]
  simp
end Go.Proofs.YtjfiodknjchngaaDoor.Gp

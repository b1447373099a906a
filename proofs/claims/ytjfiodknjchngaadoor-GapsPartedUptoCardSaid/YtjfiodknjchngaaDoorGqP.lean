/- Gaps: the document's table out of the raw one; the statement's loops over all cases, in plain lists. -/
import Derived.Test.YtjfiodknjchngaaDoorGqT
import Derived.Test.YtjfiodknjchngaaDoorGqC
import Derived.Test.YtjfiodknjchngaaDoorGpI
import Derived.Test.YtjfiodknjchngaaDoorGpT
namespace Go.Proofs.YtjfiodknjchngaaDoor.Gp
open Go.RowKit Mem Nest Fk Err

/-- the document's rows, of the raw ones -/
def rcM (x : RC) : CellM := ⟨rcL x, x.A, x.c⟩
def rrM (r : RR) : RwM := ⟨r.cells.map rcM, r.A, r.c, r.out⟩
theorem rrM_rw (rrs : List RR) : (rrs.map rrM).map RwM.rw = rrs.map rrRw := by
  rw [List.map_map]
  apply List.map_congr_left
  intro r _
  simp [rrM, RwM.rw, rrRw, rcM, Function.comp_def]
theorem rcM_cells {x : RC} (h : x.all = true → x.l = []) : dcCells (rcM x) = rcCells x := by
  obtain ⟨al, l, A, c⟩ := x
  cases al with
  | false => rfl
  | true =>
    have := h rfl
    simp only at this
    subst this
    rfl
theorem rcM_ints {x : RC} (h : x.all = true → x.l = []) : (rcM x).l.getD [] = x.l := by
  obtain ⟨al, l, A, c⟩ := x
  cases al with
  | false => rfl
  | true =>
    have := h rfl
    simp only at this
    subst this
    rfl
theorem flat_congr {α : Type} {f g : α → List Value} : ∀ {l : List α}, (∀ x ∈ l, f x = g x) → l.flatMap f = l.flatMap g
  | [], _ => rfl
  | x :: l, h => by rw [List.flatMap_cons, List.flatMap_cons, h x (by simp), flat_congr fun y hy => h y (by simp [hy])]
theorem drows_of {w : World} {B : Option Addr} {rrs : List RR} (hr : RawR w B rrs) (hri : ∀ r ∈ rrs, ∀ x ∈ r.cells, Rd w x.A (ints x.l)) (hcl : ∀ r ∈ rrs, r.cells.length ≤ 1048576 ∧ ∀ x ∈ r.cells, RcOk x) (ha : ∀ r ∈ rrs, ∀ x ∈ r.cells, x.all = true → x.l = []) : DRows w B (rrs.map rrM) where
  rows := by
    have e : (rrs.map rrM).flatMap rwmCells = rrs.flatMap rrCells := by
      rw [List.flatMap_map]
      exact flat_congr fun r _ => by simp [rwmCells, rrM, rrCells]
    rw [e]
    exact hr.rows
  cells := fun m hm => by
    obtain ⟨r, hr2, rfl⟩ := List.mem_map.1 hm
    refine ⟨?_, fun x hx => ?_, fun x hx => ?_⟩
    · have e : (rrM r).cells.flatMap dcCells = r.cells.flatMap rcCells := by
        show (r.cells.map rcM).flatMap dcCells = _
        rw [List.flatMap_map]
        exact flat_congr fun x hx => rcM_cells (ha r hr2 x hx)
      rw [e]
      exact hr.cells r hr2
    · obtain ⟨y, hy, rfl⟩ := List.mem_map.1 hx
      rw [rcM_ints (ha r hr2 y hy)]
      exact hri r hr2 y hy
    · obtain ⟨y, hy, rfl⟩ := List.mem_map.1 hx
      rw [rcM_ints (ha r hr2 y hy)]
      exact ((hcl r hr2).2 y hy).len
/-- lengths, of plain tables -/
structure SmallP (qs : List Qn) (rs : List Rw) : Prop where
  nm : ∀ q ∈ qs, q.name.length ≤ 9223372036854775807
  an : ∀ q ∈ qs, ∀ s ∈ q.ans, s.length ≤ 9223372036854775807
  al : ∀ q ∈ qs, q.ans.length ≤ 1048576
  ql : qs.length ≤ 1048576
  rl : rs.length ≤ 1048576
  out : ∀ r ∈ rs, r.out.length ≤ 9223372036854775807
  cl : ∀ r ∈ rs, r.cells.length ≤ 1048576
theorem SmallP.small {qms : List QnM} {ms : List RwM} {qs : List Qn} {rs : List Rw} (h : SmallP qs rs) (hq : qms.map QnM.qn = qs) (hm : ms.map RwM.rw = rs) : SmallT qms ms where
  nm := fun q h1 => h.nm q.qn (by rw [← hq]; exact List.mem_map.2 ⟨q, h1, rfl⟩)
  an := fun q h1 => h.an q.qn (by rw [← hq]; exact List.mem_map.2 ⟨q, h1, rfl⟩)
  al := fun q h1 => h.al q.qn (by rw [← hq]; exact List.mem_map.2 ⟨q, h1, rfl⟩)
  ql := by have := h.ql; rw [← hq, List.length_map] at this; exact this
  rl := by have := h.rl; rw [← hm, List.length_map] at this; exact this
  out := fun r h1 => h.out r.rw (by rw [← hm]; exact List.mem_map.2 ⟨r, h1, rfl⟩)
  cl := fun r h1 => by
    have := h.cl r.rw (by rw [← hm]; exact List.mem_map.2 ⟨r, h1, rfl⟩)
    unfold RwM.rw at this
    rw [List.length_map] at this
    exact this
/-- the law's first loop, from the last case down to one -/
def GapR (rs : List Rw) (xs : List LM) (j : Nat) (g : Int) : Prop :=
  (g = -1 ∧ ∀ i (h : i < xs.length), j ≤ i → saysF rs xs[i].l ≠ none) ∨
  (∃ m, ∃ h : m < xs.length, g = (m : Int) ∧ j ≤ m ∧ saysF rs xs[m].l = none ∧ ∀ i (h : i < xs.length), j ≤ i → i < m → saysF rs xs[i].l ≠ none)
def UsedR (rs : List Rw) (xs : List LM) (j : Nat) (us : List Bool) : Prop :=
  us.length = rs.length ∧ ∀ k (h : k < us.length), us[k] = true ↔ ∃ i, ∃ h : i < xs.length, j ≤ i ∧ saysF rs xs[i].l = some k
theorem GapR.start (rs : List Rw) (xs : List LM) : GapR rs xs xs.length (-1) := .inl ⟨rfl, fun i h h2 => absurd h (by omega)⟩
theorem GapR.put0 {rs : List Rw} {xs : List LM} {m : Nat} {g : Int} (_h : GapR rs xs (m + 1) g) (hm : m < xs.length) (hs : saysF rs xs[m].l = none) : GapR rs xs m (m : Int) :=
  .inr ⟨m, hm, rfl, Nat.le_refl _, hs, fun i _ h1 h2 => absurd h1 (by omega)⟩
theorem GapR.putk {rs : List Rw} {xs : List LM} {m k : Nat} {g : Int} (h : GapR rs xs (m + 1) g) (hm : m < xs.length) (hs : saysF rs xs[m].l = some k) : GapR rs xs m g := by
  rcases h with ⟨e, h⟩ | ⟨n, hn, e, h1, h2, h3⟩
  · refine .inl ⟨e, fun i hi h4 => ?_⟩
    by_cases hi2 : i = m
    · subst hi2
      rw [hs]
      simp
    · exact h i hi (by omega)
  · refine .inr ⟨n, hn, e, by omega, h2, fun i hi h4 h5 => ?_⟩
    by_cases hi2 : i = m
    · subst hi2
      rw [hs]
      simp
    · exact h3 i hi (by omega) h5
theorem says_lt {rs : List Rw} {c : List Int} {k : Nat} (h : saysF rs c = some k) : k < rs.length := by
  unfold saysF at h
  rw [List.findIdx?_eq_some_iff_getElem] at h
  exact h.1
theorem UsedR.start (rs : List Rw) (xs : List LM) : UsedR rs xs xs.length (List.replicate rs.length false) := by
  refine ⟨by simp, fun k h => ?_⟩
  simp only [List.getElem_replicate, Bool.false_eq_true, false_iff, not_exists]
  intro i hi h2
  omega
theorem UsedR.put0 {rs : List Rw} {xs : List LM} {m : Nat} {us : List Bool} (h : UsedR rs xs (m + 1) us) (hm : m < xs.length) (hs : saysF rs xs[m].l = none) : UsedR rs xs m us := by
  refine ⟨h.1, fun k hk => (h.2 k hk).trans ⟨?_, ?_⟩⟩
  · rintro ⟨i, hi, h1, h2⟩
    exact ⟨i, hi, by omega, h2⟩
  · rintro ⟨i, hi, h1, h2⟩
    by_cases e : i = m
    · subst e
      rw [hs] at h2
      cases h2
    · exact ⟨i, hi, by omega, h2⟩
theorem UsedR.putk {rs : List Rw} {xs : List LM} {m n : Nat} {us : List Bool} (h : UsedR rs xs (m + 1) us) (hm : m < xs.length) (hs : saysF rs xs[m].l = some n) : UsedR rs xs m (us.set n true) := by
  have hn := says_lt hs
  refine ⟨by rw [List.length_set]; exact h.1, fun k hk => ?_⟩
  have hk2 : k < us.length := by rw [List.length_set] at hk; exact hk
  rw [List.getElem_set]
  by_cases e : n = k
  · subst e
    rw [if_pos rfl]
    exact ⟨fun _ => ⟨m, hm, Nat.le_refl _, hs⟩, fun _ => rfl⟩
  · rw [if_neg e]
    refine (h.2 k hk2).trans ⟨?_, ?_⟩
    · rintro ⟨i, hi, h1, h2⟩
      exact ⟨i, hi, by omega, h2⟩
    · rintro ⟨i, hi, h1, h2⟩
      by_cases e2 : i = m
      · subst e2
        rw [hs] at h2
        exact absurd (Option.some.inj h2) e
      · exact ⟨i, hi, by omega, h2⟩
/-- at the end: the first case that no row fits, and the rows that are of use -/
theorem GapR.res {rs : List Rw} {xs : List LM} {ns : List Nat} {g : Int} (h : GapR rs xs 0 g) (hx : xs.map LM.l = exts ns) :
    (g = -1 ∧ ((exts ns).find? fun c => (saysF rs c).isNone) = none) ∨ (∃ m, ∃ h : m < xs.length, g = (m : Int) ∧ ((exts ns).find? fun c => (saysF rs c).isNone) = Option.some xs[m].l) := by
  rcases h with ⟨e, h⟩ | ⟨m, hm, e, _, h2, h3⟩
  · refine .inl ⟨e, ?_⟩
    rw [← hx, List.find?_eq_none]
    intro c hc
    obtain ⟨x, hx2, rfl⟩ := List.mem_map.1 hc
    obtain ⟨i, hi, rfl⟩ := List.mem_iff_getElem.1 hx2
    have := h i hi (Nat.zero_le _)
    cases hs : saysF rs xs[i].l with
    | none => exact absurd hs this
    | some k => simp
  · refine .inr ⟨m, hm, e, ?_⟩
    rw [← hx, List.find?_eq_some_iff_getElem]
    refine ⟨by rw [h2]; rfl, m, by simpa using hm, by simp, fun j hj => ?_⟩
    have := h3 j (by omega) (Nat.zero_le _) hj
    simp only [List.getElem_map]
    cases hs : saysF rs xs[j].l with
    | none => exact absurd hs this
    | some k => rfl
def wantTo (us : List Bool) : Nat → List Int
  | 0 => []
  | k + 1 => if us[k]?.getD false = true then wantTo us k else wantTo us k ++ [(k : Int)]
theorem wantTo_len (us : List Bool) : ∀ k, (wantTo us k).length ≤ k
  | 0 => Nat.le_refl 0
  | k + 1 => by
    have := wantTo_len us k
    rw [wantTo]
    split
    · omega
    · rw [List.length_append]
      simp
      omega
theorem UsedR.want {rs : List Rw} {xs : List LM} {ns : List Nat} {us : List Bool} (h : UsedR rs xs 0 us) (hx : xs.map LM.l = exts ns) : ∀ k, k ≤ rs.length → wantTo us k = idleTo ns rs k
  | 0, _ => rfl
  | k + 1, hk => by
    have ih := UsedR.want h hx k (by omega)
    have hku : k < us.length := by rw [h.1]; omega
    have e : us[k]?.getD false = idleB ns rs k := by
      rw [List.getElem?_eq_getElem hku, Option.getD_some, Bool.eq_iff_iff, h.2 k hku]
      unfold idleB
      rw [← hx, List.find?_isSome]
      constructor
      · rintro ⟨i, hi, _, h2⟩
        exact ⟨xs[i].l, List.mem_map.2 ⟨_, List.getElem_mem hi, rfl⟩, by rw [h2]; simp⟩
      · rintro ⟨c, hc, h2⟩
        obtain ⟨x, hx2, rfl⟩ := List.mem_map.1 hc
        obtain ⟨i, hi, rfl⟩ := List.mem_iff_getElem.1 hx2
        exact ⟨i, hi, Nat.zero_le _, by simpa using h2⟩
    rw [wantTo, idleTo, ih, e]
end Go.Proofs.YtjfiodknjchngaaDoor.Gp

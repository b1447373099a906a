/- Laws as texts: reading a text, in plain lists. -/
import Derived.Test.YtflklbhgjfonbaaGreatDoorScA
namespace Go.Proofs.YtflklbhgjfonbaaGreatDoor.Sc
open Go.RowKit Mem Nest Fk Err

def blankB (s : Tx) : Bool := s.all (· == 32)
def lawT : Tx := [108, 97, 119]
def titleC (s : Tx) : Int := if Gp.prnB s = false ∨ Lib.hasPrefix s lawT = false then 1 else bhC (s.drop 3)
/-- from row i on: an error and its row, or what was read -/
noncomputable def loopF : List Tx → Nat → Option St → (Int × Nat) ⊕ Option St
  | [], _, st => .inr st
  | s :: r, i, st => if blankB s = true then loopF r (i + 1) st else
    match st with
    | some st => if (rowF st s).1 ≠ 0 then .inl ((rowF st s).1, i) else loopF r (i + 1) (some (rowF st s).2)
    | none => if titleC s ≠ 0 then .inl (titleC s, i) else loopF r (i + 1) (some ⟨⟨[], bhT (s.drop 3), [], []⟩, 0, 0⟩)
def endF (n : Nat) : (Int × Nat) ⊕ Option St → (Int × Nat) ⊕ It
  | .inl e => .inl e
  | .inr none => .inl (1, n)
  | .inr (some st) => .inr st.t
noncomputable def readF (s : Tx) : (Int × Nat) ⊕ It := if 30000 < s.length then .inl (2, 0) else endF (Wt.rowsF s).length (loopF (Wt.rowsF s) 0 none)
/-- the reading has come to row k -/
def At (rows : List Tx) (k : Nat) (st : Option St) : Prop := loopF rows 0 none = loopF (rows.drop k) k st
theorem At.start (rows : List Tx) : At rows 0 none := rfl
theorem At.blank {rows : List Tx} {k : Nat} {st : Option St} (h : At rows k st) (hk : k < rows.length) (hb : blankB rows[k] = true) : At rows (k + 1) st := by
  unfold At at h ⊢
  rw [h, List.drop_eq_getElem_cons hk]
  cases st <;> (simp only [loopF]; rw [if_pos hb])
theorem At.bad {rows : List Tx} {k : Nat} {st : St} (h : At rows k (some st)) (hk : k < rows.length) (hb : blankB rows[k] = false) {c : Int} {st' : St} (hr : rowF st rows[k] = (c, st')) (hc : c ≠ 0) : loopF rows 0 none = .inl (c, k) := by
  unfold At at h
  rw [h, List.drop_eq_getElem_cons hk]
  simp only [loopF]
  rw [if_neg (by rw [hb]; decide), hr]
  exact if_pos hc
theorem At.row {rows : List Tx} {k : Nat} {st : St} (h : At rows k (some st)) (hk : k < rows.length) (hb : blankB rows[k] = false) {st' : St} (hr : rowF st rows[k] = (0, st')) : At rows (k + 1) (some st') := by
  unfold At at h ⊢
  rw [h, List.drop_eq_getElem_cons hk]
  simp only [loopF]
  rw [if_neg (by rw [hb]; decide), hr]
  exact if_neg (fun h => h rfl)
theorem At.worse {rows : List Tx} {k : Nat} (h : At rows k none) (hk : k < rows.length) (hb : blankB rows[k] = false) {c : Int} (hr : titleC rows[k] = c) (hc : c ≠ 0) : loopF rows 0 none = .inl (c, k) := by
  unfold At at h
  rw [h, List.drop_eq_getElem_cons hk]
  simp only [loopF]
  rw [if_neg (by rw [hb]; decide), hr]
  exact if_pos hc
theorem At.title {rows : List Tx} {k : Nat} (h : At rows k none) (hk : k < rows.length) (hb : blankB rows[k] = false) (hr : titleC rows[k] = 0) : At rows (k + 1) (some ⟨⟨[], bhT (rows[k].drop 3), [], []⟩, 0, 0⟩) := by
  unfold At at h ⊢
  rw [h, List.drop_eq_getElem_cons hk]
  simp only [loopF]
  rw [if_neg (by rw [hb]; decide), hr]
  exact if_neg (fun h => h rfl)
theorem At.done {rows : List Tx} {st : Option St} (h : At rows rows.length st) : loopF rows 0 none = .inr st := by
  unfold At at h
  rw [h, List.drop_length]
  rfl
theorem bhC_in (s : Tx) : bhC s = 0 ∨ bhC s = 1 ∨ bhC s = 2 := by
  unfold bhC Gp.lineC
  split
  · exact .inl rfl
  · split
    · split
      · exact .inr (.inr rfl)
      · split
        · exact .inl rfl
        · exact .inr (.inl rfl)
    · exact .inr (.inl rfl)
theorem rowF_in (st : St) (s : Tx) : (rowF st s).1 = 0 ∨ (rowF st s).1 = 1 ∨ (rowF st s).1 = 2 ∨ (rowF st s).1 = 7 := by
  have hl : ∀ b, (lineRow st b).1 = 0 ∨ (lineRow st b).1 = 1 ∨ (lineRow st b).1 = 2 ∨ (lineRow st b).1 = 7 := fun b => by
    have := bhC_in b
    unfold lineRow
    split
    · simp
    · split
      · simp
      · split
        · simp only; omega
        · simp
  have hi : ∀ d r, (itemRow st d r).1 = 0 ∨ (itemRow st d r).1 = 1 ∨ (itemRow st d r).1 = 2 ∨ (itemRow st d r).1 = 7 := fun d r => by
    have := bhC_in (restF r)
    unfold itemRow
    split
    · simp
    · split
      · simp
      · split
        · simp only; omega
        · simp
  unfold rowF
  split
  · simp
  · split
    · simp
    · split
      · split
        · simp
        · exact hl _
      · exact hi _ _
theorem titleC_in (s : Tx) : titleC s = 0 ∨ titleC s = 1 ∨ titleC s = 2 := by
  unfold titleC
  split
  · simp
  · exact bhC_in _
theorem loopF_in : ∀ (rows : List Tx) (i : Nat) (st : Option St) (c : Int) (k : Nat), loopF rows i st = .inl (c, k) → (c = 1 ∨ c = 2 ∨ c = 7)
  | [], _, _, _, _, h => by simp [loopF] at h
  | s :: r, i, st, c, k, h => by
    cases st with
    | some st =>
      simp only [loopF] at h
      split at h
      · exact loopF_in r _ _ c k h
      · split at h
        · simp only [Sum.inl.injEq, Prod.mk.injEq] at h
          have := rowF_in st s
          omega
        · exact loopF_in r _ _ c k h
    | none =>
      simp only [loopF] at h
      split at h
      · exact loopF_in r _ _ c k h
      · split at h
        · simp only [Sum.inl.injEq, Prod.mk.injEq] at h
          have := titleC_in s
          omega
        · exact loopF_in r _ _ c k h
theorem readF_in {s : Tx} {c : Int} {k : Nat} (h : readF s = .inl (c, k)) : c = 1 ∨ c = 2 ∨ c = 7 := by
  unfold readF at h
  split at h
  · simp only [Sum.inl.injEq, Prod.mk.injEq] at h
    omega
  · cases e : loopF (Wt.rowsF s) 0 none with
    | inl q =>
      rw [e] at h
      simp only [endF, Sum.inl.injEq] at h
      obtain ⟨q1, q2⟩ := q
      simp only [Prod.mk.injEq] at h
      rw [← h.1]
      exact loopF_in _ _ _ _ _ e
    | inr st =>
      rw [e] at h
      cases st with
      | none => simp only [endF, Sum.inl.injEq, Prod.mk.injEq] at h; omega
      | some st => simp [endF] at h
end Go.Proofs.YtflklbhgjfonbaaGreatDoor.Sc

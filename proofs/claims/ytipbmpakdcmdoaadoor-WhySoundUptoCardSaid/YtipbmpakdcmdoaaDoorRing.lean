/- Whether some number comes back to itself: the search, plain. -/
import Derived.Test.YtipbmpakdcmdoaaDoorThy
namespace Go.Proofs.YtipbmpakdcmdoaaDoor.Ring
open Thy

def E (over : List (Int × Int)) (a b : Nat) : Prop := ((a : Int), (b : Int)) ∈ over
inductive Path (over : List (Int × Int)) : Nat → Nat → Prop
  | one {a b : Nat} : E over a b → Path over a b
  | more {a b c : Nat} : Path over a b → E over b c → Path over a c
def Cycle (over : List (Int × Int)) : Prop := ∃ x, Path over x x
theorem path_rank {over : List (Int × Int)} {rk : Nat → Nat} (h : ∀ p ∈ over, rk p.2.toNat < rk p.1.toNat) {a b : Nat} (p : Path over a b) : rk b < rk a := by
  induction p with
  | one e => simpa using h _ e
  | more _ e ih => exact Nat.lt_trans (by simpa using h _ e) ih
theorem cycle_not {over : List (Int × Int)} (c : Cycle over) : ¬ Ranked over := fun ⟨rk, h⟩ => by
  obtain ⟨x, p⟩ := c
  exact absurd (path_rank h p) (by omega)
/-- what is known of numbers: 0 nothing, 1 at work, 2 done -/
def get (st : List Int) (j : Nat) : Int := st.getD j 0
def Done (over : List (Int × Int)) (st : List Int) : Prop := ∃ rk : Nat → Nat, ∀ a b, get st a = 2 → E over a b → get st b = 2 ∧ rk b < rk a
/-- what a look at k leaves -/
structure Fine (st st' : List Int) (over : List (Int × Int)) (k : Nat) : Prop where
  len : st'.length = st.length
  done : Done over st'
  two : get st' k = 2
  keep : ∀ j, get st j ≠ 0 → get st' j = get st j
  one : ∀ j, get st' j = 1 → get st j = 1
def zeros (st : List Int) : Nat := st.countP (fun x => x == 0)
theorem get_set {st : List Int} {k j : Nat} {v : Int} (hk : k < st.length) : get (st.set k v) j = if j = k then v else get st j := by
  unfold get
  by_cases e : j = k
  · subst e; simp [List.getD, hk]
  · simp [List.getD, Ne.symm e, e]
theorem get_lt {st : List Int} {k : Nat} (hk : k < st.length) : get st k = st[k] := by simp [get, List.getD, hk]
theorem zeros_le : ∀ {st st' : List Int}, st'.length = st.length → (∀ j, get st j ≠ 0 → get st' j = get st j) → zeros st' ≤ zeros st
  | [], [], _, _ => by simp [zeros]
  | a :: st, b :: st', hl, h => by
    have ih := zeros_le (st := st) (st' := st') (by simpa using hl) (fun j hj => by simpa [get, List.getD] using h (j + 1) (by simpa [get, List.getD] using hj))
    have h0 := h 0
    simp [get, List.getD] at h0
    unfold zeros at ih ⊢
    simp only [List.countP_cons]
    by_cases ha : a = 0
    · simp only [ha, beq_self_eq_true, if_true]
      split <;> omega
    · have := h0 ha
      subst this
      omega
theorem zeros_set {st : List Int} {k : Nat} {v : Int} (hk : k < st.length) (h0 : get st k = 0) (hv : v ≠ 0) : zeros (st.set k v) < zeros st := by
  induction st generalizing k with
  | nil => simp at hk
  | cons a st ih =>
    cases k with
    | zero =>
      simp [get, List.getD] at h0
      subst h0
      unfold zeros
      simp [hv]
    | succ k =>
      have := ih (k := k) (by simpa using hk) (by simpa [get, List.getD] using h0)
      unfold zeros at this ⊢
      simp only [List.set_cons_succ, List.countP_cons]
      omega
/-- inside the look at k: the first i that k leads to are done -/
structure At (st st1 : List Int) (over : List (Int × Int)) (k : Nat) (xs : List Nat) : Prop where
  len : st1.length = st.length
  done : Done over st1
  wk : get st1 k = 1
  keep : ∀ j, j ≠ k → get st j ≠ 0 → get st1 j = get st j
  one : ∀ j, get st1 j = 1 → get st j = 1 ∨ j = k
  xs : ∀ x ∈ xs, get st1 x = 2
theorem At.start {st : List Int} {over : List (Int × Int)} {k : Nat} (hk : k < st.length) (h0 : get st k = 0) (hd : Done over st) : At st (st.set k 1) over k [] := by
  obtain ⟨rk, hd⟩ := hd
  refine ⟨by simp, ⟨rk, fun a b ha hab => ?_⟩, by rw [get_set hk, if_pos rfl], fun j hj _ => by rw [get_set hk, if_neg hj], fun j hj => ?_, fun x hx => by cases hx⟩
  · rw [get_set hk] at ha ⊢
    split at ha
    · exact absurd ha (by decide)
    · have := hd a b ha hab
      refine ⟨?_, this.2⟩
      split
      · rename_i e; subst e; rw [h0] at this; exact absurd this.1 (by decide)
      · exact this.1
  · rw [get_set hk] at hj
    split at hj
    · exact .inr (by assumption)
    · exact .inl hj
theorem At.zeros {st st1 : List Int} {over : List (Int × Int)} {k : Nat} {xs : List Nat} (h : At st st1 over k xs) (hk : k < st.length) (h0 : get st k = 0) : zeros st1 < zeros st := by
  have h1 := zeros_set (v := 1) hk h0 (by decide)
  have h2 : Ring.zeros st1 ≤ Ring.zeros (st.set k 1) := zeros_le (by rw [h.len]; simp) fun j hj => by
    rw [get_set hk] at hj ⊢
    split
    · rename_i e; subst e; exact h.wk
    · rename_i e; rw [if_neg e] at hj; exact h.keep j e hj
  omega
theorem At.path {st st1 : List Int} {over : List (Int × Int)} {k x : Nat} {xs : List Nat} (h : At st st1 over k xs) (hp : ∀ j, get st j = 1 → Path over j k) (hx : E over k x) : ∀ j, get st1 j = 1 → Path over j x := fun j hj => by
  rcases h.one j hj with h1 | rfl
  · exact (hp j h1).more hx
  · exact .one hx
theorem At.step {st st1 st2 : List Int} {over : List (Int × Int)} {k x : Nat} {xs : List Nat} (h : At st st1 over k xs) (f : Fine st1 st2 over x) : At st st2 over k (xs ++ [x]) := by
  refine ⟨by rw [f.len, h.len], f.done, by rw [f.keep k (by rw [h.wk]; decide), h.wk], fun j hj h0 => ?_, fun j hj => h.one j (f.one j hj), fun y hy => ?_⟩
  · have := h.keep j hj h0
    rw [f.keep j (by rw [this]; exact h0), this]
  · rcases List.mem_append.1 hy with hy | hy
    · have := h.xs y hy
      rw [f.keep y (by rw [this]; decide), this]
    · simp at hy; subst hy; exact f.two
theorem At.stop {st st1 : List Int} {over : List (Int × Int)} {k : Nat} {xs : List Nat} (h : At st st1 over k xs) (hk : k < st.length) (h0 : get st k = 0) (hx : ∀ b, E over k b → b ∈ xs) : Fine st (st1.set k 2) over k := by
  have hk1 : k < st1.length := by rw [h.len]; exact hk
  obtain ⟨rk, hd⟩ := h.done
  refine ⟨by simp [h.len], ⟨fun a => if a = k then ((over.map fun p => rk p.2.toNat).foldr max 0) + 1 else rk a, fun a b ha hab => ?_⟩, by rw [get_set hk1, if_pos rfl], fun j hj => ?_, fun j hj => ?_⟩
  · rw [get_set hk1] at ha ⊢
    by_cases e : a = k
    · subst e
      have hb2 := h.xs b (hx b hab)
      have hbk : b ≠ a := by rintro rfl; rw [h.wk] at hb2; exact absurd hb2 (by decide)
      refine ⟨by rw [if_neg hbk]; exact hb2, ?_⟩
      simp only [if_neg hbk, if_true]
      have hm : ∀ (l : List (Int × Int)), ((a : Int), (b : Int)) ∈ l → rk b ≤ (l.map fun p => rk p.2.toNat).foldr max 0 := by
        intro l hl
        induction l with
        | nil => cases hl
        | cons x l ih =>
          simp only [List.map_cons, List.foldr_cons]
          rcases List.mem_cons.1 hl with rfl | hl
          · simp only [Int.toNat_natCast]; omega
          · have := ih hl; omega
      have := hm over hab
      omega
    · rw [if_neg e] at ha
      have := hd a b ha hab
      have hbk : b ≠ k := by rintro rfl; rw [h.wk] at this; exact absurd this.1 (by decide)
      refine ⟨by rw [if_neg hbk]; exact this.1, ?_⟩
      simp only [if_neg hbk, if_neg e]
      exact this.2
  · have hjk : j ≠ k := by rintro rfl; exact hj h0
    rw [get_set hk1, if_neg hjk]
    exact h.keep j hjk hj
  · rw [get_set hk1] at hj
    split at hj
    · exact absurd hj (by decide)
    · rename_i e
      rcases h.one j hj with h1 | h1
      · exact h1
      · exact absurd h1 e
/-- all looked at: nothing is in a ring -/
theorem ranked_of {over : List (Int × Int)} {st : List Int} (hd : Done over st) (h : ∀ j, j < st.length → get st j = 2) (hr : ∀ p ∈ over, 0 ≤ p.1 ∧ p.1 < st.length ∧ 0 ≤ p.2 ∧ p.2 < st.length) : Ranked over := by
  obtain ⟨rk, hd⟩ := hd
  refine ⟨rk, fun p hp => ?_⟩
  obtain ⟨a, b, c, d⟩ := hr p hp
  have e1 : ((p.1.toNat : Nat) : Int) = p.1 := by omega
  have e2 : ((p.2.toNat : Nat) : Int) = p.2 := by omega
  exact (hd p.1.toNat p.2.toNat (h _ (by omega)) (by unfold E; rw [e1, e2]; exact hp)).2
theorem done_start (over : List (Int × Int)) (n : Nat) : Done over (List.replicate n 0) := ⟨fun _ => 0, fun a b ha _ => by
  have : get (List.replicate n (0 : Int)) a = 0 := by unfold get; simp only [List.getD, List.getElem?_replicate]; split <;> rfl
  rw [this] at ha
  exact absurd ha (by decide)⟩
end Go.Proofs.YtipbmpakdcmdoaaDoor.Ring

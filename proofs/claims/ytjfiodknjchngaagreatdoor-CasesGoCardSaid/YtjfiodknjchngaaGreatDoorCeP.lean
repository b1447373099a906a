/- How long a case may go on, in plain lists: rings of a relation, an order in which stages were left, and how many steps there may be. -/
import Derived.Test.YtjfiodknjchngaaGreatDoorProg
namespace Go.Proofs.YtjfiodknjchngaaGreatDoor.Ce

/-- v leads to t in n + 1 steps -/
def Rch {S : Type} (E : S → S → Prop) : Nat → S → S → Prop
  | 0, v, t => E v t
  | n + 1, v, t => ∃ u, E v u ∧ Rch E n u t
theorem rch_app {S : Type} {E : S → S → Prop} : ∀ (n m : Nat) {a b c : S}, Rch E n a b → Rch E m b c → ∃ k, Rch E k a c
  | 0, m, a, b, c, h, k => ⟨m + 1, b, h, k⟩
  | n + 1, m, a, b, c, ⟨u, h1, h2⟩, k => by
    obtain ⟨q, hq⟩ := rch_app n m h2 k
    exact ⟨q + 1, u, h1, hq⟩
/-- newest first: all that a listed one leads to is listed behind it -/
def Topo {S : Type} (E : S → S → Prop) : List S → Prop
  | [] => True
  | v :: L => v ∉ L ∧ (∀ t, E v t → t ∈ L) ∧ Topo E L
def rk {S : Type} [DecidableEq S] : List S → S → Nat
  | [], _ => 0
  | v :: L, x => if v = x then L.length else rk L x
theorem rk_lt {S : Type} [DecidableEq S] : ∀ (L : List S) {x : S}, x ∈ L → rk L x < L.length
  | [], x, h => by simp at h
  | v :: L, x, h => by
    unfold rk
    by_cases c : v = x
    · rw [if_pos c]; simp
    · rw [if_neg c]
      rcases List.mem_cons.1 h with e | h'
      · exact absurd e.symm c
      · have := rk_lt L h'
        simp only [List.length_cons]
        omega
theorem topo_rk {S : Type} [DecidableEq S] {E : S → S → Prop} : ∀ (L : List S), Topo E L → ∀ {v t : S}, v ∈ L → E v t → t ∈ L ∧ rk L t < rk L v
  | [], _, v, t, h, _ => by simp at h
  | x :: L, ⟨h1, h2, h3⟩, v, t, h, he => by
    rcases List.mem_cons.1 h with e | h'
    · subst e
      have ht := h2 t he
      have hne : ¬ v = t := fun e => h1 (e ▸ ht)
      refine ⟨List.mem_cons_of_mem _ ht, ?_⟩
      unfold rk
      rw [if_pos rfl, if_neg hne]
      exact rk_lt L ht
    · obtain ⟨ht, hr⟩ := topo_rk L h3 h' he
      have hne : ¬ x = t := fun e => h1 (e ▸ ht)
      have hne2 : ¬ x = v := fun e => h1 (e ▸ h')
      refine ⟨List.mem_cons_of_mem _ ht, ?_⟩
      unfold rk
      rw [if_neg hne, if_neg hne2]
      exact hr
theorem topo_nodup {S : Type} {E : S → S → Prop} : ∀ (L : List S), Topo E L → L.Nodup
  | [], _ => List.nodup_nil
  | _ :: L, ⟨h1, _, h3⟩ => List.nodup_cons.2 ⟨h1, topo_nodup L h3⟩
theorem nodup_le {S : Type} [DecidableEq S] : ∀ (l m : List S), l.Nodup → (∀ x ∈ l, x ∈ m) → l.length ≤ m.length
  | [], _, _, _ => Nat.zero_le _
  | x :: l, m, hn, hs => by
    obtain ⟨h1, h2⟩ := List.nodup_cons.1 hn
    have hx : x ∈ m := hs x List.mem_cons_self
    have h := nodup_le l (m.erase x) h2 fun y hy => by
      have hne : y ≠ x := fun e => h1 (e ▸ hy)
      exact (List.mem_erase_of_ne hne).2 (hs y (List.mem_cons_of_mem _ hy))
    have he := List.length_erase_of_mem hx
    have hp := List.length_pos_of_mem hx
    simp only [List.length_cons]
    omega
/-- where all of a set have a rank: no ring -/
theorem topo_noring {S : Type} [DecidableEq S] {E : S → S → Prop} {L : List S} (h : Topo E L) : ∀ (n : Nat) {v t : S}, v ∈ L → Rch E n v t → t ∈ L ∧ rk L t < rk L v
  | 0, v, t, hv, he => topo_rk L h hv he
  | n + 1, v, t, hv, ⟨u, h1, h2⟩ => by
    obtain ⟨hu, hr⟩ := topo_rk L h hv h1
    obtain ⟨ht, hr2⟩ := topo_noring h n hu h2
    exact ⟨ht, by omega⟩
theorem noring {S : Type} [DecidableEq S] {E : S → S → Prop} {L : List S} (h : Topo E L) (hE : ∀ v t, E v t → v ∈ L) (n : Nat) (v : S) (hr : Rch E n v v) : False := by
  have hv : v ∈ L := by
    cases n with
    | zero => exact hE _ _ hr
    | succ n => obtain ⟨u, h1, _⟩ := hr; exact hE _ _ h1
  have := (topo_noring h n hv hr).2
  omega
/-- how the search stands: G is being looked at, L is done -/
structure Srch {S : Type} [DecidableEq S] (E : S → S → Prop) (all : List S) (g : S → Option Int) (G L : List S) : Prop where
  num : ∀ v, (g v).getD 0 = if v ∈ G then 1 else if v ∈ L then 2 else 0
  nd : (G ++ L).Nodup
  sub : ∀ v ∈ G ++ L, v ∈ all
  topo : Topo E L
theorem Srch.len {S : Type} [DecidableEq S] {E : S → S → Prop} {all : List S} {g : S → Option Int} {G L : List S} (h : Srch E all g G L) : G.length + L.length ≤ all.length := by
  have := nodup_le _ _ h.nd h.sub
  simpa using this
theorem Srch.enter {S : Type} [DecidableEq S] {E : S → S → Prop} {all : List S} {g : S → Option Int} {G L : List S} (h : Srch E all g G L) {s : S} (hs : s ∈ all) (h0 : (g s).getD 0 = 0) :
    Srch E all (fun x => if x = s then some 1 else g x) (s :: G) L := by
  have hn := h.num s
  rw [h0] at hn
  have hG : s ∉ G := fun c => by rw [if_pos c] at hn; omega
  have hL : s ∉ L := fun c => by rw [if_neg hG, if_pos c] at hn; omega
  refine ⟨fun v => ?_, ?_, ?_, h.topo⟩
  · by_cases e : v = s
    · subst e
      simp
    · have := h.num v
      simp only [e, if_false, List.mem_cons, false_or]
      exact this
  · simp only [List.cons_append, List.nodup_cons]
    exact ⟨fun c => (List.mem_append.1 c).elim hG hL, h.nd⟩
  · intro v hv
    rcases List.mem_cons.1 (by simpa using hv : v ∈ s :: (G ++ L)) with e | hv
    · exact e ▸ hs
    · exact h.sub v hv
theorem Srch.leave {S : Type} [DecidableEq S] {E : S → S → Prop} {all : List S} {g : S → Option Int} {G L : List S} {s : S} (h : Srch E all g (s :: G) L) (hE : ∀ t, E s t → t ∈ L) :
    Srch E all (fun x => if x = s then some 2 else g x) G (s :: L) := by
  have hnd := h.nd
  simp only [List.cons_append, List.nodup_cons, List.mem_append, not_or] at hnd
  obtain ⟨⟨hG, hL⟩, hnd⟩ := hnd
  refine ⟨fun v => ?_, ?_, ?_, hL, hE, h.topo⟩
  · by_cases e : v = s
    · subst e
      simp [hG]
    · have := h.num v
      simp only [e, if_false, List.mem_cons, false_or] at this ⊢
      exact this
  · rw [List.nodup_append] at hnd ⊢
    refine ⟨hnd.1, List.nodup_cons.2 ⟨hL, hnd.2.1⟩, ?_⟩
    intro a ha b hb e
    subst e
    rcases List.mem_cons.1 hb with e | hb
    · subst e; exact hG ha
    · exact hnd.2.2 a ha a hb rfl
  · intro v hv
    refine h.sub v ?_
    rcases List.mem_append.1 hv with hv | hv
    · simp [hv]
    · rcases List.mem_cons.1 hv with e | hv
      · simp [e]
      · simp [hv]
/-! how many steps -/
def limF : List Int → List Nat → Nat
  | m :: ms, u :: us => (if 0 < m then u else 0) + limF ms us
  | _, _ => 0
def Fit : List Int → List Nat → Prop
  | m :: ms, u :: us => (0 < m → (u : Int) ≤ m) ∧ Fit ms us
  | [], [] => True
  | _, _ => False
def sumM : List Int → Int
  | [] => 0
  | m :: ms => m + sumM ms
theorem fit_len : ∀ (ms : List Int) (us : List Nat), Fit ms us → us.length = ms.length
  | [], [], _ => rfl
  | m :: ms, u :: us, h => by simp [fit_len ms us h.2]
  | [], _ :: _, h => h.elim
  | _ :: _, [], h => h.elim
theorem fit_zero : ∀ (ms : List Int), Fit ms (List.replicate ms.length 0)
  | [] => trivial
  | m :: ms => by
    show (0 < m → ((0 : Nat) : Int) ≤ m) ∧ Fit ms (List.replicate ms.length 0)
    exact ⟨fun h => by omega, fit_zero ms⟩
theorem lim_zero : ∀ (ms : List Int) (n : Nat), limF ms (List.replicate n 0) = 0
  | [], n => by cases n <;> rfl
  | m :: ms, 0 => rfl
  | m :: ms, n + 1 => by
    show (if 0 < m then 0 else 0) + limF ms (List.replicate n 0) = 0
    rw [lim_zero ms n]
    simp
theorem lim_le : ∀ (ms : List Int) (us : List Nat), Fit ms us → (∀ m ∈ ms, 0 ≤ m) → (limF ms us : Int) ≤ sumM ms
  | [], [], _, _ => Int.le_refl _
  | m :: ms, u :: us, h, hp => by
    have ih := lim_le ms us h.2 fun x hx => hp x (List.mem_cons_of_mem _ hx)
    have h0 := hp m List.mem_cons_self
    show (((if 0 < m then u else 0) + limF ms us : Nat) : Int) ≤ m + sumM ms
    by_cases c : 0 < m
    · have := h.1 c
      rw [if_pos c]
      omega
    · rw [if_neg c]
      omega
  | [], _ :: _, h, _ => h.elim
  | _ :: _, [], h, _ => h.elim
theorem lim_set : ∀ (ms : List Int) (us : List Nat) (i : Nat) (m : Int) (u : Nat), ms[i]? = some m → us[i]? = some u → limF ms (us.set i (u + 1)) = limF ms us + (if 0 < m then 1 else 0)
  | [], _, i, m, u, h, _ => by simp at h
  | _ :: _, [], i, m, u, _, h => by simp at h
  | x :: ms, y :: us, 0, m, u, h, h' => by
    simp only [List.getElem?_cons_zero, Option.some.injEq] at h h'
    subst h h'
    show (if 0 < x then y + 1 else 0) + limF ms us = (if 0 < x then y else 0) + limF ms us + _
    split <;> omega
  | x :: ms, y :: us, i + 1, m, u, h, h' => by
    simp only [List.getElem?_cons_succ] at h h'
    have ih := lim_set ms us i m u h h'
    show (if 0 < x then y else 0) + limF ms (us.set i (u + 1)) = (if 0 < x then y else 0) + limF ms us + _
    omega
theorem fit_set : ∀ (ms : List Int) (us : List Nat) (i : Nat) (m : Int) (u : Nat), Fit ms us → ms[i]? = some m → us[i]? = some u → (0 < m → (u : Int) < m) → Fit ms (us.set i (u + 1))
  | [], _, i, m, u, _, h, _, _ => by simp at h
  | _ :: _, [], i, m, u, _, _, h, _ => by simp at h
  | x :: ms, y :: us, 0, m, u, hf, h, h', hl => by
    simp only [List.getElem?_cons_zero, Option.some.injEq] at h h'
    subst h h'
    exact ⟨fun c => by have := hl c; omega, hf.2⟩
  | x :: ms, y :: us, i + 1, m, u, hf, h, h', hl => by
    simp only [List.getElem?_cons_succ] at h h'
    exact ⟨hf.1, fit_set ms us i m u hf.2 h h' hl⟩
/-- how far a case may have come: r is what is left of the stage at which it is, N + 1 stages there are -/
def Pot (N done lim r : Nat) : Prop := r ≤ N ∧ done + r ≤ lim + (lim + 1) * N
theorem pot_limited {N done lim r r' : Nat} (h : Pot N done lim r) (hr : r' ≤ N) : Pot N (done + 1) (lim + 1) r' := by
  obtain ⟨_, h⟩ := h
  refine ⟨hr, ?_⟩
  have : (lim + 1 + 1) * N = (lim + 1) * N + N := by rw [Nat.add_mul, Nat.one_mul]
  omega
theorem pot_free {N done lim r r' : Nat} (h : Pot N done lim r) (hr : r' < r) : Pot N (done + 1) lim r' := by
  obtain ⟨h0, h⟩ := h
  exact ⟨by omega, by omega⟩
theorem pot_end {N done lim r : Nat} {all : Nat} (h : Pot N done lim r) (hl : lim ≤ all) : done ≤ all + (all + 1) * N := by
  obtain ⟨_, h⟩ := h
  have : (lim + 1) * N ≤ (all + 1) * N := Nat.mul_le_mul_right _ (by omega)
  omega
end Go.Proofs.YtjfiodknjchngaaGreatDoor.Ce

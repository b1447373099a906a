/- An explanation in plain lists: what was told is one; no step twice; what is so was told. -/
import Derived.Test.YtjnkcpeicocjhaaDoorCheck
namespace Go.Proofs.YtjnkcpeicocjhaaDoor.Exp
open Thy ChkW

def toSp (x : Bool × Bool × Int) : Sp := ⟨x.1, x.2.1, x.2.2⟩
def after : List Sp → St → St → St × St
  | [], s, h => (s, h)
  | x :: l, s, h => after l (nextS x.a x.b x.q s) (nextH x.a x.b x.q h)
theorem chk_app {t : Th} : ∀ {l m : List Sp} {s h : St}, Chk t (l ++ m) s h ↔ Chk t l s h ∧ Chk t m (after l s h).1 (after l s h).2
  | [], m, s, h => by simp [Chk, after]
  | x :: l, m, s, h => by
    simp only [List.cons_append, Chk, after]
    rw [chk_app (l := l)]
    constructor
    · rintro ⟨a, b, c, d⟩; exact ⟨⟨a, b, c⟩, d⟩
    · rintro ⟨⟨a, b, c⟩, d⟩; exact ⟨a, b, c, d⟩
theorem after_app : ∀ (l m : List Sp) (s h : St), after (l ++ m) s h = after m (after l s h).1 (after l s h).2
  | [], m, s, h => rfl
  | x :: l, m, s, h => by simp only [List.cons_append, after]; exact after_app l m _ _
theorem told_chk {t : Th} {l : List (Bool × Bool × Int)} {s h : St} (x : Sol.Told t l s h) : Chk t (l.map toSp) (fun _ => 0) (fun _ => 0) ∧ after (l.map toSp) (fun _ => 0) (fun _ => 0) = (s, h) := by
  induction x with
  | nil => exact ⟨trivial, rfl⟩
  | step _ q z f ih =>
    obtain ⟨h1, h2⟩ := ih
    rw [List.map_append, chk_app, after_app, h2]
    exact ⟨⟨h1, q, f, trivial⟩, rfl⟩
theorem chk_take {t : Th} {l : List Sp} {s h : St} (x : Chk t l s h) (k : Nat) : Chk t (l.take k) s h := by
  rw [← List.take_append_drop k l, chk_app] at x
  exact x.1
theorem pick_next {s h : St} {a b : Bool} {q : Int} (a' : Bool) (q' : Int) : pick a' (nextS a b q s) (nextH a b q h) q' = if a' = a ∧ q' = q then val b else pick a' s h q' := by
  cases a <;> cases a' <;> simp [pick, nextS, nextH, upd]
theorem told_val {t : Th} {l : List (Bool × Bool × Int)} {s h : St} (x : Sol.Told t l s h) : ∀ y ∈ l, pick y.1 s h y.2.2 = val y.2.1 := by
  induction x with
  | nil => intro y hy; cases hy
  | @step l s h a b q _ _ z _ ih =>
    intro y hy
    rw [pick_next]
    rcases List.mem_append.1 hy with hy | hy
    · by_cases c : y.1 = a ∧ y.2.2 = q
      · have := ih y hy
        rw [c.1, c.2, z] at this
        exact absurd this.symm (val_ne _)
      · rw [if_neg c]
        exact ih y hy
    · rw [List.mem_singleton] at hy
      subst hy
      rw [if_pos ⟨rfl, rfl⟩]
theorem told_all {t : Th} {l : List (Bool × Bool × Int)} {s h : St} (x : Sol.Told t l s h) : ∀ a b q, pick a s h q = val b → (a, b, q) ∈ l := by
  induction x with
  | nil =>
    intro a b q e
    exact absurd (show val b = 0 by rw [← e]; cases a <;> rfl) (val_ne b)
  | @step l s h a b q _ _ z _ ih =>
    intro a' b' q' e
    rw [pick_next] at e
    by_cases c : a' = a ∧ q' = q
    · rw [if_pos c] at e
      have : b' = b := by cases b <;> cases b' <;> simp [val] at e <;> rfl
      rw [c.1, c.2, this]
      simp
    · rw [if_neg c] at e
      exact List.mem_append_left _ (ih a' b' q' e)
theorem told_nodup {t : Th} {l : List (Bool × Bool × Int)} {s h : St} (x : Sol.Told t l s h) : l.Nodup := by
  induction x with
  | nil => exact List.nodup_nil
  | @step l s h a b q y _ z _ ih =>
    rw [List.nodup_append]
    refine ⟨ih, by simp, ?_⟩
    intro u hu v hv
    rw [List.mem_singleton] at hv
    subst hv
    rintro rfl
    have := told_val y _ hu
    rw [z] at this
    exact val_ne _ this.symm
theorem toSp_inj {x y : Bool × Bool × Int} (h : toSp x = toSp y) : x = y := by
  obtain ⟨a, b, q⟩ := x
  obtain ⟨a', b', q'⟩ := y
  simp [toSp] at h
  obtain ⟨rfl, rfl, rfl⟩ := h
  rfl
theorem mem_toSp {l : List (Bool × Bool × Int)} {a b : Bool} {q : Int} : (⟨a, b, q⟩ : Sp) ∈ l.map toSp ↔ (a, b, q) ∈ l := by
  constructor
  · intro h
    obtain ⟨x, hx, e⟩ := List.mem_map.1 h
    have : x = (a, b, q) := toSp_inj e
    exact this ▸ hx
  · intro h
    exact List.mem_map.2 ⟨_, h, rfl⟩
/-- what an explanation of g must be -/
structure Fine (t : Th) (g : Sp) (l : List Sp) : Prop where
  chk : Chk t l (fun _ => 0) (fun _ => 0)
  once : l.Nodup
  last : ∃ m, l = m ++ [g]
theorem Fine.ne {t : Th} {g : Sp} {l : List Sp} (h : Fine t g l) : 0 < l.length := by
  obtain ⟨m, rfl⟩ := h.last
  simp
theorem Fine.at_last {t : Th} {g : Sp} {l : List Sp} (h : Fine t g l) {k : Nat} (hk : k < l.length) (e : k + 1 = l.length) : l[k] = g := by
  obtain ⟨m, rfl⟩ := h.last
  simp at e
  subst e
  simp
theorem Fine.del {t : Th} {g : Sp} {l : List Sp} (h : Fine t g l) (i : Nat) (hi : i + 1 < l.length) (hc : Chk t (l.take i ++ l.drop (i + 1)) (fun _ => 0) (fun _ => 0)) : Fine t g (l.take i ++ l.drop (i + 1)) := by
  refine ⟨hc, ?_, ?_⟩
  · rw [← List.eraseIdx_eq_take_drop_succ]
    exact h.once.sublist (List.eraseIdx_sublist l i)
  · obtain ⟨m, rfl⟩ := h.last
    have hm : i < m.length := by simpa using hi
    refine ⟨m.take i ++ m.drop (i + 1), ?_⟩
    rw [List.take_append_of_le_length (by omega), List.drop_append_of_le_length (by omega), List.append_assoc]
theorem fine_start {t : Th} {l : List (Bool × Bool × Int)} {s h : St} (x : Sol.Told t l s h) {g : Sp} {k : Nat} (hk : k < (l.map toSp).length) (e : (l.map toSp)[k] = g) : Fine t g ((l.map toSp).take (k + 1)) := by
  refine ⟨chk_take (told_chk x).1 _, ?_, (l.map toSp).take k, ?_⟩
  · refine List.Nodup.sublist (List.take_sublist _ _) ?_
    exact List.Pairwise.map _ (fun a b e c => e (toSp_inj c)) (told_nodup x)
  · rw [List.take_succ_eq_append_getElem hk, e]
/-- how many of the first places are told -/
def cnt (s : St) : Nat → Nat
  | 0 => 0
  | n + 1 => cnt s n + (if s (lit n) = 0 then 0 else 1)
theorem cnt_le (s : St) : ∀ n, cnt s n ≤ n
  | 0 => Nat.le_refl _
  | n + 1 => by
    have := cnt_le s n
    unfold cnt
    split <;> omega
theorem cnt_upd {s : St} {q v : Int} (hz : s q = 0) (hv : v ≠ 0) : ∀ n, cnt (upd s q v) n = cnt s n + (if q ≠ 0 ∧ place q < n then 1 else 0)
  | 0 => by simp [cnt]
  | n + 1 => by
    unfold cnt
    rw [cnt_upd hz hv n]
    by_cases e : lit n = q
    · have hq : q ≠ 0 := by rw [← e]; exact lit_ne n
      have hp : place q = n := by rw [← e]; exact place_lit n
      rw [if_neg (show ¬ (q ≠ 0 ∧ place q < n) by omega), if_pos (show q ≠ 0 ∧ place q < n + 1 from ⟨hq, by omega⟩), e, if_pos hz, if_neg (show ¬ upd s q v q = 0 by simp [upd, hv])]
    · have e2 : upd s q v (lit n) = s (lit n) := by unfold upd; rw [if_neg e]
      have e3 : (q ≠ 0 ∧ place q < n + 1) ↔ (q ≠ 0 ∧ place q < n) := by
        constructor
        · rintro ⟨a, b⟩
          refine ⟨a, ?_⟩
          rcases Nat.lt_or_ge (place q) n with h | h
          · exact h
          · exact absurd (show lit n = q by rw [← lit_place a, show place q = n by omega]) e
        · rintro ⟨a, b⟩; exact ⟨a, by omega⟩
      rw [e2]
      simp only [e3]
      split <;> split <;> omega
theorem told_len {t : Th} {n : Nat} (ht : t.names = n) {l : List (Bool × Bool × Int)} {s h : St} (x : Sol.Told t l s h) : l.length = cnt s (2 * n) + cnt h (2 * n) := by
  induction x with
  | nil =>
    have : ∀ k, cnt (fun _ => 0) k = 0 := fun k => by
      induction k with
      | zero => rfl
      | succ k ih => unfold cnt; rw [ih]; simp
    rw [this]
    rfl
  | @step l s h a b q _ y z _ ih =>
    have hp := place_lt y.1 y.2.1 y.2.2
    have hc : q ≠ 0 ∧ place q < 2 * n := ⟨y.1, by rw [ht] at hp; omega⟩
    rw [List.length_append, ih]
    cases a
    · have z' : h q = 0 := z
      show _ = cnt s (2 * n) + cnt (upd h q (val b)) (2 * n)
      rw [cnt_upd z' (val_ne b), if_pos hc]
      simp; omega
    · have z' : s q = 0 := z
      show _ = cnt (upd s q (val b)) (2 * n) + cnt h (2 * n)
      rw [cnt_upd z' (val_ne b), if_pos hc]
      simp; omega
theorem told_short {t : Th} {n : Nat} (ht : t.names = n) {l : List (Bool × Bool × Int)} {s h : St} (x : Sol.Told t l s h) : l.length ≤ 4 * n := by
  rw [told_len ht x]
  have := cnt_le s (2 * n)
  have := cnt_le h (2 * n)
  omega
end Go.Proofs.YtjnkcpeicocjhaaDoor.Exp

/- Labels in plain lists: what is one, its number and letters, and which is ahead. -/
import Derived.Test.YtflklbhgjfonbaaGreatDoorProg
import Derived.Sort.Walk0
namespace Go.Proofs.YtflklbhgjfonbaaGreatDoor.Lab

def dig (c : UInt8) : Prop := 48 ≤ c.toNat ∧ c.toNat ≤ 57
def sma (c : UInt8) : Prop := 97 ≤ c.toNat ∧ c.toNat ≤ 122
def big (c : UInt8) : Prop := 65 ≤ c.toNat ∧ c.toNat ≤ 90
def val (l : List UInt8) : Int := l.foldl (fun n c => n * 10 + ((c.toNat : Int) - 48)) 0
abbrev Key := Int × List UInt8 × List UInt8
/-- a label's parts -/
structure IsLab (pre high : List UInt8) : Prop where
  l1 : 1 ≤ pre.length
  l4 : pre.length ≤ 4
  h2 : high.length ≤ 2
  hb : ∀ c ∈ high, big c
/-- what a label comes to -/
def LabOf (l : List UInt8) (k : Key) : Prop :=
  ∃ pre high, l = pre ++ high ∧ IsLab pre high ∧ (((∀ c ∈ pre, dig c) ∧ (∀ c, pre.head? = some c → c.toNat ≠ 48) ∧ k = (val pre, [], high)) ∨ ((∀ c ∈ pre, sma c) ∧ k = (0, pre, high)))
theorem app_split {p q : List UInt8} {h g : List UInt8} {D : UInt8 → Prop} (e : p ++ h = q ++ g) (hp : ∀ c ∈ p, D c) (hq : ∀ c ∈ q, D c) (hh : ∀ c ∈ h, ¬ D c) (hg : ∀ c ∈ g, ¬ D c) : p = q ∧ h = g := by
  induction p generalizing q with
  | nil =>
    cases q with
    | nil => exact ⟨rfl, e⟩
    | cons b q =>
      simp only [List.nil_append, List.cons_append] at e
      exact absurd (hq b (by simp)) (hh b (by rw [e]; simp))
  | cons a p ih =>
    cases q with
    | nil =>
      simp only [List.nil_append, List.cons_append] at e
      exact absurd (hp a (by simp)) (hg a (by rw [← e]; simp))
    | cons b q =>
      simp only [List.cons_append, List.cons.injEq] at e
      obtain ⟨rfl, e⟩ := e
      obtain ⟨rfl, rfl⟩ := ih e (fun c hc => hp c (by simp [hc])) (fun c hc => hq c (by simp [hc]))
      exact ⟨rfl, rfl⟩
theorem big_not_dig {c : UInt8} (h : big c) : ¬ dig c := by unfold big dig at *; omega
theorem big_not_sma {c : UInt8} (h : big c) : ¬ sma c := by unfold big sma at *; omega
theorem head_in {p h l : List UInt8} (e : l = p ++ h) (hl : 1 ≤ p.length) : ∃ c t, p = c :: t ∧ l = c :: (t ++ h) := by
  cases p with
  | nil => simp at hl
  | cons c t => exact ⟨c, t, rfl, by rw [e]; rfl⟩
theorem LabOf.same {l : List UInt8} {k k' : Key} (h : LabOf l k) (h' : LabOf l k') : k = k' := by
  obtain ⟨p, g, e, hi, h⟩ := h
  obtain ⟨p', g', e', hi', h'⟩ := h'
  have ee : p ++ g = p' ++ g' := by rw [← e, e']
  obtain ⟨c, t, hp, hl⟩ := head_in e hi.l1
  obtain ⟨c', t', hp', hl'⟩ := head_in e' hi'.l1
  have hc : c = c' := by rw [hl] at hl'; exact (List.cons.inj hl').1
  rcases h with ⟨hd, _, rfl⟩ | ⟨hs, rfl⟩ <;> rcases h' with ⟨hd', _, rfl⟩ | ⟨hs', rfl⟩
  · obtain ⟨rfl, rfl⟩ := app_split ee hd hd' (fun c hc => big_not_dig (hi.hb c hc)) (fun c hc => big_not_dig (hi'.hb c hc))
    rfl
  · have h1 := hd c (by rw [hp]; simp)
    have h2 := hs' c' (by rw [hp']; simp)
    rw [← hc] at h2
    unfold dig sma at *
    omega
  · have h1 := hs c (by rw [hp]; simp)
    have h2 := hd' c' (by rw [hp']; simp)
    rw [← hc] at h2
    unfold dig sma at *
    omega
  · obtain ⟨rfl, rfl⟩ := app_split ee hs hs' (fun c hc => big_not_sma (hi.hb c hc)) (fun c hc => big_not_sma (hi'.hb c hc))
    rfl
open Classical in
noncomputable def lab (l : List UInt8) : Option Key := if h : ∃ k, LabOf l k then some h.choose else none
theorem lab_some {l : List UInt8} {k : Key} (h : LabOf l k) : lab l = some k := by
  unfold lab
  have hx : ∃ k, LabOf l k := ⟨k, h⟩
  rw [dif_pos hx]
  exact congrArg some (hx.choose_spec.same h)
theorem lab_none {l : List UInt8} (h : ∀ k, ¬ LabOf l k) : lab l = none := by
  unfold lab
  rw [dif_neg (fun ⟨k, hk⟩ => h k hk)]
theorem lab_of {l : List UInt8} {k : Key} (h : lab l = some k) : LabOf l k := by
  unfold lab at h
  split at h
  · next hx => cases h; exact hx.choose_spec
  · cases h
/-- the first ones of a class, as many as there are -/
structure Upto (D : UInt8 → Prop) (l : List UInt8) (k : Nat) : Prop where
  le : k ≤ l.length
  all : ∀ j (h : j < l.length), j < k → D l[j]
  stop : ∀ h : k < l.length, ¬ D l[k]
theorem Upto.take {D : UInt8 → Prop} {l : List UInt8} {k : Nat} (u : Upto D l k) : ∀ c ∈ l.take k, D c := fun c hc => by
  obtain ⟨j, hj, rfl⟩ := List.getElem_of_mem hc
  rw [List.length_take] at hj
  rw [List.getElem_take]
  exact u.all j (by omega) (by omega)
theorem pre_len {D : UInt8 → Prop} {l p g : List UInt8} {k : Nat} (u : Upto D l k) (e : l = p ++ g) (hp : ∀ c ∈ p, D c) (hg : ∀ c ∈ g, ¬ D c) : p.length = k := by
  rcases Nat.lt_trichotomy p.length k with h | h | h
  · exfalso
    have hl : p.length < l.length := by have := u.le; omega
    have h1 := u.all p.length hl h
    have h2 : l[p.length] ∈ g := by
      have : l[p.length]? = some l[p.length] := List.getElem?_eq_getElem hl
      rw [show l[p.length]? = (p ++ g)[p.length]? by rw [← e], List.getElem?_append_right (Nat.le_refl _), Nat.sub_self] at this
      exact List.mem_of_getElem? this
    exact hg _ h2 h1
  · exact h
  · exfalso
    have hl : k < l.length := by rw [e, List.length_append]; omega
    have h2 : l[k] ∈ p := by
      have : l[k]? = some l[k] := List.getElem?_eq_getElem hl
      rw [show l[k]? = (p ++ g)[k]? by rw [← e], List.getElem?_append_left h] at this
      exact List.mem_of_getElem? this
    exact u.stop hl (hp _ h2)
theorem dig_parts {l : List UInt8} {k : Nat} {key : Key} (u : Upto dig l k) (hk : 1 ≤ k) (h : LabOf l key) : IsLab (l.take k) (l.drop k) := by
  obtain ⟨p, g, e, hi, h⟩ := h
  obtain ⟨c, t, hp, hl⟩ := head_in e hi.l1
  have h0 : 0 < l.length := by have := u.le; omega
  have hd0 : dig c := by have := u.all 0 h0 (by omega); simpa [hl] using this
  rcases h with ⟨hd, _, _⟩ | ⟨hs, _⟩
  · have := pre_len u e hd (fun c hc => big_not_dig (hi.hb c hc))
    subst this
    rw [e, List.take_left, List.drop_left]
    exact hi
  · have h1 := hs c (by rw [hp]; simp)
    unfold dig sma at *
    omega
theorem sma_parts {l : List UInt8} {k : Nat} {key : Key} (u : Upto sma l k) (hk : 1 ≤ k) (h : LabOf l key) : IsLab (l.take k) (l.drop k) := by
  obtain ⟨p, g, e, hi, h⟩ := h
  obtain ⟨c, t, hp, hl⟩ := head_in e hi.l1
  have h0 : 0 < l.length := by have := u.le; omega
  have hd0 : sma c := by have := u.all 0 h0 (by omega); simpa [hl] using this
  rcases h with ⟨hd, _, _⟩ | ⟨hs, _⟩
  · have h1 := hd c (by rw [hp]; simp)
    unfold dig sma at *
    omega
  · have := pre_len u e hs (fun c hc => big_not_sma (hi.hb c hc))
    subst this
    rw [e, List.take_left, List.drop_left]
    exact hi
theorem lab_digits {l : List UInt8} {k : Nat} (u : Upto dig l k) (hk : 1 ≤ k) (h4 : k ≤ 4) (h2 : (l.drop k).length ≤ 2) (hb : ∀ c ∈ l.drop k, big c) (h48 : ∀ h : 0 < l.length, l[0].toNat ≠ 48) : lab l = some (val (l.take k), [], l.drop k) := by
  have hle := u.le
  refine lab_some ⟨l.take k, l.drop k, (List.take_append_drop k l).symm, ⟨by rw [List.length_take]; omega, by rw [List.length_take]; omega, h2, hb⟩, .inl ⟨u.take, ?_, rfl⟩⟩
  intro c hc
  have h0 : 0 < l.length := by omega
  have := h48 h0
  rw [List.head?_take, if_neg (by omega), List.head?_eq_getElem?, List.getElem?_eq_getElem h0] at hc
  cases hc
  exact this
theorem lab_smalls {l : List UInt8} {k : Nat} (u : Upto sma l k) (hk : 1 ≤ k) (h4 : k ≤ 4) (h2 : (l.drop k).length ≤ 2) (hb : ∀ c ∈ l.drop k, big c) : lab l = some (0, l.take k, l.drop k) := by
  have hle := u.le
  exact lab_some ⟨l.take k, l.drop k, (List.take_append_drop k l).symm, ⟨by rw [List.length_take]; omega, by rw [List.length_take]; omega, h2, hb⟩, .inr ⟨u.take, rfl⟩⟩
theorem lab_bad_dig {l : List UInt8} {k : Nat} (u : Upto dig l k) (hk : 1 ≤ k) (h : 4 < k ∨ 2 < (l.drop k).length ∨ ∃ c ∈ l.drop k, ¬ big c) : lab l = none := lab_none fun key hl => by
  have hi := dig_parts u hk hl
  have hle := u.le
  rcases h with h | h | ⟨c, hc, h⟩
  · have := hi.l4
    rw [List.length_take] at this
    omega
  · have := hi.h2
    omega
  · exact h (hi.hb c hc)
theorem lab_bad_sma {l : List UInt8} {k : Nat} (u : Upto sma l k) (hk : 1 ≤ k) (h : 4 < k ∨ 2 < (l.drop k).length ∨ ∃ c ∈ l.drop k, ¬ big c) : lab l = none := lab_none fun key hl => by
  have hi := sma_parts u hk hl
  have hle := u.le
  rcases h with h | h | ⟨c, hc, h⟩
  · have := hi.l4
    rw [List.length_take] at this
    omega
  · have := hi.h2
    omega
  · exact h (hi.hb c hc)
theorem lab_bad_first {l : List UInt8} (h : ∀ h : 0 < l.length, ¬ (dig l[0] ∧ l[0].toNat ≠ 48) ∧ ¬ sma l[0]) : lab l = none := lab_none fun key hl => by
  obtain ⟨p, g, e, hi, h'⟩ := hl
  obtain ⟨c, t, hp, hl⟩ := head_in e hi.l1
  subst hl
  obtain ⟨h1, h2⟩ := h (by simp)
  rcases h' with ⟨hd, hn, _⟩ | ⟨hs, _⟩
  · exact h1 ⟨hd c (by rw [hp]; simp), hn c (by rw [hp]; rfl)⟩
  · exact h2 (hs c (by rw [hp]; simp))
theorem upto_exists {D : UInt8 → Prop} {l : List UInt8} : ∀ (m k : Nat), l.length - k = m → k ≤ l.length → (∀ j (h : j < l.length), j < k → D l[j]) → ∃ K, k ≤ K ∧ Upto D l K
  | 0, k, e, hk, ha => ⟨k, Nat.le_refl _, hk, ha, fun h => absurd h (by omega)⟩
  | m + 1, k, e, hk, ha => by
    have hlt : k < l.length := by omega
    by_cases hd : D l[k]
    · obtain ⟨K, h1, h2⟩ := upto_exists (D := D) (l := l) m (k + 1) (by omega) (by omega) (fun j h hj => by
        rcases Nat.lt_or_ge j k with c | c
        · exact ha j h c
        · obtain rfl : j = k := by omega
          exact hd)
      exact ⟨K, by omega, h2⟩
    · exact ⟨k, Nat.le_refl _, hk, ha, fun _ => hd⟩
theorem lab_long_dig {l : List UInt8} (h : 4 < l.length) (ha : ∀ j (h : j < l.length), j < 5 → dig l[j]) : lab l = none := by
  obtain ⟨K, h1, h2⟩ := upto_exists (D := dig) _ 5 rfl (by omega) ha
  exact lab_bad_dig h2 (by omega) (.inl (by omega))
theorem lab_long_sma {l : List UInt8} (h : 4 < l.length) (ha : ∀ j (h : j < l.length), j < 5 → sma l[j]) : lab l = none := by
  obtain ⟨K, h1, h2⟩ := upto_exists (D := sma) _ 5 rfl (by omega) ha
  exact lab_bad_sma h2 (by omega) (.inl (by omega))
theorem lab_nothing {l : List UInt8} (h1 : ∀ h : 0 < l.length, ¬ dig l[0]) (h2 : ∀ h : 0 < l.length, ¬ sma l[0]) : lab l = none := lab_bad_first fun h => ⟨fun hd => h1 h hd.1, h2 h⟩
theorem lab_zero {l : List UInt8} (h : ∀ h : 0 < l.length, l[0].toNat = 48) : lab l = none := lab_bad_first fun h0 => ⟨fun hd => hd.2 (h h0), fun hs => by have := h h0; unfold sma at hs; omega⟩
theorem val_one (a : UInt8) : val [a] = (a.toNat : Int) - 48 := by simp [val]
theorem val_snoc (l : List UInt8) (c : UInt8) : val (l ++ [c]) = val l * 10 + ((c.toNat : Int) - 48) := by unfold val; rw [List.foldl_append]; rfl
theorem u8_of {a b : UInt8} (h : a.toNat = b.toNat) : a = b := UInt8.toNat_inj.1 h
/-- digits are known by their number -/
theorem val_inj {p q : List UInt8} (h1 : 1 ≤ p.length) (h4 : p.length ≤ 4) (k1 : 1 ≤ q.length) (k4 : q.length ≤ 4) (hp : ∀ c ∈ p, dig c) (hq : ∀ c ∈ q, dig c) (hn : ∀ c, p.head? = some c → c.toNat ≠ 48) (kn : ∀ c, q.head? = some c → c.toNat ≠ 48) (e : val p = val q) : p = q := by
  have hw : ∀ (l : List UInt8), 1 ≤ l.length → l.length ≤ 4 → (∃ a, l = [a]) ∨ (∃ a b, l = [a, b]) ∨ (∃ a b c, l = [a, b, c]) ∨ ∃ a b c d, l = [a, b, c, d] := by
    intro l h1 h4
    match l, h1, h4 with
    | [a], _, _ => exact .inl ⟨a, rfl⟩
    | [a, b], _, _ => exact .inr (.inl ⟨a, b, rfl⟩)
    | [a, b, c], _, _ => exact .inr (.inr (.inl ⟨a, b, c, rfl⟩))
    | [a, b, c, d], _, _ => exact .inr (.inr (.inr ⟨a, b, c, d, rfl⟩))
    | _ :: _ :: _ :: _ :: _ :: _, _, h => simp at h
  rcases hw p h1 h4 with ⟨a, rfl⟩ | ⟨a, b, rfl⟩ | ⟨a, b, c, rfl⟩ | ⟨a, b, c, d, rfl⟩ <;> rcases hw q k1 k4 with ⟨a', rfl⟩ | ⟨a', b', rfl⟩ | ⟨a', b', c', rfl⟩ | ⟨a', b', c', d', rfl⟩ <;>
    simp [val, dig] at hp hq hn kn e ⊢ <;> first | omega | (refine ⟨u8_of ?_, u8_of ?_, u8_of ?_, u8_of ?_⟩ <;> omega) | (refine ⟨u8_of ?_, u8_of ?_, u8_of ?_⟩ <;> omega) | (refine ⟨u8_of ?_, u8_of ?_⟩ <;> omega) | exact u8_of (by omega)
theorem val_bd : ∀ {p : List UInt8}, 1 ≤ p.length → p.length ≤ 4 → (∀ c ∈ p, dig c) → (∀ c, p.head? = some c → c.toNat ≠ 48) → 1 ≤ val p ∧ val p ≤ 9999
  | [a], _, _, hp, hn => by simp [val, dig] at *; omega
  | [a, b], _, _, hp, hn => by simp [val, dig] at *; omega
  | [a, b, c], _, _, hp, hn => by simp [val, dig] at *; omega
  | [a, b, c, d], _, _, hp, hn => by simp [val, dig] at *; omega
  | _ :: _ :: _ :: _ :: _ :: _, _, h, _, _ => by simp at h
theorem LabOf.bd {l : List UInt8} {k : Key} (h : LabOf l k) : 0 ≤ k.1 ∧ k.1 ≤ 9999 ∧ k.2.1.length ≤ 4 ∧ k.2.2.length ≤ 2 := by
  obtain ⟨p, g, e, hi, ⟨hd, hn, rfl⟩ | ⟨hs, rfl⟩⟩ := h
  · have := val_bd hi.l1 hi.l4 hd hn
    exact ⟨by show 0 ≤ val p; omega, by show val p ≤ 9999; omega, by simp, hi.h2⟩
  · exact ⟨by simp, by simp, hi.l4, hi.h2⟩
/-- a label is known by what it comes to -/
theorem LabOf.inj {l l' : List UInt8} {k : Key} (h : LabOf l k) (h' : LabOf l' k) : l = l' := by
  obtain ⟨p, g, rfl, hi, h⟩ := h
  obtain ⟨p', g', rfl, hi', h'⟩ := h'
  rcases h with ⟨hd, hn, rfl⟩ | ⟨hs, rfl⟩ <;> rcases h' with ⟨hd', hn', e⟩ | ⟨hs', e⟩
  · simp only [Prod.mk.injEq, true_and] at e
    rw [val_inj hi.l1 hi.l4 hi'.l1 hi'.l4 hd hd' hn hn' e.1, e.2]
  · simp only [Prod.mk.injEq] at e
    have := hi'.l1
    rw [← e.2.1] at this
    simp at this
  · simp only [Prod.mk.injEq] at e
    have := hi.l1
    rw [e.2.1] at this
    simp at this
  · simp only [Prod.mk.injEq, true_and] at e
    rw [e.1, e.2]

/-! ### which is ahead -/
def keyLess (a b : Key) : Bool :=
  if decide (0 < a.1) ≠ decide (0 < b.1) then decide (0 < a.1)
  else if a.1 ≠ b.1 then decide (a.1 < b.1)
  else if a.2.1.length ≠ b.2.1.length then decide (a.2.1.length < b.2.1.length)
  else if a.2.1 ≠ b.2.1 then decide (a.2.1 < b.2.1)
  else if a.2.2.length ≠ b.2.2.length then decide (a.2.2.length < b.2.2.length)
  else decide (a.2.2 < b.2.2)
def less (a b : Option Key) : Bool := match a, b with
  | some a, some b => keyLess a b
  | _, _ => false
/-- the same, as one order of lists -/
def K (a b : Key) : Prop :=
  (0 < a.1 ∧ ¬ 0 < b.1) ∨ ((0 < a.1 ↔ 0 < b.1) ∧ (a.1 < b.1 ∨ (a.1 = b.1 ∧ (a.2.1.length < b.2.1.length ∨ (a.2.1.length = b.2.1.length ∧ (a.2.1 < b.2.1 ∨ (a.2.1 = b.2.1 ∧ (a.2.2.length < b.2.2.length ∨ (a.2.2.length = b.2.2.length ∧ a.2.2 < b.2.2)))))))))
theorem lt_irrefl' (x : List UInt8) : ¬ x < x := List.lt_irrefl x
theorem keyLess_iff (a b : Key) : keyLess a b = true ↔ K a b := by
  obtain ⟨n, x, u⟩ := a
  obtain ⟨m, y, v⟩ := b
  unfold keyLess K
  simp only
  by_cases h0 : (0 < n ↔ 0 < m)
  · have e0 : decide (0 < n) = decide (0 < m) := by rw [Bool.eq_iff_iff, decide_eq_true_iff, decide_eq_true_iff]; exact h0
    rw [if_neg (show ¬ decide (0 < n) ≠ decide (0 < m) from fun h => h e0)]
    have h0' : ¬ (0 < n ∧ ¬ 0 < m) := fun h => h.2 (h0.1 h.1)
    by_cases h1 : n = m
    · subst h1
      by_cases h2 : x.length = y.length
      · by_cases h3 : x = y
        · subst h3
          by_cases h4 : u.length = v.length
          · simp [h4, lt_irrefl']; intros; omega
          · simp [h4, lt_irrefl']; intros; omega
        · simp [h2, h3]; intros; omega
      · have : x ≠ y := fun e => h2 (by rw [e])
        simp [h2, this]; intros; omega
    · simp [h1, h0]; intros; omega
  · have e0 : decide (0 < n) ≠ decide (0 < m) := fun h => h0 (by rw [Bool.eq_iff_iff, decide_eq_true_iff, decide_eq_true_iff] at h; exact h)
    rw [if_pos e0]
    by_cases h1 : 0 < n <;> by_cases h2 : 0 < m <;> simp_all <;> intros <;> omega
theorem K.asymm {a b : Key} (h : K a b) (h' : K b a) : False := by
  unfold K at *
  rcases h with h | ⟨h0, h | ⟨h1, h | ⟨h2, h | ⟨h3, h | ⟨h4, h⟩⟩⟩⟩⟩ <;> rcases h' with g | ⟨g0, g | ⟨g1, g | ⟨g2, g | ⟨g3, g | ⟨g4, g⟩⟩⟩⟩⟩
  all_goals first
    | omega
    | exact List.lt_asymm h g
    | (rw [h3] at g; exact lt_irrefl' _ g)
    | (rw [g3] at h; exact lt_irrefl' _ h)
theorem K.trans {a b c : Key} (h : K a b) (h' : K b c) : K a c := by
  unfold K at *
  rcases h with h | ⟨h0, h | ⟨h1, h | ⟨h2, h | ⟨h3, h | ⟨h4, h⟩⟩⟩⟩⟩ <;> rcases h' with g | ⟨g0, g | ⟨g1, g | ⟨g2, g | ⟨g3, g | ⟨g4, g⟩⟩⟩⟩⟩
  all_goals first
    | (exact .inl (by omega))
    | (exact .inr ⟨by omega, .inl (by omega)⟩)
    | (exact .inr ⟨by omega, .inr ⟨by omega, .inl (by omega)⟩⟩)
    | (exact .inr ⟨by omega, .inr ⟨by omega, .inr ⟨by omega, .inl (List.lt_trans h g)⟩⟩⟩)
    | (exact .inr ⟨by omega, .inr ⟨by omega, .inr ⟨by omega, .inl (by rw [h3]; exact g)⟩⟩⟩)
    | (exact .inr ⟨by omega, .inr ⟨by omega, .inr ⟨by omega, .inl (by rw [← g3]; exact h)⟩⟩⟩)
    | (exact .inr ⟨by omega, .inr ⟨by omega, .inr ⟨by omega, .inr ⟨h3.trans g3, .inl (by omega)⟩⟩⟩⟩)
    | (exact .inr ⟨by omega, .inr ⟨by omega, .inr ⟨by omega, .inr ⟨h3.trans g3, .inr ⟨by omega, List.lt_trans h g⟩⟩⟩⟩⟩)
theorem K.total {a b : Key} (h : ¬ K a b) (h' : ¬ K b a) : a = b := by
  obtain ⟨n, x, u⟩ := a
  obtain ⟨m, y, v⟩ := b
  unfold K at *
  simp only at *
  have tri : ∀ (p q : List UInt8), ¬ p < q → ¬ q < p → p = q := fun p q h1 h2 => List.le_antisymm (List.not_lt.1 h2) (List.not_lt.1 h1)
  have h1 : n = m := by
    rcases Int.lt_trichotomy n m with c | c | c
    · exfalso
      by_cases h0 : (0 < n ↔ 0 < m)
      · exact h (.inr ⟨h0, .inl c⟩)
      · exact h' (.inl (by omega))
    · exact c
    · exfalso
      by_cases h0 : (0 < m ↔ 0 < n)
      · exact h' (.inr ⟨h0, .inl c⟩)
      · exact h (.inl (by omega))
  subst h1
  have h2 : x.length = y.length := by
    rcases Nat.lt_trichotomy x.length y.length with c | c | c
    · exact absurd (.inr ⟨Iff.rfl, .inr ⟨rfl, .inl c⟩⟩) h
    · exact c
    · exact absurd (.inr ⟨Iff.rfl, .inr ⟨rfl, .inl c⟩⟩) h'
  have h3 : x = y := tri x y (fun c => h (.inr ⟨Iff.rfl, .inr ⟨rfl, .inr ⟨h2, .inl c⟩⟩⟩)) (fun c => h' (.inr ⟨Iff.rfl, .inr ⟨rfl, .inr ⟨h2.symm, .inl c⟩⟩⟩))
  subst h3
  have h4 : u.length = v.length := by
    rcases Nat.lt_trichotomy u.length v.length with c | c | c
    · exact absurd (.inr ⟨Iff.rfl, .inr ⟨rfl, .inr ⟨rfl, .inr ⟨rfl, .inl c⟩⟩⟩⟩) h
    · exact c
    · exact absurd (.inr ⟨Iff.rfl, .inr ⟨rfl, .inr ⟨rfl, .inr ⟨rfl, .inl c⟩⟩⟩⟩) h'
  have h5 : u = v := tri u v (fun c => h (.inr ⟨Iff.rfl, .inr ⟨rfl, .inr ⟨rfl, .inr ⟨rfl, .inr ⟨h4, c⟩⟩⟩⟩⟩)) (fun c => h' (.inr ⟨Iff.rfl, .inr ⟨rfl, .inr ⟨rfl, .inr ⟨rfl, .inr ⟨h4.symm, c⟩⟩⟩⟩⟩))
  subst h5
  rfl
/-! ### what the law says of it -/
theorem less_asymm (a b : Option Key) : ¬ (less a b = true ∧ less b a = true) := by
  rintro ⟨h, h'⟩
  cases a <;> cases b <;> simp only [less, Bool.false_eq_true] at h h'
  exact ((keyLess_iff _ _).1 h).asymm ((keyLess_iff _ _).1 h')
theorem less_trans {a b c : Option Key} (h : less a b = true) (h' : less b c = true) : less a c = true := by
  cases a <;> cases b <;> cases c <;> simp only [less, Bool.false_eq_true] at h h' ⊢
  exact (keyLess_iff _ _).2 (((keyLess_iff _ _).1 h).trans ((keyLess_iff _ _).1 h'))
theorem less_total {l m : List UInt8} {a b : Key} (ha : lab l = some a) (hb : lab m = some b) (h : less (lab l) (lab m) = false) (h' : less (lab m) (lab l) = false) : l = m := by
  rw [ha, hb] at h h'
  simp only [less] at h h'
  have e : a = b := K.total (fun c => by rw [(keyLess_iff _ _).2 c] at h; simp at h) (fun c => by rw [(keyLess_iff _ _).2 c] at h'; simp at h')
  subst e
  exact (lab_of ha).inj (lab_of hb)
end Go.Proofs.YtflklbhgjfonbaaGreatDoor.Lab

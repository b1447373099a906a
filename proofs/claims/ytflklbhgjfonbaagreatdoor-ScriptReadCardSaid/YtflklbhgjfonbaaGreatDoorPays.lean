/- What days come to, month by month, in plain lists. What days come to, month by month, as the document reckons it: day by day. Plain. -/
import Derived.Test.YtflklbhgjfonbaaGreatDoorCal
import Derived.Test.YtflklbhgjfonbaaGreatDoorRnd
namespace Go.Proofs.YtflklbhgjfonbaaGreatDoor.Pays
open Cal Rnd

abbrev Pay := Int × Int × Int
def payCells (p : Pay) : List Value := [.int .i64 p.1, .int .i64 p.2.1, .int .i64 p.2.2]
theorem payCells_len (p : Pay) : (payCells p).length = 3 := rfl
def sumL (l : List Int) : Int := l.foldr (fun a b => a + b) 0
theorem sumL_app (l r : List Int) : sumL (l ++ r) = sumL l + sumL r := by
  induction l with
  | nil => simp [sumL]
  | cons a l ih => simp only [sumL, List.cons_append, List.foldr_cons] at ih ⊢; omega
theorem sumL_one (a : Int) : sumL [a] = a := by simp [sumL]
theorem sumL_bd (M : Int) : ∀ (l : List Int), (∀ x ∈ l, -M ≤ x ∧ x ≤ M) → -(M * l.length) ≤ sumL l ∧ sumL l ≤ M * l.length
  | [], _ => by simp [sumL]
  | a :: l, h => by
    have ih := sumL_bd M l (fun x hx => h x (List.mem_cons_of_mem _ hx))
    have ha := h a List.mem_cons_self
    simp only [sumL, List.foldr_cons, List.length_cons] at ih ⊢
    rw [show M * ((l.length + 1 : Nat) : Int) = M * l.length + M by rw [Int.natCast_add, Int.mul_add]; simp]
    omega
theorem sumL_take_succ (l : List Int) (k : Nat) (h : k < l.length) : sumL (l.take (k + 1)) = sumL (l.take k) + l[k] := by
  rw [List.take_succ_eq_append_getElem h, sumL_app, sumL_one]
/-- how many of the days lie in the first one's month -/
def span (xs : List Int) (y m d : Int) : Nat := min xs.length (dim y m - d + 1).toNat
/-- the pays, each of one month -/
def MonthsR : List Pay → List Int → Int → Int → Prop
  | [], xs, _, _ => xs = []
  | p :: ps, xs, f, way => ∃ y m d, Vld y m d ∧ num y m d = f ∧ xs ≠ [] ∧
      p = (f, f + (span xs y m d : Int), rnd (sumL (xs.take (span xs y m d))) (dim y m) way) ∧ MonthsR ps (xs.drop (span xs y m d)) (f + (span xs y m d : Int)) way
theorem MonthsR.unique : ∀ {ps qs : List Pay} {xs : List Int} {f way : Int}, MonthsR ps xs f way → MonthsR qs xs f way → ps = qs
  | [], [], _, _, _, _, _ => rfl
  | [], q :: qs, xs, f, way, h, h' => by
    obtain ⟨_, _, _, _, _, hx, _⟩ := h'
    exact absurd h hx
  | p :: ps, [], xs, f, way, h, h' => by
    obtain ⟨_, _, _, _, _, hx, _⟩ := h
    exact absurd h' hx
  | p :: ps, q :: qs, xs, f, way, h, h' => by
    obtain ⟨y, m, d, hv, hn, _, hp, hr⟩ := h
    obtain ⟨y', m', d', hv', hn', _, hq, hr'⟩ := h'
    obtain ⟨rfl, rfl, rfl⟩ := Vld.unique hv hv' (hn.trans hn'.symm)
    rw [hp, hq, MonthsR.unique hr hr']
/-- so far: what comes of the rest completes it -/
def Pre (ps : List Pay) (xs : List Int) (f way : Int) (i : Nat) : Prop := ∀ rest, MonthsR rest (xs.drop i) (f + (i : Int)) way → MonthsR (ps ++ rest) xs f way
theorem Pre.start (xs : List Int) (f way : Int) : Pre [] xs f way 0 := fun rest h => by simpa using h
theorem Pre.step {ps : List Pay} {xs : List Int} {f way : Int} {i : Nat} (h : Pre ps xs f way i) {y m d : Int} (hv : Vld y m d) (hn : num y m d = f + (i : Int)) (hi : i < xs.length) :
    Pre (ps ++ [(f + (i : Int), f + (i : Int) + (span (xs.drop i) y m d : Int), rnd (sumL ((xs.drop i).take (span (xs.drop i) y m d))) (dim y m) way)]) xs f way (i + span (xs.drop i) y m d) := by
  intro rest hr
  rw [List.append_assoc]
  refine h _ ⟨y, m, d, hv, hn, ?_, rfl, ?_⟩
  · intro e
    have := congrArg List.length e
    simp at this
    omega
  · rw [List.drop_drop, Int.add_assoc, ← Int.natCast_add]
    exact hr
theorem Pre.finish {ps : List Pay} {xs : List Int} {f way : Int} (h : Pre ps xs f way xs.length) : MonthsR ps xs f way := by
  have := h [] (by simp [MonthsR])
  simpa using this
end Go.Proofs.YtflklbhgjfonbaaGreatDoor.Pays
namespace Go.Proofs.YtflklbhgjfonbaaGreatDoor.Pays
open Cal Rnd

/-- where the reckoning stands ahead of a day -/
def RefI (ps : List Pay) (xs : List Int) (f way : Int) (i : Nat) (sum first : Int) : Prop :=
  ∃ j : Nat, Pre ps xs f way j ∧ j ≤ i ∧ first = f + (j : Int) ∧ sum = sumL ((xs.drop j).take (i - j)) ∧ (i = xs.length → j = i) ∧
    (j < i → ∃ y m d, Vld y m d ∧ num y m d = f + (j : Int) ∧ d + ((i - j : Nat) : Int) ≤ dim y m)
theorem RefI.start (xs : List Int) (f way : Int) : RefI [] xs f way 0 0 f :=
  ⟨0, Pre.start xs f way, Nat.le_refl _, by simp, by simp [sumL], fun _ => rfl, fun h => absurd h (by omega)⟩
theorem RefI.sum_bd {ps : List Pay} {xs : List Int} {f way : Int} {i : Nat} {sum first : Int} (h : RefI ps xs f way i sum first) (hl : xs.length ≤ 4000) (hx : ∀ x ∈ xs, -1000000000000 ≤ x ∧ x ≤ 1000000000000) : -4000000000000000 ≤ sum ∧ sum ≤ 4000000000000000 := by
  obtain ⟨j, _, _, _, hs, _⟩ := h
  have := sumL_bd 1000000000000 ((xs.drop j).take (i - j)) (fun x hx' => hx x (List.mem_of_mem_drop (List.mem_of_mem_take hx')))
  have hl2 : ((xs.drop j).take (i - j)).length ≤ 4000 := by
    rw [List.length_take, List.length_drop]; omega
  rw [← hs] at this
  have hk : (1000000000000 : Int) * ((xs.drop j).take (i - j)).length ≤ 1000000000000 * 4000 := Int.mul_le_mul_of_nonneg_left (by omega) (by omega)
  omega
theorem RefI.here {ps : List Pay} {xs : List Int} {f way : Int} {i : Nat} {sum first : Int} (h : RefI ps xs f way i sum first) (hi : i < xs.length) {y m d' : Int} (hv : Vld y m d') (hn : num y m d' = f + (i : Int)) :
    ∃ (j : Nat) (d : Int), Pre ps xs f way j ∧ j ≤ i ∧ first = f + (j : Int) ∧ sum + xs[i] = sumL ((xs.drop j).take (i - j + 1)) ∧ Vld y m d ∧ num y m d = f + (j : Int) ∧ d' = d + ((i - j : Nat) : Int) := by
  obtain ⟨j, hp, hj, hf, hs, _, hd⟩ := h
  have hsum : sum + xs[i] = sumL ((xs.drop j).take (i - j + 1)) := by
    rw [sumL_take_succ _ _ (by rw [List.length_drop]; omega), ← hs]
    simp [show j + (i - j) = i by omega]
  rcases Nat.lt_or_ge j i with hlt | hge
  · obtain ⟨y2, m2, d2, hv2, hn2, hb2⟩ := hd hlt
    have hv3 : Vld y2 m2 (d2 + ((i - j : Nat) : Int)) := by
      obtain ⟨a, b, c, d, e, _⟩ := hv2
      exact ⟨a, b, c, d, by omega, hb2⟩
    have hn3 : num y2 m2 (d2 + ((i - j : Nat) : Int)) = f + (i : Int) := by
      unfold num at hn2 ⊢
      omega
    obtain ⟨rfl, rfl, rfl⟩ := Vld.unique hv hv3 (hn.trans hn3.symm)
    exact ⟨j, d2, hp, hj, hf, hsum, hv2, hn2, rfl⟩
  · obtain rfl : i = j := by omega
    exact ⟨i, d', hp, Nat.le_refl _, hf, hsum, hv, hn, by simp⟩
theorem RefI.stop {ps : List Pay} {xs : List Int} {f way : Int} {i : Nat} {sum first : Int} (h : RefI ps xs f way i sum first) (hi : i < xs.length) {y m d' : Int} (hv : Vld y m d') (hn : num y m d' = f + (i : Int)) (he : d' = dim y m ∨ i + 1 = xs.length) :
    RefI (ps ++ [(first, f + (i : Int) + 1, rnd (sum + xs[i]) (dim y m) way)]) xs f way (i + 1) 0 (f + (i : Int) + 1) := by
  obtain ⟨j, d, hp, hj, hf, hs, hv2, hn2, hd⟩ := h.here hi hv hn
  have hdim : d' ≤ dim y m := hv.2.2.2.2.2
  have hspan : span (xs.drop j) y m d = i - j + 1 := by
    unfold span
    rw [List.length_drop]
    omega
  have h2 := hp.step hv2 hn2 (by omega)
  rw [hspan, ← hs, show j + (i - j + 1) = i + 1 by omega, show f + (j : Int) + ((i - j + 1 : Nat) : Int) = f + (i : Int) + 1 by omega, ← hf] at h2
  exact ⟨i + 1, h2, Nat.le_refl _, by omega, by simp [sumL], fun _ => rfl, fun h => absurd h (by omega)⟩
theorem RefI.go {ps : List Pay} {xs : List Int} {f way : Int} {i : Nat} {sum first : Int} (h : RefI ps xs f way i sum first) (hi : i < xs.length) {y m d' : Int} (hv : Vld y m d') (hn : num y m d' = f + (i : Int)) (h1 : d' ≠ dim y m) (h2 : i + 1 ≠ xs.length) :
    RefI ps xs f way (i + 1) (sum + xs[i]) first := by
  obtain ⟨j, d, hp, hj, hf, hs, hv2, hn2, hd⟩ := h.here hi hv hn
  have hdim : d' ≤ dim y m := hv.2.2.2.2.2
  refine ⟨j, hp, by omega, hf, by rw [hs, show i + 1 - j = i - j + 1 by omega], fun e => absurd e h2, fun _ => ⟨y, m, d, hv2, hn2, by omega⟩⟩
theorem RefI.finish {ps : List Pay} {xs : List Int} {f way : Int} {sum first : Int} (h : RefI ps xs f way xs.length sum first) : MonthsR ps xs f way := by
  obtain ⟨j, hp, _, _, _, hj, _⟩ := h
  obtain rfl := hj rfl
  exact hp.finish
end Go.Proofs.YtflklbhgjfonbaaGreatDoor.Pays

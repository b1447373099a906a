/- What days come to, month by month, in plain lists. -/
import Derived.Test.YtipbmpakdcmdoaaDoorCal2
import Derived.Test.YtipbmpakdcmdoaaDoorRnd
namespace Go.Proofs.YtipbmpakdcmdoaaDoor.Pays
open Cal Rnd

abbrev Pay := Int × Int × Int
def payCells (p : Pay) : List Value := [.int .i64 p.1, .int .i64 p.2.1, .int .i64 p.2.2]
theorem payCells_len (p : Pay) : (payCells p).length = 3 := rfl
def sumL (l : List Int) : Int := l.foldr (fun a b => a + b) 0
theorem sumL_app (l r : List Int) : sumL (l ++ r) = sumL l + sumL r := by
  induction l with
  | nil => simp [sumL]
  | cons a l ih => simp only [sumL, List.cons_append, List.foldr_cons] at ih ⊢; omega
theorem sumL_one (a : Int) : sumL [a] = a := by simp [sumL]
theorem sumL_bd (M : Int) : ∀ (l : List Int), (∀ x ∈ l, -M ≤ x ∧ x ≤ M) → -(M * l.length) ≤ sumL l ∧ sumL l ≤ M * l.length
  | [], _ => by simp [sumL]
  | a :: l, h => by
    have ih := sumL_bd M l (fun x hx => h x (List.mem_cons_of_mem _ hx))
    have ha := h a List.mem_cons_self
    simp only [sumL, List.foldr_cons, List.length_cons] at ih ⊢
    rw [show M * ((l.length + 1 : Nat) : Int) = M * l.length + M by rw [Int.natCast_add, Int.mul_add]; simp]
    omega
theorem sumL_take_succ (l : List Int) (k : Nat) (h : k < l.length) : sumL (l.take (k + 1)) = sumL (l.take k) + l[k] := by
  rw [List.take_succ_eq_append_getElem h, sumL_app, sumL_one]
/-- how many of the days lie in the first one's month -/
def span (xs : List Int) (y m d : Int) : Nat := min xs.length (dim y m - d + 1).toNat
/-- the pays, each of one month -/
def MonthsR : List Pay → List Int → Int → Int → Prop
  | [], xs, _, _ => xs = []
  | p :: ps, xs, f, way => ∃ y m d, Vld y m d ∧ num y m d = f ∧ xs ≠ [] ∧
      p = (f, f + (span xs y m d : Int), rnd (sumL (xs.take (span xs y m d))) (dim y m) way) ∧ MonthsR ps (xs.drop (span xs y m d)) (f + (span xs y m d : Int)) way
theorem MonthsR.unique : ∀ {ps qs : List Pay} {xs : List Int} {f way : Int}, MonthsR ps xs f way → MonthsR qs xs f way → ps = qs
  | [], [], _, _, _, _, _ => rfl
  | [], q :: qs, xs, f, way, h, h' => by
    obtain ⟨_, _, _, _, _, hx, _⟩ := h'
    exact absurd h hx
  | p :: ps, [], xs, f, way, h, h' => by
    obtain ⟨_, _, _, _, _, hx, _⟩ := h
    exact absurd h' hx
  | p :: ps, q :: qs, xs, f, way, h, h' => by
    obtain ⟨y, m, d, hv, hn, _, hp, hr⟩ := h
    obtain ⟨y', m', d', hv', hn', _, hq, hr'⟩ := h'
    obtain ⟨rfl, rfl, rfl⟩ := Vld.unique hv hv' (hn.trans hn'.symm)
    rw [hp, hq, MonthsR.unique hr hr']
/-- so far: what comes of the rest completes it -/
def Pre (ps : List Pay) (xs : List Int) (f way : Int) (i : Nat) : Prop := ∀ rest, MonthsR rest (xs.drop i) (f + (i : Int)) way → MonthsR (ps ++ rest) xs f way
theorem Pre.start (xs : List Int) (f way : Int) : Pre [] xs f way 0 := fun rest h => by simpa using h
theorem Pre.step {ps : List Pay} {xs : List Int} {f way : Int} {i : Nat} (h : Pre ps xs f way i) {y m d : Int} (hv : Vld y m d) (hn : num y m d = f + (i : Int)) (hi : i < xs.length) :
    Pre (ps ++ [(f + (i : Int), f + (i : Int) + (span (xs.drop i) y m d : Int), rnd (sumL ((xs.drop i).take (span (xs.drop i) y m d))) (dim y m) way)]) xs f way (i + span (xs.drop i) y m d) := by
  intro rest hr
  rw [List.append_assoc]
  refine h _ ⟨y, m, d, hv, hn, ?_, rfl, ?_⟩
  · intro e
    have := congrArg List.length e
    simp at this
    omega
  · rw [List.drop_drop, Int.add_assoc, ← Int.natCast_add]
    exact hr
theorem Pre.finish {ps : List Pay} {xs : List Int} {f way : Int} (h : Pre ps xs f way xs.length) : MonthsR ps xs f way := by
  have := h [] (by simp [MonthsR])
  simpa using this
end Go.Proofs.YtipbmpakdcmdoaaDoor.Pays

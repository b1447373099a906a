/- Rules that are against each other: what follows, plain. -/
namespace Go.Proofs.YtipbmpakdcmdoaaDoor.Thy

structure Rl where
  kind : Int
  head : Int
  body : List Int
structure Th where
  names : Int
  rules : List Rl
  over : List (Int × Int)
abbrev St := Int → Int
def Th.Lit (t : Th) (q : Int) : Prop := q ≠ 0 ∧ -t.names ≤ q ∧ q ≤ t.names
def AllY (h : St) (b : List Int) : Prop := ∀ x ∈ b, h x = 1
def Fails (h : St) (b : List Int) : Prop := ∃ x ∈ b, h x = 2
def Above (t : Th) (k i : Nat) : Prop := ((k : Int), (i : Int)) ∈ t.over
def SureY (t : Th) (s : St) (q : Int) : Prop := ∃ r ∈ t.rules, r.kind = 0 ∧ r.head = q ∧ AllY s r.body
def SureN (t : Th) (s : St) (q : Int) : Prop := ∀ r ∈ t.rules, r.kind = 0 → r.head = q → Fails s r.body
def Supp (t : Th) (h : St) (q : Int) : Prop := ∃ r ∈ t.rules, r.kind ≠ 2 ∧ r.head = q ∧ AllY h r.body
def Outd (t : Th) (h : St) (i : Nat) (q : Int) : Prop := ∃ (k : Nat) (hk : k < t.rules.length), t.rules[k].head = q ∧ t.rules[k].kind ≠ 2 ∧ Above t k i ∧ AllY h t.rules[k].body
def Opp (t : Th) (h : St) (q : Int) : Prop := ∃ (i : Nat) (hi : i < t.rules.length), t.rules[i].head = -q ∧ ¬ Fails h t.rules[i].body ∧ ¬ Outd t h i q
def Bare (t : Th) (h : St) (q : Int) : Prop := ∀ r ∈ t.rules, r.kind ≠ 2 → r.head = q → Fails h r.body
def SafeR (t : Th) (h : St) (i : Nat) (q : Int) : Prop := ∀ (k : Nat) (hk : k < t.rules.length), t.rules[k].head = q → t.rules[k].kind ≠ 2 → Above t k i → Fails h t.rules[k].body
def Beat (t : Th) (h : St) (q : Int) : Prop := ∃ (i : Nat) (hi : i < t.rules.length), t.rules[i].head = -q ∧ AllY h t.rules[i].body ∧ SafeR t h i q
def Fol (t : Th) (s h : St) : Bool → Bool → Int → Prop
  | true, true, q => SureY t s q
  | true, false, q => SureN t s q
  | false, true, q => s q = 1 ∨ (s (-q) = 2 ∧ Supp t h q ∧ ¬ Opp t h q)
  | false, false, q => s q = 2 ∧ (s (-q) = 1 ∨ Bare t h q ∨ Beat t h q)
def val : Bool → Int
  | true => 1
  | false => 2
def pick (a : Bool) (s h : St) : St := match a with
  | true => s
  | false => h
def upd (s : St) (q v : Int) : St := fun x => if x = q then v else s x
def Le (s s' : St) : Prop := ∀ q, s q ≠ 0 → s' q = s q
theorem Le.refl (s : St) : Le s s := fun _ _ => rfl
theorem Le.trans {a b c : St} (h : Le a b) (k : Le b c) : Le a c := fun q hq => by
  have h1 := h q hq
  rw [k q (by rw [h1]; exact hq), h1]
theorem Le.at_ {s s' : St} (h : Le s s') {q v : Int} (hv : v ≠ 0) (e : s q = v) : s' q = v := by
  rw [h q (by rw [e]; exact hv), e]
theorem le_upd {s : St} {q v : Int} (h : s q = 0) : Le s (upd s q v) := fun x hx => by
  unfold upd
  by_cases e : x = q
  · subst e; exact absurd h hx
  · rw [if_neg e]
theorem AllY.mono {h h' : St} {b : List Int} (l : Le h h') (a : AllY h b) : AllY h' b := fun x hx => l.at_ (by decide) (a x hx)
theorem Fails.mono {h h' : St} {b : List Int} (l : Le h h') : Fails h b → Fails h' b := fun ⟨x, hx, e⟩ => ⟨x, hx, l.at_ (by decide) e⟩
theorem AllY.not_fails {h : St} {b : List Int} (a : AllY h b) : ¬ Fails h b := fun ⟨x, hx, e⟩ => by
  rw [a x hx] at e
  exact absurd e (by decide)
theorem Outd.mono {t : Th} {h h' : St} {i : Nat} {q : Int} (l : Le h h') : Outd t h i q → Outd t h' i q := fun ⟨k, hk, a, b, c, d⟩ => ⟨k, hk, a, b, c, d.mono l⟩
theorem not_opp_mono {t : Th} {h h' : St} {q : Int} (l : Le h h') (n : ¬ Opp t h q) : ¬ Opp t h' q := fun ⟨i, hi, a, b, c⟩ =>
  n ⟨i, hi, a, fun f => b (f.mono l), fun f => c (f.mono l)⟩
theorem Fol.mono {t : Th} {s h s' h' : St} (ls : Le s s') (lh : Le h h') : ∀ {a b : Bool} {q : Int}, Fol t s h a b q → Fol t s' h' a b q
  | true, true, _, ⟨r, hr, k, e, y⟩ => ⟨r, hr, k, e, y.mono ls⟩
  | true, false, _, f => fun r hr k e => (f r hr k e).mono ls
  | false, true, _, .inl e => .inl (ls.at_ (by decide) e)
  | false, true, _, .inr ⟨e, ⟨r, hr, k, e', y⟩, o⟩ => .inr ⟨ls.at_ (by decide) e, ⟨r, hr, k, e', y.mono lh⟩, not_opp_mono lh o⟩
  | false, false, _, ⟨e, .inl e'⟩ => ⟨ls.at_ (by decide) e, .inl (ls.at_ (by decide) e')⟩
  | false, false, _, ⟨e, .inr (.inl b)⟩ => ⟨ls.at_ (by decide) e, .inr (.inl fun r hr k e' => (b r hr k e').mono lh)⟩
  | false, false, _, ⟨e, .inr (.inr ⟨i, hi, a, y, sf⟩)⟩ => ⟨ls.at_ (by decide) e, .inr (.inr ⟨i, hi, a, y.mono lh, fun k hk x1 x2 x3 => (sf k hk x1 x2 x3).mono lh⟩)⟩
theorem Fol.excl {t : Th} {s h : St} : ∀ {a : Bool} {q : Int}, Fol t s h a true q → Fol t s h a false q → False
  | true, _, ⟨r, hr, k, e, y⟩, f => y.not_fails (f r hr k e)
  | false, q, y, ⟨n, f⟩ => by
    rcases y with y | ⟨y, ⟨r, hr, k, e, ya⟩, o⟩
    · rw [y] at n; exact absurd n (by decide)
    · rcases f with f | f | ⟨i, hi, ih, iy, is⟩
      · rw [y] at f; exact absurd f (by decide)
      · exact ya.not_fails (f r hr k e)
      · refine o ⟨i, hi, ih, iy.not_fails, fun ⟨k', hk', a1, a2, a3, a4⟩ => ?_⟩
        exact a4.not_fails (is k' hk' a1 a2 a3)
/-- each thing that is known follows from what is known -/
def Good (t : Th) (s h : St) : Prop := ∀ a q, pick a s h q = 0 ∨ ∃ b, pick a s h q = val b ∧ Fol t s h a b q
/-- nothing more follows -/
def Fin (t : Th) (s h : St) : Prop := ∀ a b q, t.Lit q → Fol t s h a b q → pick a s h q ≠ 0
theorem Good.start (t : Th) : Good t (fun _ => 0) (fun _ => 0) := fun a q => .inl (by cases a <;> rfl)
theorem val_ne (b : Bool) : val b ≠ 0 := by cases b <;> decide
theorem Good.mono_keep {t : Th} {s h s' h' : St} (g : Good t s h) (ls : Le s s') (lh : Le h h') {a : Bool} {q : Int} (e : pick a s' h' q = pick a s h q) : pick a s' h' q = 0 ∨ ∃ b, pick a s' h' q = val b ∧ Fol t s' h' a b q := by
  rcases g a q with z | ⟨b, e', f⟩
  · exact .inl (e.trans z)
  · exact .inr ⟨b, e.trans e', f.mono ls lh⟩
def nextS (a b : Bool) (q : Int) (s : St) : St := match a with
  | true => upd s q (val b)
  | false => s
def nextH (a b : Bool) (q : Int) (h : St) : St := match a with
  | true => h
  | false => upd h q (val b)
theorem Good.step {t : Th} {s h : St} (g : Good t s h) {a b : Bool} {q : Int} (z : pick a s h q = 0) (f : Fol t s h a b q) :
    Good t (nextS a b q s) (nextH a b q h) := by
  cases a with
  | true =>
    have ls : Le s (upd s q (val b)) := le_upd z
    intro a' q'
    by_cases e : a' = true ∧ q' = q
    · obtain ⟨rfl, rfl⟩ := e
      exact .inr ⟨b, by simp [pick, upd, nextS], f.mono ls (Le.refl h)⟩
    · refine g.mono_keep ls (Le.refl h) ?_
      cases a' with
      | true =>
        have : q' ≠ q := fun x => e ⟨rfl, x⟩
        simp [pick, upd, this]
      | false => rfl
  | false =>
    have lh : Le h (upd h q (val b)) := le_upd z
    intro a' q'
    by_cases e : a' = false ∧ q' = q
    · obtain ⟨rfl, rfl⟩ := e
      exact .inr ⟨b, by simp [pick, upd, nextH], f.mono (Le.refl s) lh⟩
    · refine g.mono_keep (Le.refl s) lh ?_
      cases a' with
      | false =>
        have : q' ≠ q := fun x => e ⟨rfl, x⟩
        simp [pick, upd, this]
      | true => rfl
theorem lit_neg {t : Th} {q : Int} (h : t.Lit q) : t.Lit (-q) := by unfold Th.Lit at *; omega
theorem Good.of_one {t : Th} {s h : St} (g : Good t s h) {a : Bool} {q : Int} (e : pick a s h q = 1) : Fol t s h a true q := by
  rcases g a q with z | ⟨b, e', f⟩
  · rw [z] at e; exact absurd e (by decide)
  · cases b
    · rw [e'] at e; exact absurd e (by decide)
    · exact f
theorem Good.of_two {t : Th} {s h : St} (g : Good t s h) {a : Bool} {q : Int} (e : pick a s h q = 2) : Fol t s h a false q := by
  rcases g a q with z | ⟨b, e', f⟩
  · rw [z] at e; exact absurd e (by decide)
  · cases b
    · exact f
    · rw [e'] at e; exact absurd e (by decide)
theorem Good.fin {t : Th} {s h : St} (g : Good t s h) (fi : Fin t s h) {a b : Bool} {q : Int} (l : t.Lit q) (f : Fol t s h a b q) : pick a s h q = val b := by
  rcases g a q with z | ⟨b', e', f'⟩
  · exact absurd z (fi a b q l f)
  · cases b <;> cases b'
    · exact e'
    · exact (f'.excl f).elim
    · exact (f.excl f').elim
    · exact e'
/-- the rule over all ranks -/
theorem le_foldr_max (f : Nat → Nat) : ∀ (l : List Nat) (i : Nat), i ∈ l → f i ≤ (l.map f).foldr max 0
  | [], i, h => by cases h
  | x :: l, i, h => by
    rcases List.mem_cons.1 h with rfl | h
    · simp only [List.map_cons, List.foldr_cons]; omega
    · have := le_foldr_max f l i h
      simp only [List.map_cons, List.foldr_cons]
      omega
/-- nothing is above itself, by way of others -/
def Ranked (over : List (Int × Int)) : Prop := ∃ rk : Nat → Nat, ∀ p ∈ over, rk p.2.toNat < rk p.1.toNat
theorem firm {t : Th} {s h : St} (g : Good t s h) (fi : Fin t s h) (hr : Ranked t.over) {q : Int} (l : t.Lit q) :
    (h q = 1 → h (-q) = 1 → s q = 1 ∧ s (-q) = 1) ∧ (s q = 1 → h q = 1) ∧ (h q = 2 → s q = 2) := by
  refine ⟨fun h1 h2 => ?_, fun e => g.fin fi (a := false) (b := true) l (.inl e), fun e => (g.of_two (a := false) e).1⟩
  have f1 := g.of_one (a := false) (q := q) h1
  have f2 := g.of_one (a := false) (q := -q) h2
  rcases f1 with f1 | ⟨f1, s1, o1⟩
  · rcases f2 with f2 | ⟨f2, _, _⟩
    · exact ⟨f1, f2⟩
    · rw [Int.neg_neg, f1] at f2
      exact absurd f2 (by decide)
  · rcases f2 with f2 | ⟨_, s2, o2⟩
    · rw [f1] at f2; exact absurd f2 (by decide)
    · exfalso
      obtain ⟨rk, hrk⟩ := hr
      have key : ∀ (d : Nat) (i : Nat) (hi : i < t.rules.length), ((List.range t.rules.length).map rk).foldr max 0 - rk i ≤ d → (t.rules[i].head = q ∨ t.rules[i].head = -q) → AllY h t.rules[i].body → False := by
        intro d
        induction d with
        | zero =>
          intro i hi hd hh ha
          have hout : ∃ (k : Nat) (hk : k < t.rules.length), Above t k i ∧ (t.rules[k].head = q ∨ t.rules[k].head = -q) ∧ AllY h t.rules[k].body := by
            rcases hh with hh | hh
            · have := Classical.not_not.1 fun c => o2 ⟨i, hi, by rw [hh, Int.neg_neg], ha.not_fails, c⟩
              obtain ⟨k, hk, b1, b2, b3, b4⟩ := this
              exact ⟨k, hk, b3, .inr b1, b4⟩
            · have := Classical.not_not.1 fun c => o1 ⟨i, hi, hh, ha.not_fails, c⟩
              obtain ⟨k, hk, b1, b2, b3, b4⟩ := this
              exact ⟨k, hk, b3, .inl b1, b4⟩
          obtain ⟨k, hk, b3, _, _⟩ := hout
          have := hrk _ b3
          have hm := le_foldr_max rk (List.range t.rules.length) k (by simpa using hk)
          simp at this
          omega
        | succ d ih =>
          intro i hi hd hh ha
          have hout : ∃ (k : Nat) (hk : k < t.rules.length), Above t k i ∧ (t.rules[k].head = q ∨ t.rules[k].head = -q) ∧ AllY h t.rules[k].body := by
            rcases hh with hh | hh
            · have := Classical.not_not.1 fun c => o2 ⟨i, hi, by rw [hh, Int.neg_neg], ha.not_fails, c⟩
              obtain ⟨k, hk, b1, b2, b3, b4⟩ := this
              exact ⟨k, hk, b3, .inr b1, b4⟩
            · have := Classical.not_not.1 fun c => o1 ⟨i, hi, hh, ha.not_fails, c⟩
              obtain ⟨k, hk, b1, b2, b3, b4⟩ := this
              exact ⟨k, hk, b3, .inl b1, b4⟩
          obtain ⟨k, hk, b3, b1, b4⟩ := hout
          have := hrk _ b3
          have hm := le_foldr_max rk (List.range t.rules.length) k (by simpa using hk)
          simp at this
          exact ih k hk (by omega) b1 b4
      obtain ⟨r, hr', hk, he, hy⟩ := s1
      obtain ⟨i, hi, rfl⟩ := List.mem_iff_getElem.1 hr'
      exact key _ i hi (Nat.le_refl _) (.inl he) hy
/-- where bodies speak of names ahead of the head's alone, nothing is open -/
theorem total {t : Th} {s h : St} (g : Good t s h) (fi : Fin t s h) (hl : ∀ r ∈ t.rules, ∀ x ∈ r.body, t.Lit x) (hb : ∀ r ∈ t.rules, ∀ x ∈ r.body, x.natAbs < r.head.natAbs) :
    ∀ (n : Nat) (q : Int), q.natAbs ≤ n → t.Lit q → s q ≠ 0 ∧ h q ≠ 0 := by
  have cl : ∀ a q, pick a s h q ≠ 0 → pick a s h q = 1 ∨ pick a s h q = 2 := fun a q e => by
    rcases g a q with z | ⟨b, e', _⟩
    · exact absurd z e
    · cases b
      · exact .inr e'
      · exact .inl e'
  intro n
  induction n with
  | zero => intro q hq l; exact absurd (by omega) l.1
  | succ n ih =>
    have body : ∀ r ∈ t.rules, r.head.natAbs ≤ n + 1 → ∀ x ∈ r.body, s x ≠ 0 ∧ h x ≠ 0 := fun r hr hn x hx => ih x (by have := hb r hr x hx; omega) (hl r hr x hx)
    have nf : ∀ a, ∀ r ∈ t.rules, r.head.natAbs ≤ n + 1 → ¬ Fails (pick a s h) r.body → AllY (pick a s h) r.body := fun a r hr hn f x hx => by
      have hx0 : pick a s h x ≠ 0 := by
        have := body r hr hn x hx
        cases a
        · exact this.2
        · exact this.1
      rcases cl a x hx0 with e | e
      · exact e
      · exact (f ⟨x, hx, e⟩).elim
    have sure : ∀ q, q.natAbs ≤ n + 1 → t.Lit q → s q ≠ 0 := fun q hq l z => by
      have y : ¬ SureY t s q := fun f => fi true true q l f z
      have no : ¬ SureN t s q := fun f => fi true false q l f z
      apply no
      intro r hr k e
      refine Classical.byContradiction fun f => y ⟨r, hr, k, e, ?_⟩
      exact nf true r hr (by rw [e]; exact hq) f
    intro q hq l
    refine ⟨sure q hq l, fun z => ?_⟩
    have ln := lit_neg l
    have y : ¬ Fol t s h false true q := fun f => fi false true q l f z
    have no : ¬ Fol t s h false false q := fun f => fi false false q l f z
    have sq : s q = 2 := by
      rcases cl true q (sure q hq l) with e | e
      · exact (y (.inl e)).elim
      · exact e
    have sn : s (-q) = 2 := by
      rcases cl true (-q) (sure (-q) (by omega) ln) with e | e
      · exact (no ⟨sq, .inl e⟩).elim
      · exact e
    have nb : ¬ Bare t h q := fun f => no ⟨sq, .inr (.inl f)⟩
    have nbt : ¬ Beat t h q := fun f => no ⟨sq, .inr (.inr f)⟩
    have sp : Supp t h q := by
      refine Classical.byContradiction fun c => nb fun r hr k e => Classical.byContradiction fun f => c ⟨r, hr, k, e, ?_⟩
      exact nf false r hr (by rw [e]; exact hq) f
    have op : Opp t h q := Classical.byContradiction fun c => y (.inr ⟨sn, sp, c⟩)
    obtain ⟨i, hi, ih1, if1, io⟩ := op
    have iy := nf false t.rules[i] (List.getElem_mem hi) (by rw [ih1]; omega) if1
    refine nbt ⟨i, hi, ih1, iy, fun k hk a1 a2 a3 => Classical.byContradiction fun f => io ⟨k, hk, a1, a2, a3, ?_⟩⟩
    exact nf false t.rules[k] (List.getElem_mem hk) (by rw [a1]; exact hq) f
/-- no false explanation -/
theorem sound {t : Th} {s h S H : St} (g : Good t S H) (fi : Fin t S H) (ls : Le s S) (lh : Le h H) {a b : Bool} {q : Int} (l : t.Lit q) (f : Fol t s h a b q) : pick a S H q = val b :=
  g.fin fi l (f.mono ls lh)
theorem le_upd_of {s S : St} {q v : Int} (l : Le s S) (e : S q = v) : Le (upd s q v) S := fun x hx => by
  unfold upd at hx ⊢
  by_cases c : x = q
  · subst c; rw [if_pos rfl]; exact e
  · rw [if_neg c] at hx ⊢; exact l x hx

/-! ### places -/
def place (q : Int) : Nat := if 0 < q then (2 * (q - 1)).toNat else (2 * (-q - 1) + 1).toNat
def lit (p : Nat) : Int := if p % 2 = 0 then (p / 2 : Nat) + 1 else -((p / 2 : Nat) + 1)
def other (p : Nat) : Nat := if p % 2 = 0 then p + 1 else p - 1
theorem lit_ne (p : Nat) : lit p ≠ 0 := by unfold lit; split <;> omega
theorem place_lit (p : Nat) : place (lit p) = p := by unfold lit place; split <;> split <;> omega
theorem lit_place {q : Int} (h : q ≠ 0) : lit (place q) = q := by unfold lit place; split <;> split <;> omega
theorem lit_other (p : Nat) : lit (other p) = -lit p := by unfold lit other; split <;> split <;> omega
theorem place_lt {q n : Int} (h : q ≠ 0) (h1 : -n ≤ q) (h2 : q ≤ n) : place q < (2 * n).toNat := by unfold place; split <;> omega
theorem place_inj {q r : Int} (h : q ≠ 0) (k : r ≠ 0) (e : place q = place r) : q = r := by rw [← lit_place h, e, lit_place k]
/-- what a list says of a literal -/
def stOf (l : List Int) : St := fun q => if q = 0 then 0 else l.getD (place q) 0
theorem stOf_set {l : List Int} {q v : Int} (h : q ≠ 0) (hp : place q < l.length) : stOf (l.set (place q) v) = upd (stOf l) q v := by
  funext x
  unfold stOf upd
  by_cases hx : x = 0
  · subst hx; simp [Ne.symm h]
  · by_cases e : x = q
    · subst e; simp [hx, List.getD, hp]
    · have : place q ≠ place x := fun c => e (place_inj hx h c.symm)
      simp [hx, e, List.getD, this]
theorem stOf_lit (l : List Int) {p : Nat} (hp : p < l.length) : stOf l (lit p) = l[p] := by
  unfold stOf
  rw [if_neg (lit_ne p), place_lit]
  simp [List.getD, hp]
theorem stOf_zeros (n : Nat) : stOf (List.replicate n 0) = fun _ => 0 := by
  funext q
  unfold stOf
  split
  · rfl
  · simp only [List.getD, List.getElem?_replicate]; split <;> rfl
end Go.Proofs.YtipbmpakdcmdoaaDoor.Thy

/- Rules that are against each other: what follows, plain. Whether some number comes back to itself: the search, plain. Rings, as the document finds them: what is above nothing that is left is taken away; plain. What running a solver does to what is known: plain. -/
namespace Go.Proofs.YtjfiodknjchngaaGreatDoor.Thy

structure Rl where
  kind : Int
  head : Int
  body : List Int
structure Th where
  names : Int
  rules : List Rl
  over : List (Int × Int)
abbrev St := Int → Int
def Th.Lit (t : Th) (q : Int) : Prop := q ≠ 0 ∧ -t.names ≤ q ∧ q ≤ t.names
def AllY (h : St) (b : List Int) : Prop := ∀ x ∈ b, h x = 1
def Fails (h : St) (b : List Int) : Prop := ∃ x ∈ b, h x = 2
def Above (t : Th) (k i : Nat) : Prop := ((k : Int), (i : Int)) ∈ t.over
def SureY (t : Th) (s : St) (q : Int) : Prop := ∃ r ∈ t.rules, r.kind = 0 ∧ r.head = q ∧ AllY s r.body
def SureN (t : Th) (s : St) (q : Int) : Prop := ∀ r ∈ t.rules, r.kind = 0 → r.head = q → Fails s r.body
def Supp (t : Th) (h : St) (q : Int) : Prop := ∃ r ∈ t.rules, r.kind ≠ 2 ∧ r.head = q ∧ AllY h r.body
def Outd (t : Th) (h : St) (i : Nat) (q : Int) : Prop := ∃ (k : Nat) (hk : k < t.rules.length), t.rules[k].head = q ∧ t.rules[k].kind ≠ 2 ∧ Above t k i ∧ AllY h t.rules[k].body
def Opp (t : Th) (h : St) (q : Int) : Prop := ∃ (i : Nat) (hi : i < t.rules.length), t.rules[i].head = -q ∧ ¬ Fails h t.rules[i].body ∧ ¬ Outd t h i q
def Bare (t : Th) (h : St) (q : Int) : Prop := ∀ r ∈ t.rules, r.kind ≠ 2 → r.head = q → Fails h r.body
def SafeR (t : Th) (h : St) (i : Nat) (q : Int) : Prop := ∀ (k : Nat) (hk : k < t.rules.length), t.rules[k].head = q → t.rules[k].kind ≠ 2 → Above t k i → Fails h t.rules[k].body
def Beat (t : Th) (h : St) (q : Int) : Prop := ∃ (i : Nat) (hi : i < t.rules.length), t.rules[i].head = -q ∧ AllY h t.rules[i].body ∧ SafeR t h i q
def Fol (t : Th) (s h : St) : Bool → Bool → Int → Prop
  | true, true, q => SureY t s q
  | true, false, q => SureN t s q
  | false, true, q => s q = 1 ∨ (s (-q) = 2 ∧ Supp t h q ∧ ¬ Opp t h q)
  | false, false, q => s q = 2 ∧ (s (-q) = 1 ∨ Bare t h q ∨ Beat t h q)
def val : Bool → Int
  | true => 1
  | false => 2
def pick (a : Bool) (s h : St) : St := match a with
  | true => s
  | false => h
def upd (s : St) (q v : Int) : St := fun x => if x = q then v else s x
def Le (s s' : St) : Prop := ∀ q, s q ≠ 0 → s' q = s q
theorem Le.refl (s : St) : Le s s := fun _ _ => rfl
theorem Le.trans {a b c : St} (h : Le a b) (k : Le b c) : Le a c := fun q hq => by
  have h1 := h q hq
  rw [k q (by rw [h1]; exact hq), h1]
theorem Le.at_ {s s' : St} (h : Le s s') {q v : Int} (hv : v ≠ 0) (e : s q = v) : s' q = v := by
  rw [h q (by rw [e]; exact hv), e]
theorem le_upd {s : St} {q v : Int} (h : s q = 0) : Le s (upd s q v) := fun x hx => by
  unfold upd
  by_cases e : x = q
  · subst e; exact absurd h hx
  · rw [if_neg e]
theorem AllY.mono {h h' : St} {b : List Int} (l : Le h h') (a : AllY h b) : AllY h' b := fun x hx => l.at_ (by decide) (a x hx)
theorem Fails.mono {h h' : St} {b : List Int} (l : Le h h') : Fails h b → Fails h' b := fun ⟨x, hx, e⟩ => ⟨x, hx, l.at_ (by decide) e⟩
theorem AllY.not_fails {h : St} {b : List Int} (a : AllY h b) : ¬ Fails h b := fun ⟨x, hx, e⟩ => by
  rw [a x hx] at e
  exact absurd e (by decide)
theorem Outd.mono {t : Th} {h h' : St} {i : Nat} {q : Int} (l : Le h h') : Outd t h i q → Outd t h' i q := fun ⟨k, hk, a, b, c, d⟩ => ⟨k, hk, a, b, c, d.mono l⟩
theorem not_opp_mono {t : Th} {h h' : St} {q : Int} (l : Le h h') (n : ¬ Opp t h q) : ¬ Opp t h' q := fun ⟨i, hi, a, b, c⟩ =>
  n ⟨i, hi, a, fun f => b (f.mono l), fun f => c (f.mono l)⟩
theorem Fol.mono {t : Th} {s h s' h' : St} (ls : Le s s') (lh : Le h h') : ∀ {a b : Bool} {q : Int}, Fol t s h a b q → Fol t s' h' a b q
  | true, true, _, ⟨r, hr, k, e, y⟩ => ⟨r, hr, k, e, y.mono ls⟩
  | true, false, _, f => fun r hr k e => (f r hr k e).mono ls
  | false, true, _, .inl e => .inl (ls.at_ (by decide) e)
  | false, true, _, .inr ⟨e, ⟨r, hr, k, e', y⟩, o⟩ => .inr ⟨ls.at_ (by decide) e, ⟨r, hr, k, e', y.mono lh⟩, not_opp_mono lh o⟩
  | false, false, _, ⟨e, .inl e'⟩ => ⟨ls.at_ (by decide) e, .inl (ls.at_ (by decide) e')⟩
  | false, false, _, ⟨e, .inr (.inl b)⟩ => ⟨ls.at_ (by decide) e, .inr (.inl fun r hr k e' => (b r hr k e').mono lh)⟩
  | false, false, _, ⟨e, .inr (.inr ⟨i, hi, a, y, sf⟩)⟩ => ⟨ls.at_ (by decide) e, .inr (.inr ⟨i, hi, a, y.mono lh, fun k hk x1 x2 x3 => (sf k hk x1 x2 x3).mono lh⟩)⟩
theorem Fol.excl {t : Th} {s h : St} : ∀ {a : Bool} {q : Int}, Fol t s h a true q → Fol t s h a false q → False
  | true, _, ⟨r, hr, k, e, y⟩, f => y.not_fails (f r hr k e)
  | false, q, y, ⟨n, f⟩ => by
    rcases y with y | ⟨y, ⟨r, hr, k, e, ya⟩, o⟩
    · rw [y] at n; exact absurd n (by decide)
    · rcases f with f | f | ⟨i, hi, ih, iy, is⟩
      · rw [y] at f; exact absurd f (by decide)
      · exact ya.not_fails (f r hr k e)
      · refine o ⟨i, hi, ih, iy.not_fails, fun ⟨k', hk', a1, a2, a3, a4⟩ => ?_⟩
        exact a4.not_fails (is k' hk' a1 a2 a3)
/-- each thing that is known follows from what is known -/
def Each (t : Th) (s h : St) : Prop := ∀ a q, pick a s h q = 0 ∨ ∃ b, pick a s h q = val b ∧ Fol t s h a b q
/-- nothing more follows -/
def Fin (t : Th) (s h : St) : Prop := ∀ a b q, t.Lit q → Fol t s h a b q → pick a s h q ≠ 0
theorem Each.start (t : Th) : Each t (fun _ => 0) (fun _ => 0) := fun a q => .inl (by cases a <;> rfl)
theorem val_ne (b : Bool) : val b ≠ 0 := by cases b <;> decide
theorem Each.mono_keep {t : Th} {s h s' h' : St} (g : Each t s h) (ls : Le s s') (lh : Le h h') {a : Bool} {q : Int} (e : pick a s' h' q = pick a s h q) : pick a s' h' q = 0 ∨ ∃ b, pick a s' h' q = val b ∧ Fol t s' h' a b q := by
  rcases g a q with z | ⟨b, e', f⟩
  · exact .inl (e.trans z)
  · exact .inr ⟨b, e.trans e', f.mono ls lh⟩
def nextS (a b : Bool) (q : Int) (s : St) : St := match a with
  | true => upd s q (val b)
  | false => s
def nextH (a b : Bool) (q : Int) (h : St) : St := match a with
  | true => h
  | false => upd h q (val b)
theorem Each.step {t : Th} {s h : St} (g : Each t s h) {a b : Bool} {q : Int} (z : pick a s h q = 0) (f : Fol t s h a b q) :
    Each t (nextS a b q s) (nextH a b q h) := by
  cases a with
  | true =>
    have ls : Le s (upd s q (val b)) := le_upd z
    intro a' q'
    by_cases e : a' = true ∧ q' = q
    · obtain ⟨rfl, rfl⟩ := e
      exact .inr ⟨b, by simp [pick, upd, nextS], f.mono ls (Le.refl h)⟩
    · refine g.mono_keep ls (Le.refl h) ?_
      cases a' with
      | true =>
        have : q' ≠ q := fun x => e ⟨rfl, x⟩
        simp [pick, upd, this]
      | false => rfl
  | false =>
    have lh : Le h (upd h q (val b)) := le_upd z
    intro a' q'
    by_cases e : a' = false ∧ q' = q
    · obtain ⟨rfl, rfl⟩ := e
      exact .inr ⟨b, by simp [pick, upd, nextH], f.mono (Le.refl s) lh⟩
    · refine g.mono_keep (Le.refl s) lh ?_
      cases a' with
      | false =>
        have : q' ≠ q := fun x => e ⟨rfl, x⟩
        simp [pick, upd, this]
      | true => rfl
/-- what is known has been shown, one thing behind the other -/
inductive Good (t : Th) : St → St → Prop
  | start : Good t (fun _ => 0) (fun _ => 0)
  | step {s h : St} {a b : Bool} {q : Int} : Good t s h → t.Lit q → pick a s h q = 0 → Fol t s h a b q → Good t (nextS a b q s) (nextH a b q h)
theorem Good.each {t : Th} {s h : St} (g : Good t s h) : Each t s h := by
  induction g with
  | start => exact Each.start t
  | step _ _ z f ih => exact ih.step z f
theorem lit_neg {t : Th} {q : Int} (h : t.Lit q) : t.Lit (-q) := by unfold Th.Lit at *; omega
theorem Good.of_one {t : Th} {s h : St} (g : Good t s h) {a : Bool} {q : Int} (e : pick a s h q = 1) : Fol t s h a true q := by
  rcases g.each a q with z | ⟨b, e', f⟩
  · rw [z] at e; exact absurd e (by decide)
  · cases b
    · rw [e'] at e; exact absurd e (by decide)
    · exact f
theorem Good.of_two {t : Th} {s h : St} (g : Good t s h) {a : Bool} {q : Int} (e : pick a s h q = 2) : Fol t s h a false q := by
  rcases g.each a q with z | ⟨b, e', f⟩
  · rw [z] at e; exact absurd e (by decide)
  · cases b
    · exact f
    · rw [e'] at e; exact absurd e (by decide)
theorem Good.fin {t : Th} {s h : St} (g : Good t s h) (fi : Fin t s h) {a b : Bool} {q : Int} (l : t.Lit q) (f : Fol t s h a b q) : pick a s h q = val b := by
  rcases g.each a q with z | ⟨b', e', f'⟩
  · exact absurd z (fi a b q l f)
  · cases b <;> cases b'
    · exact e'
    · exact (f'.excl f).elim
    · exact (f.excl f').elim
    · exact e'
/-- the rule over all ranks -/
theorem le_foldr_max (f : Nat → Nat) : ∀ (l : List Nat) (i : Nat), i ∈ l → f i ≤ (l.map f).foldr max 0
  | [], i, h => by cases h
  | x :: l, i, h => by
    rcases List.mem_cons.1 h with rfl | h
    · simp only [List.map_cons, List.foldr_cons]; omega
    · have := le_foldr_max f l i h
      simp only [List.map_cons, List.foldr_cons]
      omega
/-- nothing is above itself, by way of others -/
def Ranked (over : List (Int × Int)) : Prop := ∃ rk : Nat → Nat, ∀ p ∈ over, rk p.2.toNat < rk p.1.toNat
theorem firm {t : Th} {s h : St} (g : Good t s h) (fi : Fin t s h) (hr : Ranked t.over) {q : Int} (l : t.Lit q) :
    (h q = 1 → h (-q) = 1 → s q = 1 ∧ s (-q) = 1) ∧ (s q = 1 → h q = 1) ∧ (h q = 2 → s q = 2) := by
  refine ⟨fun h1 h2 => ?_, fun e => g.fin fi (a := false) (b := true) l (.inl e), fun e => (g.of_two (a := false) e).1⟩
  have f1 := g.of_one (a := false) (q := q) h1
  have f2 := g.of_one (a := false) (q := -q) h2
  rcases f1 with f1 | ⟨f1, s1, o1⟩
  · rcases f2 with f2 | ⟨f2, _, _⟩
    · exact ⟨f1, f2⟩
    · rw [Int.neg_neg, f1] at f2
      exact absurd f2 (by decide)
  · rcases f2 with f2 | ⟨_, s2, o2⟩
    · rw [f1] at f2; exact absurd f2 (by decide)
    · exfalso
      obtain ⟨rk, hrk⟩ := hr
      have key : ∀ (d : Nat) (i : Nat) (hi : i < t.rules.length), ((List.range t.rules.length).map rk).foldr max 0 - rk i ≤ d → (t.rules[i].head = q ∨ t.rules[i].head = -q) → AllY h t.rules[i].body → False := by
        intro d
        induction d with
        | zero =>
          intro i hi hd hh ha
          have hout : ∃ (k : Nat) (hk : k < t.rules.length), Above t k i ∧ (t.rules[k].head = q ∨ t.rules[k].head = -q) ∧ AllY h t.rules[k].body := by
            rcases hh with hh | hh
            · have := Classical.not_not.1 fun c => o2 ⟨i, hi, by rw [hh, Int.neg_neg], ha.not_fails, c⟩
              obtain ⟨k, hk, b1, b2, b3, b4⟩ := this
              exact ⟨k, hk, b3, .inr b1, b4⟩
            · have := Classical.not_not.1 fun c => o1 ⟨i, hi, hh, ha.not_fails, c⟩
              obtain ⟨k, hk, b1, b2, b3, b4⟩ := this
              exact ⟨k, hk, b3, .inl b1, b4⟩
          obtain ⟨k, hk, b3, _, _⟩ := hout
          have := hrk _ b3
          have hm := le_foldr_max rk (List.range t.rules.length) k (by simpa using hk)
          simp at this
          omega
        | succ d ih =>
          intro i hi hd hh ha
          have hout : ∃ (k : Nat) (hk : k < t.rules.length), Above t k i ∧ (t.rules[k].head = q ∨ t.rules[k].head = -q) ∧ AllY h t.rules[k].body := by
            rcases hh with hh | hh
            · have := Classical.not_not.1 fun c => o2 ⟨i, hi, by rw [hh, Int.neg_neg], ha.not_fails, c⟩
              obtain ⟨k, hk, b1, b2, b3, b4⟩ := this
              exact ⟨k, hk, b3, .inr b1, b4⟩
            · have := Classical.not_not.1 fun c => o1 ⟨i, hi, hh, ha.not_fails, c⟩
              obtain ⟨k, hk, b1, b2, b3, b4⟩ := this
              exact ⟨k, hk, b3, .inl b1, b4⟩
          obtain ⟨k, hk, b3, b1, b4⟩ := hout
          have := hrk _ b3
          have hm := le_foldr_max rk (List.range t.rules.length) k (by simpa using hk)
          simp at this
          exact ih k hk (by omega) b1 b4
      obtain ⟨r, hr', hk, he, hy⟩ := s1
      obtain ⟨i, hi, rfl⟩ := List.mem_iff_getElem.1 hr'
      exact key _ i hi (Nat.le_refl _) (.inl he) hy
/-- where bodies speak of names ahead of the head's alone, nothing is open -/
theorem total {t : Th} {s h : St} (g : Good t s h) (fi : Fin t s h) (hl : ∀ r ∈ t.rules, ∀ x ∈ r.body, t.Lit x) (hb : ∀ r ∈ t.rules, ∀ x ∈ r.body, x.natAbs < r.head.natAbs) :
    ∀ (n : Nat) (q : Int), q.natAbs ≤ n → t.Lit q → s q ≠ 0 ∧ h q ≠ 0 := by
  have cl : ∀ a q, pick a s h q ≠ 0 → pick a s h q = 1 ∨ pick a s h q = 2 := fun a q e => by
    rcases g.each a q with z | ⟨b, e', _⟩
    · exact absurd z e
    · cases b
      · exact .inr e'
      · exact .inl e'
  intro n
  induction n with
  | zero => intro q hq l; exact absurd (by omega) l.1
  | succ n ih =>
    have body : ∀ r ∈ t.rules, r.head.natAbs ≤ n + 1 → ∀ x ∈ r.body, s x ≠ 0 ∧ h x ≠ 0 := fun r hr hn x hx => ih x (by have := hb r hr x hx; omega) (hl r hr x hx)
    have nf : ∀ a, ∀ r ∈ t.rules, r.head.natAbs ≤ n + 1 → ¬ Fails (pick a s h) r.body → AllY (pick a s h) r.body := fun a r hr hn f x hx => by
      have hx0 : pick a s h x ≠ 0 := by
        have := body r hr hn x hx
        cases a
        · exact this.2
        · exact this.1
      rcases cl a x hx0 with e | e
      · exact e
      · exact (f ⟨x, hx, e⟩).elim
    have sure : ∀ q, q.natAbs ≤ n + 1 → t.Lit q → s q ≠ 0 := fun q hq l z => by
      have y : ¬ SureY t s q := fun f => fi true true q l f z
      have no : ¬ SureN t s q := fun f => fi true false q l f z
      apply no
      intro r hr k e
      refine Classical.byContradiction fun f => y ⟨r, hr, k, e, ?_⟩
      exact nf true r hr (by rw [e]; exact hq) f
    intro q hq l
    refine ⟨sure q hq l, fun z => ?_⟩
    have ln := lit_neg l
    have y : ¬ Fol t s h false true q := fun f => fi false true q l f z
    have no : ¬ Fol t s h false false q := fun f => fi false false q l f z
    have sq : s q = 2 := by
      rcases cl true q (sure q hq l) with e | e
      · exact (y (.inl e)).elim
      · exact e
    have sn : s (-q) = 2 := by
      rcases cl true (-q) (sure (-q) (by omega) ln) with e | e
      · exact (no ⟨sq, .inl e⟩).elim
      · exact e
    have nb : ¬ Bare t h q := fun f => no ⟨sq, .inr (.inl f)⟩
    have nbt : ¬ Beat t h q := fun f => no ⟨sq, .inr (.inr f)⟩
    have sp : Supp t h q := by
      refine Classical.byContradiction fun c => nb fun r hr k e => Classical.byContradiction fun f => c ⟨r, hr, k, e, ?_⟩
      exact nf false r hr (by rw [e]; exact hq) f
    have op : Opp t h q := Classical.byContradiction fun c => y (.inr ⟨sn, sp, c⟩)
    obtain ⟨i, hi, ih1, if1, io⟩ := op
    have iy := nf false t.rules[i] (List.getElem_mem hi) (by rw [ih1]; omega) if1
    refine nbt ⟨i, hi, ih1, iy, fun k hk a1 a2 a3 => Classical.byContradiction fun f => io ⟨k, hk, a1, a2, a3, ?_⟩⟩
    exact nf false t.rules[k] (List.getElem_mem hk) (by rw [a1]; exact hq) f
/-- no false explanation -/
theorem sound {t : Th} {s h S H : St} (g : Good t S H) (fi : Fin t S H) (ls : Le s S) (lh : Le h H) {a b : Bool} {q : Int} (l : t.Lit q) (f : Fol t s h a b q) : pick a S H q = val b :=
  g.fin fi l (f.mono ls lh)
theorem le_upd_of {s S : St} {q v : Int} (l : Le s S) (e : S q = v) : Le (upd s q v) S := fun x hx => by
  unfold upd at hx ⊢
  by_cases c : x = q
  · subst c; rw [if_pos rfl]; exact e
  · rw [if_neg c] at hx ⊢; exact l x hx

/-- what is shown is shown in any state in which nothing more follows -/
theorem Good.le_fin {t : Th} {s h S H : St} (g : Good t s h) (G : Good t S H) (fi : Fin t S H) : Le s S ∧ Le h H := by
  induction g with
  | start => exact ⟨fun q hq => absurd rfl hq, fun q hq => absurd rfl hq⟩
  | @step s h a b q _ l _ f ih =>
    have hv := sound G fi ih.1 ih.2 l f
    cases a
    · exact ⟨ih.1, le_upd_of ih.2 hv⟩
    · exact ⟨le_upd_of ih.1 hv, ih.2⟩
theorem Good.same {t : Th} {s h S H : St} (g : Good t s h) (f : Fin t s h) (G : Good t S H) (F : Fin t S H) : s = S ∧ h = H := by
  obtain ⟨a, b⟩ := g.le_fin G F
  obtain ⟨c, d⟩ := G.le_fin g f
  refine ⟨funext fun q => ?_, funext fun q => ?_⟩
  · by_cases e : s q = 0
    · by_cases e' : S q = 0
      · rw [e, e']
      · exact (c q e')
    · exact (a q e).symm
  · by_cases e : h q = 0
    · by_cases e' : H q = 0
      · rw [e, e']
      · exact (d q e')
    · exact (b q e).symm
/-- what follows of what is shown is shown, or may be -/
theorem Good.put {t : Th} {s h : St} (g : Good t s h) {a b : Bool} {q : Int} (l : t.Lit q) (f : Fol t s h a b q) : Good t (nextS a b q s) (nextH a b q h) := by
  rcases g.each a q with z | ⟨b', e', f'⟩
  · exact g.step l z f
  · have hb : b' = b := by
      cases b <;> cases b'
      · rfl
      · exact (f'.excl f).elim
      · exact (f.excl f').elim
      · rfl
    subst hb
    have hs : nextS a b' q s = s := by
      cases a
      · rfl
      · funext x
        show upd s q (val b') x = s x
        unfold upd
        split
        · rename_i e; subst e; exact e'.symm
        · rfl
    have hh : nextH a b' q h = h := by
      cases a
      · funext x
        show upd h q (val b') x = h x
        unfold upd
        split
        · rename_i e; subst e; exact e'.symm
        · rfl
      · rfl
    rw [hs, hh]
    exact g

/-! ### places -/
def place (q : Int) : Nat := if 0 < q then (2 * (q - 1)).toNat else (2 * (-q - 1) + 1).toNat
def lit (p : Nat) : Int := if p % 2 = 0 then (p / 2 : Nat) + 1 else -((p / 2 : Nat) + 1)
def other (p : Nat) : Nat := if p % 2 = 0 then p + 1 else p - 1
theorem lit_ne (p : Nat) : lit p ≠ 0 := by unfold lit; split <;> omega
theorem place_lit (p : Nat) : place (lit p) = p := by unfold lit place; split <;> split <;> omega
theorem lit_place {q : Int} (h : q ≠ 0) : lit (place q) = q := by unfold lit place; split <;> split <;> omega
theorem lit_other (p : Nat) : lit (other p) = -lit p := by unfold lit other; split <;> split <;> omega
theorem place_lt {q n : Int} (h : q ≠ 0) (h1 : -n ≤ q) (h2 : q ≤ n) : place q < (2 * n).toNat := by unfold place; split <;> omega
theorem place_inj {q r : Int} (h : q ≠ 0) (k : r ≠ 0) (e : place q = place r) : q = r := by rw [← lit_place h, e, lit_place k]
/-- what a list says of a literal -/
def stOf (l : List Int) : St := fun q => if q = 0 then 0 else l.getD (place q) 0
theorem stOf_set {l : List Int} {q v : Int} (h : q ≠ 0) (hp : place q < l.length) : stOf (l.set (place q) v) = upd (stOf l) q v := by
  funext x
  unfold stOf upd
  by_cases hx : x = 0
  · subst hx; simp [Ne.symm h]
  · by_cases e : x = q
    · subst e; simp [hx, List.getD, hp]
    · have : place q ≠ place x := fun c => e (place_inj hx h c.symm)
      simp [hx, e, List.getD, this]
theorem stOf_lit (l : List Int) {p : Nat} (hp : p < l.length) : stOf l (lit p) = l[p] := by
  unfold stOf
  rw [if_neg (lit_ne p), place_lit]
  simp [List.getD, hp]
theorem stOf_zeros (n : Nat) : stOf (List.replicate n 0) = fun _ => 0 := by
  funext q
  unfold stOf
  split
  · rfl
  · simp only [List.getD, List.getElem?_replicate]; split <;> rfl
end Go.Proofs.YtjfiodknjchngaaGreatDoor.Thy
namespace Go.Proofs.YtjfiodknjchngaaGreatDoor.Ring
open Thy

def E (over : List (Int × Int)) (a b : Nat) : Prop := ((a : Int), (b : Int)) ∈ over
inductive Path (over : List (Int × Int)) : Nat → Nat → Prop
  | one {a b : Nat} : E over a b → Path over a b
  | more {a b c : Nat} : Path over a b → E over b c → Path over a c
def Cycle (over : List (Int × Int)) : Prop := ∃ x, Path over x x
theorem path_rank {over : List (Int × Int)} {rk : Nat → Nat} (h : ∀ p ∈ over, rk p.2.toNat < rk p.1.toNat) {a b : Nat} (p : Path over a b) : rk b < rk a := by
  induction p with
  | one e => simpa using h _ e
  | more _ e ih => exact Nat.lt_trans (by simpa using h _ e) ih
theorem cycle_not {over : List (Int × Int)} (c : Cycle over) : ¬ Ranked over := fun ⟨rk, h⟩ => by
  obtain ⟨x, p⟩ := c
  exact absurd (path_rank h p) (by omega)
/-- what is known of numbers: 0 nothing, 1 at work, 2 done -/
def get (st : List Int) (j : Nat) : Int := st.getD j 0
def Done (over : List (Int × Int)) (st : List Int) : Prop := ∃ rk : Nat → Nat, ∀ a b, get st a = 2 → E over a b → get st b = 2 ∧ rk b < rk a
/-- what a look at k leaves -/
structure Fine (st st' : List Int) (over : List (Int × Int)) (k : Nat) : Prop where
  len : st'.length = st.length
  done : Done over st'
  two : get st' k = 2
  keep : ∀ j, get st j ≠ 0 → get st' j = get st j
  one : ∀ j, get st' j = 1 → get st j = 1
def zeros (st : List Int) : Nat := st.countP (fun x => x == 0)
theorem get_set {st : List Int} {k j : Nat} {v : Int} (hk : k < st.length) : get (st.set k v) j = if j = k then v else get st j := by
  unfold get
  by_cases e : j = k
  · subst e; simp [List.getD, hk]
  · simp [List.getD, Ne.symm e, e]
theorem get_lt {st : List Int} {k : Nat} (hk : k < st.length) : get st k = st[k] := by simp [get, List.getD, hk]
theorem zeros_le : ∀ {st st' : List Int}, st'.length = st.length → (∀ j, get st j ≠ 0 → get st' j = get st j) → zeros st' ≤ zeros st
  | [], [], _, _ => by simp [zeros]
  | a :: st, b :: st', hl, h => by
    have ih := zeros_le (st := st) (st' := st') (by simpa using hl) (fun j hj => by simpa [get, List.getD] using h (j + 1) (by simpa [get, List.getD] using hj))
    have h0 := h 0
    simp [get, List.getD] at h0
    unfold zeros at ih ⊢
    simp only [List.countP_cons]
    by_cases ha : a = 0
    · simp only [ha, beq_self_eq_true, if_true]
      split <;> omega
    · have := h0 ha
      subst this
      omega
theorem zeros_set {st : List Int} {k : Nat} {v : Int} (hk : k < st.length) (h0 : get st k = 0) (hv : v ≠ 0) : zeros (st.set k v) < zeros st := by
  induction st generalizing k with
  | nil => simp at hk
  | cons a st ih =>
    cases k with
    | zero =>
      simp [get, List.getD] at h0
      subst h0
      unfold zeros
      simp [hv]
    | succ k =>
      have := ih (k := k) (by simpa using hk) (by simpa [get, List.getD] using h0)
      unfold zeros at this ⊢
      simp only [List.set_cons_succ, List.countP_cons]
      omega
/-- inside the look at k: the first i that k leads to are done -/
structure At (st st1 : List Int) (over : List (Int × Int)) (k : Nat) (xs : List Nat) : Prop where
  len : st1.length = st.length
  done : Done over st1
  wk : get st1 k = 1
  keep : ∀ j, j ≠ k → get st j ≠ 0 → get st1 j = get st j
  one : ∀ j, get st1 j = 1 → get st j = 1 ∨ j = k
  xs : ∀ x ∈ xs, get st1 x = 2
theorem At.start {st : List Int} {over : List (Int × Int)} {k : Nat} (hk : k < st.length) (h0 : get st k = 0) (hd : Done over st) : At st (st.set k 1) over k [] := by
  obtain ⟨rk, hd⟩ := hd
  refine ⟨by simp, ⟨rk, fun a b ha hab => ?_⟩, by rw [get_set hk, if_pos rfl], fun j hj _ => by rw [get_set hk, if_neg hj], fun j hj => ?_, fun x hx => by cases hx⟩
  · rw [get_set hk] at ha ⊢
    split at ha
    · exact absurd ha (by decide)
    · have := hd a b ha hab
      refine ⟨?_, this.2⟩
      split
      · rename_i e; subst e; rw [h0] at this; exact absurd this.1 (by decide)
      · exact this.1
  · rw [get_set hk] at hj
    split at hj
    · exact .inr (by assumption)
    · exact .inl hj
theorem At.zeros {st st1 : List Int} {over : List (Int × Int)} {k : Nat} {xs : List Nat} (h : At st st1 over k xs) (hk : k < st.length) (h0 : get st k = 0) : zeros st1 < zeros st := by
  have h1 := zeros_set (v := 1) hk h0 (by decide)
  have h2 : Ring.zeros st1 ≤ Ring.zeros (st.set k 1) := zeros_le (by rw [h.len]; simp) fun j hj => by
    rw [get_set hk] at hj ⊢
    split
    · rename_i e; subst e; exact h.wk
    · rename_i e; rw [if_neg e] at hj; exact h.keep j e hj
  omega
theorem At.path {st st1 : List Int} {over : List (Int × Int)} {k x : Nat} {xs : List Nat} (h : At st st1 over k xs) (hp : ∀ j, get st j = 1 → Path over j k) (hx : E over k x) : ∀ j, get st1 j = 1 → Path over j x := fun j hj => by
  rcases h.one j hj with h1 | rfl
  · exact (hp j h1).more hx
  · exact .one hx
theorem At.step {st st1 st2 : List Int} {over : List (Int × Int)} {k x : Nat} {xs : List Nat} (h : At st st1 over k xs) (f : Fine st1 st2 over x) : At st st2 over k (xs ++ [x]) := by
  refine ⟨by rw [f.len, h.len], f.done, by rw [f.keep k (by rw [h.wk]; decide), h.wk], fun j hj h0 => ?_, fun j hj => h.one j (f.one j hj), fun y hy => ?_⟩
  · have := h.keep j hj h0
    rw [f.keep j (by rw [this]; exact h0), this]
  · rcases List.mem_append.1 hy with hy | hy
    · have := h.xs y hy
      rw [f.keep y (by rw [this]; decide), this]
    · simp at hy; subst hy; exact f.two
theorem At.stop {st st1 : List Int} {over : List (Int × Int)} {k : Nat} {xs : List Nat} (h : At st st1 over k xs) (hk : k < st.length) (h0 : get st k = 0) (hx : ∀ b, E over k b → b ∈ xs) : Fine st (st1.set k 2) over k := by
  have hk1 : k < st1.length := by rw [h.len]; exact hk
  obtain ⟨rk, hd⟩ := h.done
  refine ⟨by simp [h.len], ⟨fun a => if a = k then ((over.map fun p => rk p.2.toNat).foldr max 0) + 1 else rk a, fun a b ha hab => ?_⟩, by rw [get_set hk1, if_pos rfl], fun j hj => ?_, fun j hj => ?_⟩
  · rw [get_set hk1] at ha ⊢
    by_cases e : a = k
    · subst e
      have hb2 := h.xs b (hx b hab)
      have hbk : b ≠ a := by rintro rfl; rw [h.wk] at hb2; exact absurd hb2 (by decide)
      refine ⟨by rw [if_neg hbk]; exact hb2, ?_⟩
      simp only [if_neg hbk, if_true]
      have hm : ∀ (l : List (Int × Int)), ((a : Int), (b : Int)) ∈ l → rk b ≤ (l.map fun p => rk p.2.toNat).foldr max 0 := by
        intro l hl
        induction l with
        | nil => cases hl
        | cons x l ih =>
          simp only [List.map_cons, List.foldr_cons]
          rcases List.mem_cons.1 hl with rfl | hl
          · simp only [Int.toNat_natCast]; omega
          · have := ih hl; omega
      have := hm over hab
      omega
    · rw [if_neg e] at ha
      have := hd a b ha hab
      have hbk : b ≠ k := by rintro rfl; rw [h.wk] at this; exact absurd this.1 (by decide)
      refine ⟨by rw [if_neg hbk]; exact this.1, ?_⟩
      simp only [if_neg hbk, if_neg e]
      exact this.2
  · have hjk : j ≠ k := by rintro rfl; exact hj h0
    rw [get_set hk1, if_neg hjk]
    exact h.keep j hjk hj
  · rw [get_set hk1] at hj
    split at hj
    · exact absurd hj (by decide)
    · rename_i e
      rcases h.one j hj with h1 | h1
      · exact h1
      · exact absurd h1 e
/-- all looked at: nothing is in a ring -/
theorem ranked_of {over : List (Int × Int)} {st : List Int} (hd : Done over st) (h : ∀ j, j < st.length → get st j = 2) (hr : ∀ p ∈ over, 0 ≤ p.1 ∧ p.1 < st.length ∧ 0 ≤ p.2 ∧ p.2 < st.length) : Ranked over := by
  obtain ⟨rk, hd⟩ := hd
  refine ⟨rk, fun p hp => ?_⟩
  obtain ⟨a, b, c, d⟩ := hr p hp
  have e1 : ((p.1.toNat : Nat) : Int) = p.1 := by omega
  have e2 : ((p.2.toNat : Nat) : Int) = p.2 := by omega
  exact (hd p.1.toNat p.2.toNat (h _ (by omega)) (by unfold E; rw [e1, e2]; exact hp)).2
theorem done_start (over : List (Int × Int)) (n : Nat) : Done over (List.replicate n 0) := ⟨fun _ => 0, fun a b ha _ => by
  have : get (List.replicate n (0 : Int)) a = 0 := by unfold get; simp only [List.getD, List.getElem?_replicate]; split <;> rfl
  rw [this] at ha
  exact absurd ha (by decide)⟩
end Go.Proofs.YtjfiodknjchngaaGreatDoor.Ring
namespace Go.Proofs.YtjfiodknjchngaaGreatDoor.Rng
open Thy Ring

def gon (G : List Bool) (i : Nat) : Bool := G.getD i false
def lft (G : List Bool) : Nat := G.countP (fun x => !x)
structure RI (ov : List (Int × Int)) (n : Nat) (G : List Bool) : Prop where
  len : G.length = n
  done : ∃ rk : Nat → Nat, ∀ a b, gon G a = true → E ov a b → gon G b = true ∧ rk b < rk a
theorem gon_set {G : List Bool} {i j : Nat} (hi : i < G.length) : gon (G.set i true) j = if j = i then true else gon G j := by
  unfold gon
  by_cases e : j = i
  · subst e; simp [List.getD, hi]
  · simp [List.getD, Ne.symm e, e]
theorem gon_lt {G : List Bool} {i : Nat} (hi : i < G.length) : gon G i = G[i] := by simp [gon, List.getD, hi]
theorem lft_set {G : List Bool} {i : Nat} (hi : i < G.length) (h0 : gon G i = false) : lft (G.set i true) + 1 = lft G := by
  induction G generalizing i with
  | nil => simp at hi
  | cons a G ih =>
    cases i with
    | zero =>
      simp [gon, List.getD] at h0
      subst h0
      unfold lft
      simp
    | succ i =>
      have := ih (i := i) (by simpa using hi) (by simpa [gon, List.getD] using h0)
      unfold lft at this ⊢
      simp only [List.set_cons_succ, List.countP_cons]
      omega
theorem lft_zero {G : List Bool} (h : lft G = 0) {i : Nat} (hi : i < G.length) : gon G i = true := by
  rw [gon_lt hi]
  unfold lft at h
  rw [List.countP_eq_zero] at h
  simpa using h _ (List.getElem_mem hi)
theorem lft_pos {G : List Bool} (h : 0 < lft G) : ∃ i, i < G.length ∧ gon G i = false := by
  unfold lft at h
  rw [List.countP_pos_iff] at h
  obtain ⟨a, ha, hb⟩ := h
  obtain ⟨i, hi, rfl⟩ := List.mem_iff_getElem.1 ha
  exact ⟨i, hi, by rw [gon_lt hi]; simpa using hb⟩
theorem lft_all (n : Nat) : lft (List.replicate n false) = n := by
  unfold lft
  rw [List.countP_replicate]
  simp
theorem RI.start (ov : List (Int × Int)) (n : Nat) : RI ov n (List.replicate n false) := by
  refine ⟨by simp, fun _ => 0, fun a b ha _ => ?_⟩
  have : gon (List.replicate n false) a = false := by unfold gon; simp only [List.getD, List.getElem?_replicate]; split <;> rfl
  rw [this] at ha
  cases ha
theorem RI.set {ov : List (Int × Int)} {n : Nat} {G : List Bool} (h : RI ov n G) {i : Nat} (hi : i < n) (h0 : gon G i = false) (hn : ∀ b, E ov i b → gon G b = true) : RI ov n (G.set i true) := by
  have hi' : i < G.length := by rw [h.len]; exact hi
  obtain ⟨rk, hd⟩ := h.done
  refine ⟨by simp [h.len], fun a => if a = i then ((ov.map fun p => rk p.2.toNat).foldr max 0) + 1 else rk a, fun a b ha hab => ?_⟩
  rw [gon_set hi'] at ha ⊢
  by_cases e : a = i
  · subst e
    have hb := hn b hab
    have hba : b ≠ a := by rintro rfl; rw [h0] at hb; cases hb
    refine ⟨by rw [if_neg hba]; exact hb, ?_⟩
    simp only [if_neg hba, if_true]
    have hm : ∀ (l : List (Int × Int)), ((a : Int), (b : Int)) ∈ l → rk b ≤ (l.map fun p => rk p.2.toNat).foldr max 0 := by
      intro l hl
      induction l with
      | nil => cases hl
      | cons x l ih =>
        simp only [List.map_cons, List.foldr_cons]
        rcases List.mem_cons.1 hl with rfl | hl
        · simp only [Int.toNat_natCast]; omega
        · have := ih hl; omega
    have := hm ov hab
    omega
  · rw [if_neg e] at ha
    have h2 := hd a b ha hab
    have hb : b ≠ i := by rintro rfl; rw [h0] at h2; cases h2.1
    refine ⟨by rw [if_neg hb]; exact h2.1, ?_⟩
    simp only [if_neg hb, if_neg e]
    exact h2.2
def InR (ov : List (Int × Int)) (n : Nat) : Prop := ∀ p ∈ ov, 0 ≤ p.1 ∧ p.1 < n ∧ 0 ≤ p.2 ∧ p.2 < n
theorem RI.ranked {ov : List (Int × Int)} {n : Nat} {G : List Bool} (h : RI ov n G) (h0 : lft G = 0) (hr : InR ov n) : Ranked ov := by
  obtain ⟨rk, hd⟩ := h.done
  refine ⟨rk, fun p hp => ?_⟩
  obtain ⟨a, b, c, d⟩ := hr p hp
  have e1 : ((p.1.toNat : Nat) : Int) = p.1 := by omega
  have e2 : ((p.2.toNat : Nat) : Int) = p.2 := by omega
  have hl := h.len
  exact (hd p.1.toNat p.2.toNat (lft_zero h0 (by omega)) (by unfold E; rw [e1, e2]; exact hp)).2
theorem stuck {ov : List (Int × Int)} {n : Nat} {G : List Bool} (hl : G.length = n) (h0 : 0 < lft G) (hr : InR ov n) (hs : ∀ i, i < n → gon G i = false → ∃ b, E ov i b ∧ gon G b = false) : ¬ Ranked ov := by
  rintro ⟨rk, hrk⟩
  have key : ∀ (r i : Nat), i < n → gon G i = false → rk i ≤ r → False := by
    intro r
    induction r with
    | zero =>
      intro i hi hg hk
      obtain ⟨b, hb, _⟩ := hs i hi hg
      have := hrk _ hb
      simp only [Int.toNat_natCast] at this
      omega
    | succ r ih =>
      intro i hi hg hk
      obtain ⟨b, hb, hgb⟩ := hs i hi hg
      have h1 := hrk _ hb
      simp only [Int.toNat_natCast] at h1
      have h2 := hr _ hb
      exact ih b (by omega) hgb (by omega)
  obtain ⟨i, hi, hg⟩ := lft_pos h0
  exact key (rk i) i (by omega) hg (Nat.le_refl _)
/-- what the look at one number finds among the first pairs -/
def Abv (ov : List (Int × Int)) (G : List Bool) (i k : Nat) : Prop := ∃ p ∈ ov.take k, p.1 = i ∧ gon G p.2.toNat = false
theorem Abv.zero (ov : List (Int × Int)) (G : List Bool) (i : Nat) : ¬ Abv ov G i 0 := fun ⟨p, hp, _⟩ => by simp at hp
theorem Abv.succ {ov : List (Int × Int)} {G : List Bool} {i k : Nat} (hk : k < ov.length) : Abv ov G i (k + 1) ↔ Abv ov G i k ∨ (ov[k].1 = i ∧ gon G ov[k].2.toNat = false) := by
  unfold Abv
  rw [List.take_succ_eq_append_getElem hk]
  constructor
  · rintro ⟨p, hp, h⟩
    rcases List.mem_append.1 hp with hp | hp
    · exact .inl ⟨p, hp, h⟩
    · rw [List.mem_singleton] at hp; subst hp; exact .inr h
  · rintro (⟨p, hp, h⟩ | h)
    · exact ⟨p, List.mem_append.2 (.inl hp), h⟩
    · exact ⟨_, List.mem_append.2 (.inr (List.mem_singleton.2 rfl)), h⟩
theorem Abv.all {ov : List (Int × Int)} {G : List Bool} {i n : Nat} (hr : InR ov n) : Abv ov G i ov.length ↔ ∃ b, E ov i b ∧ gon G b = false := by
  unfold Abv
  rw [List.take_length]
  constructor
  · rintro ⟨p, hp, h1, h2⟩
    obtain ⟨_, _, c, _⟩ := hr p hp
    refine ⟨p.2.toNat, ?_, h2⟩
    unfold E
    rw [← h1, show ((p.2.toNat : Nat) : Int) = p.2 by omega]
    exact hp
  · rintro ⟨b, hb, h⟩
    exact ⟨_, hb, rfl, by simpa using h⟩
/-- inside a round: something was taken away, or nothing can be of what was looked at -/
structure Rd1 (ov : List (Int × Int)) (n : Nat) (G0 G : List Bool) (sm : Bool) (i : Nat) : Prop where
  ri : RI ov n G
  z : sm = true → lft G < lft G0
  e : sm = false → G = G0 ∧ ∀ j, j < i → gon G j = false → ∃ b, E ov j b ∧ gon G b = false
theorem Rd1.start {ov : List (Int × Int)} {n : Nat} {G : List Bool} (h : RI ov n G) : Rd1 ov n G G false 0 := ⟨h, (fun h => by cases h), fun _ => ⟨rfl, fun j hj => absurd hj (by omega)⟩⟩
theorem Rd1.le {ov : List (Int × Int)} {n : Nat} {G0 G : List Bool} {sm : Bool} {i : Nat} (h : Rd1 ov n G0 G sm i) : lft G ≤ lft G0 := by
  cases sm
  · rw [(h.e rfl).1]; exact Nat.le_refl _
  · exact Nat.le_of_lt (h.z rfl)
theorem Rd1.keep {ov : List (Int × Int)} {n : Nat} {G0 G : List Bool} {sm : Bool} {i : Nat} (h : Rd1 ov n G0 G sm i) (hk : gon G i = true ∨ ∃ b, E ov i b ∧ gon G b = false) : Rd1 ov n G0 G sm (i + 1) :=
  ⟨h.ri, h.z, fun e => ⟨(h.e e).1, fun j hj hg => by
    by_cases c : j = i
    · subst c
      rcases hk with hk | hk
      · rw [hk] at hg; cases hg
      · exact hk
    · exact (h.e e).2 j (by omega) hg⟩⟩
theorem Rd1.take {ov : List (Int × Int)} {n : Nat} {G0 G : List Bool} {sm : Bool} {i : Nat} (h : Rd1 ov n G0 G sm i) (hi : i < n) (h0 : gon G i = false) (hn : ¬ ∃ b, E ov i b ∧ gon G b = false) : Rd1 ov n G0 (G.set i true) true (i + 1) := by
  have hl := lft_set (by rw [h.ri.len]; exact hi) h0
  have := h.le
  refine ⟨h.ri.set hi h0 fun b hb => ?_, (fun _ => by omega), fun e => by cases e⟩
  cases hg : gon G b
  · exact absurd ⟨b, hb, hg⟩ hn
  · rfl
end Go.Proofs.YtjfiodknjchngaaGreatDoor.Rng
namespace Go.Proofs.YtjfiodknjchngaaGreatDoor.Sol
open Thy

def setS (a b : Bool) (q : Int) (S : List Int) : List Int := match a with
  | true => S.set (place q) (val b)
  | false => S
def setH (a b : Bool) (q : Int) (H : List Int) : List Int := match a with
  | true => H
  | false => H.set (place q) (val b)
/-- what has been told, in order, and what is known by it -/
inductive Told (t : Th) : List (Bool × Bool × Int) → St → St → Prop
  | nil : Told t [] (fun _ => 0) (fun _ => 0)
  | step {l : List (Bool × Bool × Int)} {s h : St} {a b : Bool} {q : Int} : Told t l s h → t.Lit q → pick a s h q = 0 → Fol t s h a b q →
    Told t (l ++ [(a, b, q)]) (nextS a b q s) (nextH a b q h)
theorem Told.good {t : Th} {l : List (Bool × Bool × Int)} {s h : St} (x : Told t l s h) : Good t s h := by
  induction x with
  | nil => exact Good.start
  | step _ l z f ih => exact ih.step l z f
theorem Told.set {t : Th} {l : List (Bool × Bool × Int)} {S H : List Int} (x : Told t l (stOf S) (stOf H)) {a b : Bool} {q : Int} (hq : t.Lit q) (hS : place q < S.length) (hH : place q < H.length) (z : pick a (stOf S) (stOf H) q = 0) (f : Fol t (stOf S) (stOf H) a b q) :
    Told t (l ++ [(a, b, q)]) (stOf (setS a b q S)) (stOf (setH a b q H)) := by
  have h := x.step hq z f
  cases a
  · simp only [setS, setH, stOf_set hq.1 hH]
    exact h
  · simp only [setS, setH, stOf_set hq.1 hS]
    exact h
theorem pick_set {S H : List Int} {a b : Bool} {q : Int} (hq : q ≠ 0) (hS : place q < S.length) (hH : place q < H.length) : pick a (stOf (setS a b q S)) (stOf (setH a b q H)) q = val b := by
  cases a
  · show stOf (H.set (place q) (val b)) q = _
    rw [stOf_set hq hH]
    simp [upd]
  · show stOf (S.set (place q) (val b)) q = _
    rw [stOf_set hq hS]
    simp [upd]
def Zs (S H : List Int) : Nat := Ring.zeros S + Ring.zeros H
theorem zs_set {S H : List Int} {a b : Bool} {q : Int} (hq : q ≠ 0) (hS : place q < S.length) (hH : place q < H.length) (z : pick a (stOf S) (stOf H) q = 0) : Zs (setS a b q S) (setH a b q H) < Zs S H := by
  unfold Zs
  cases a
  · have h0 : Ring.get H (place q) = 0 := by simpa [pick, stOf, hq, Ring.get] using z
    have := Ring.zeros_set (v := val b) hH h0 (val_ne b)
    simp only [setS, setH]
    omega
  · have h0 : Ring.get S (place q) = 0 := by simpa [pick, stOf, hq, Ring.get] using z
    have := Ring.zeros_set (v := val b) hS h0 (val_ne b)
    simp only [setS, setH]
    omega
def idx : Bool → Nat
  | true => 0
  | false => 1
/-- the looks ahead of one -/
def Ahead (q : Int) (i j : Nat) (a b : Bool) (q' : Int) : Prop := q' < q ∨ (q' = q ∧ (idx a < i ∨ (idx a = i ∧ idx b < j)))
/-- since the round began: something was said, or nothing follows of what was looked at -/
structure Pr (t : Th) (S0 H0 S H : List Int) (ag : Bool) (q : Int) (i j : Nat) : Prop where
  z : ag = true → Zs S H < Zs S0 H0
  e : ag = false → S = S0 ∧ H = H0 ∧ ∀ a b q', Ahead q i j a b q' → t.Lit q' → pick a (stOf S0) (stOf H0) q' = 0 → ¬ Fol t (stOf S0) (stOf H0) a b q'
theorem Pr.start (t : Th) (S H : List Int) : Pr t S H S H false (-t.names) 0 0 := ⟨fun h => by simp at h, fun _ => ⟨rfl, rfl, fun a b q' h l => by
  rcases h with h | ⟨_, h | ⟨_, h⟩⟩
  · exact absurd l.2.1 (by omega)
  · exact absurd h (by omega)
  · exact absurd h (by omega)⟩⟩
theorem Pr.weak {t : Th} {S0 H0 S H : List Int} {ag : Bool} {q q2 : Int} {i j i2 j2 : Nat} (x : Pr t S0 H0 S H ag q i j) (h : ∀ a b q', Ahead q2 i2 j2 a b q' → t.Lit q' → Ahead q i j a b q') : Pr t S0 H0 S H ag q2 i2 j2 :=
  ⟨x.z, fun e => ⟨(x.e e).1, (x.e e).2.1, fun a b q' h1 h2 h3 => (x.e e).2.2 a b q' (h a b q' h1 h2) h2 h3⟩⟩
theorem Pr.next_q {t : Th} {S0 H0 S H : List Int} {ag : Bool} {q : Int} (x : Pr t S0 H0 S H ag q 2 0) : Pr t S0 H0 S H ag (q + 1) 0 0 := x.weak fun a b q' h _ => by
  unfold Ahead at *
  have : idx a < 2 := by cases a <;> decide
  omega
theorem Pr.zero {t : Th} {S0 H0 S H : List Int} {ag : Bool} (x : Pr t S0 H0 S H ag 0 0 0) : Pr t S0 H0 S H ag (0 + 1) 0 0 := x.weak fun a b q' h l => by
  have := l.1
  unfold Ahead at *
  omega
theorem Pr.next_a {t : Th} {S0 H0 S H : List Int} {ag : Bool} {q : Int} {i : Nat} (x : Pr t S0 H0 S H ag q i 2) : Pr t S0 H0 S H ag q (i + 1) 0 := x.weak fun a b q' h _ => by
  unfold Ahead at *
  have : idx b < 2 := by cases b <;> decide
  omega
theorem Pr.no {t : Th} {S0 H0 S H : List Int} {ag : Bool} {a b : Bool} {q : Int} (x : Pr t S0 H0 S H ag q (idx a) (idx b)) (h : pick a (stOf S) (stOf H) q = 0 → ¬ Fol t (stOf S) (stOf H) a b q) : Pr t S0 H0 S H ag q (idx a) (idx b + 1) :=
  ⟨x.z, fun e => by
    obtain ⟨rfl, rfl, k⟩ := x.e e
    refine ⟨rfl, rfl, fun a' b' q' h1 h2 h3 => ?_⟩
    by_cases c : q' = q ∧ a' = a ∧ b' = b
    · obtain ⟨rfl, rfl, rfl⟩ := c
      exact h h3
    · refine k a' b' q' ?_ h2 h3
      unfold Ahead at *
      rcases h1 with h1 | ⟨rfl, h1 | ⟨h1, h4⟩⟩
      · exact .inl h1
      · exact .inr ⟨rfl, .inl h1⟩
      · refine .inr ⟨rfl, .inr ⟨h1, ?_⟩⟩
        have ea : a' = a := by cases a' <;> cases a <;> simp_all [idx]
        have eb : b' ≠ b := fun e => c ⟨rfl, ea, e⟩
        have : idx b' ≠ idx b := by cases b' <;> cases b <;> simp_all [idx]
        omega⟩
theorem Pr.yes {t : Th} {S0 H0 S H : List Int} {ag : Bool} {a b : Bool} {q : Int} {i j i2 j2 : Nat} {q2 : Int} (x : Pr t S0 H0 S H ag q i j) (hq : q ≠ 0) (hS : place q < S.length) (hH : place q < H.length) (z : pick a (stOf S) (stOf H) q = 0) : Pr t S0 H0 (setS a b q S) (setH a b q H) true q2 i2 j2 :=
  ⟨fun _ => by
    have h1 := zs_set (b := b) hq hS hH z
    cases ag
    · obtain ⟨rfl, rfl, _⟩ := x.e rfl
      exact h1
    · have := x.z rfl
      omega, fun h => by simp at h⟩
theorem Pr.fin {t : Th} {S0 H0 S H : List Int} {q : Int} (x : Pr t S0 H0 S H false q 0 0) (hq : t.names < q) : Fin t (stOf S) (stOf H) := by
  obtain ⟨rfl, rfl, k⟩ := x.e rfl
  intro a b q' l f z
  exact k a b q' (.inl (by have := l.2.2; omega)) l z f
end Go.Proofs.YtjfiodknjchngaaGreatDoor.Sol

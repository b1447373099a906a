/- Facts, in plain lists: which fact counts, who stands so, sorted days each once; what was learnt later was not known; between the turns nothing changes. -/
import Derived.Test.YtflklbhgjfonbaaGreatDoorMem
import Derived.Lib.SlicesCompact
namespace Go.Proofs.YtflklbhgjfonbaaGreatDoor.Fk

/-! ### Sorted lists, each element once -/
theorem lt_uniq : ∀ (a b : List Int), a.Pairwise (· < ·) → b.Pairwise (· < ·) → (∀ x, x ∈ a ↔ x ∈ b) → a = b
  | [], [], _, _, _ => rfl
  | [], y :: b, _, _, h => by have := (h y).2 (by simp); simp at this
  | x :: a, [], _, _, h => by have := (h x).1 (by simp); simp at this
  | x :: a, y :: b, ha, hb, h => by
    rw [List.pairwise_cons] at ha hb
    have hxy : x = y := by
      have h1 := (h x).1 (by simp)
      have h2 := (h y).2 (by simp)
      rcases List.mem_cons.1 h1 with e | h1
      · exact e
      · rcases List.mem_cons.1 h2 with e | h2
        · exact e.symm
        · have := hb.1 _ h1
          have := ha.1 _ h2
          omega
    subst hxy
    rw [lt_uniq a b ha.2 hb.2 fun z => ?_]
    constructor
    · intro hz
      have h1 := ha.1 _ hz
      rcases List.mem_cons.1 ((h z).1 (by simp [hz])) with e | h2
      · omega
      · exact h2
    · intro hz
      have h1 := hb.1 _ hz
      rcases List.mem_cons.1 ((h z).2 (by simp [hz])) with e | h2
      · omega
      · exact h2
theorem comp_inv (zs : List Int) (hs : zs.Pairwise (· ≤ ·)) : ∀ m, m ≤ zs.length → (Lib.compactUpTo zs.toArray m).Pairwise (· < ·) ∧ ∀ x, x ∈ Lib.compactUpTo zs.toArray m ↔ ∃ (j : Nat) (h : j < zs.length), j < m ∧ zs[j] = x
  | 0, _ => by simp [Lib.compactUpTo]
  | m + 1, hm => by
    obtain ⟨h1, h2⟩ := comp_inv zs hs m (by omega)
    have hg : zs.toArray[m]! = zs[m] := by simp [getElem!_pos, show m < zs.length by omega]
    rw [Lib.compactUpTo_succ, hg]
    by_cases hk : Lib.keeps zs.toArray m = true
    · rw [if_pos hk]
      have hlt : ∀ x ∈ Lib.compactUpTo zs.toArray m, x < zs[m] := by
        intro x hx
        obtain ⟨j, hj, hjm, rfl⟩ := (h2 x).1 hx
        have hg1 : zs.toArray[m - 1]! = zs[m - 1] := by simp [getElem!_pos, show m - 1 < zs.length by omega]
        have hne : zs[m] ≠ zs[m - 1] := by
          have := hk
          unfold Lib.keeps at this
          rw [decide_eq_true_iff, hg, hg1] at this
          rcases this with h | h
          · omega
          · exact h
        have hle1 : zs[m - 1] ≤ zs[m] := List.pairwise_iff_getElem.1 hs _ _ (by omega) (by omega) (by omega)
        have hle2 : zs[j] ≤ zs[m - 1] := by
          by_cases e : j = m - 1
          · subst e; exact Int.le_refl _
          · exact List.pairwise_iff_getElem.1 hs _ _ (by omega) (by omega) (by omega)
        omega
      refine ⟨List.pairwise_append.2 ⟨h1, by simp, fun a ha b hb => by rw [List.mem_singleton] at hb; subst hb; exact hlt a ha⟩, fun x => ?_⟩
      rw [List.mem_append, h2, List.mem_singleton]
      constructor
      · rintro (⟨j, hj, hjm, rfl⟩ | rfl)
        · exact ⟨j, hj, by omega, rfl⟩
        · exact ⟨m, by omega, by omega, rfl⟩
      · rintro ⟨j, hj, hjm, rfl⟩
        by_cases e : j = m
        · subst e; exact .inr rfl
        · exact .inl ⟨j, hj, by omega, rfl⟩
    · rw [if_neg hk, List.append_nil]
      refine ⟨h1, fun x => ?_⟩
      rw [h2]
      constructor
      · rintro ⟨j, hj, hjm, rfl⟩
        exact ⟨j, hj, by omega, rfl⟩
      · rintro ⟨j, hj, hjm, rfl⟩
        by_cases e : j = m
        · subst e
          have hg1 : zs.toArray[j - 1]! = zs[j - 1] := by simp [getElem!_pos, show j - 1 < zs.length by omega]
          unfold Lib.keeps at hk
          rw [decide_eq_true_iff, hg, hg1] at hk
          exact ⟨j - 1, by omega, by omega, by
            by_cases e : zs[j] = zs[j - 1]
            · exact e.symm
            · exact absurd (.inr e) hk⟩
        · exact ⟨j, hj, by omega, rfl⟩
/-- one more day among sorted days -/
def ins : List Int → Int → List Int
  | [], n => [n]
  | x :: l, n => if x < n then x :: ins l n else if x = n then n :: l else n :: x :: l
theorem mem_ins (n : Int) : ∀ (l : List Int) (y : Int), y ∈ ins l n ↔ y = n ∨ y ∈ l
  | [], y => by simp [ins]
  | x :: l, y => by
    unfold ins
    split
    · rw [List.mem_cons, mem_ins n l y, List.mem_cons]
      constructor
      · rintro (h | h | h) <;> simp [h]
      · rintro (h | h | h) <;> simp [h]
    · split
      · rename_i h; subst h; simp
      · simp
theorem lt_ins (n : Int) : ∀ (l : List Int), l.Pairwise (· < ·) → (ins l n).Pairwise (· < ·)
  | [], _ => by simp [ins]
  | x :: l, h => by
    rw [List.pairwise_cons] at h
    unfold ins
    split
    · rw [List.pairwise_cons]
      refine ⟨fun y hy => ?_, lt_ins n l h.2⟩
      rcases (mem_ins n l y).1 hy with rfl | hy
      · assumption
      · exact h.1 _ hy
    · split
      · rename_i e; subst e
        rw [List.pairwise_cons]
        exact h
      · rw [List.pairwise_cons, List.pairwise_cons]
        refine ⟨fun y hy => ?_, h⟩
        rcases List.mem_cons.1 hy with rfl | hy
        · omega
        · have := h.1 _ hy; omega
theorem fold_ins : ∀ (raw acc : List Int), acc.Pairwise (· < ·) → (raw.foldl ins acc).Pairwise (· < ·) ∧ ∀ y, y ∈ raw.foldl ins acc ↔ y ∈ raw ∨ y ∈ acc
  | [], acc, h => ⟨h, fun y => by simp⟩
  | n :: raw, acc, h => by
    obtain ⟨h1, h2⟩ := fold_ins raw (ins acc n) (lt_ins n acc h)
    refine ⟨h1, fun y => ?_⟩
    rw [List.foldl_cons, h2, mem_ins, List.mem_cons]
    constructor
    · rintro (h | h | h) <;> simp [h]
    · rintro ((h | h) | h) <;> simp [h]
def daysF (raw : List Int) : List Int := raw.foldl ins []
theorem sort_days (raw : List Int) : Lib.compact (raw.mergeSort fun x y => decide (x ≤ y)) = daysF raw := by
  have hs : (raw.mergeSort fun x y => decide (x ≤ y)).Pairwise (· ≤ ·) := by
    have := List.pairwise_mergeSort (le := fun x y : Int => decide (x ≤ y)) (fun a b c h1 h2 => by simp at *; omega) (fun a b => by simp; omega) raw
    exact this.imp fun h => by simpa using h
  obtain ⟨h1, h2⟩ := comp_inv _ hs _ (Nat.le_refl _)
  obtain ⟨h3, h4⟩ := fold_ins raw [] List.Pairwise.nil
  refine lt_uniq _ _ h1 h3 fun x => ?_
  show x ∈ Lib.compactUpTo _ _ ↔ x ∈ raw.foldl ins []
  rw [h4, h2]
  constructor
  · rintro ⟨j, hj, _, rfl⟩
    exact .inl (List.mem_mergeSort.1 (List.getElem_mem hj))
  · rintro (h | h)
    · obtain ⟨j, hj, e⟩ := List.getElem_of_mem ((List.mem_mergeSort (le := fun x y => decide (x ≤ y))).2 h)
      exact ⟨j, hj, hj, e⟩
    · simp at h
theorem lt_sorted {l : List Int} (h : l.Nodup) : (l.mergeSort fun x y => decide (x ≤ y)).Pairwise (· < ·) := by
  have hs := List.pairwise_mergeSort (le := fun x y : Int => decide (x ≤ y)) (fun a b c h1 h2 => by simp at *; omega) (fun a b => by simp; omega) l
  have hn : (l.mergeSort fun x y => decide (x ≤ y)).Nodup := (List.mergeSort_perm l _).nodup_iff.2 h
  exact (hs.and hn).imp fun ⟨h1, h2⟩ => by
    have h1 := of_decide_eq_true h1
    omega

/-! ### Facts -/
structure Fa where
  who : Int
  name : List UInt8
  other : Int
  value : Int
  from_ : Int
  to_ : Int
  learnt : Int
/-- a fact counts for somebody, a name, a day, as known on a day -/
def Hit (w : Int) (n : List UInt8) (on kn : Int) (x : Fa) : Prop := x.who = w ∧ x.name = n ∧ x.learnt ≤ kn ∧ x.from_ ≤ on ∧ (x.to_ = 0 ∨ on < x.to_)
instance (w : Int) (n : List UInt8) (on kn : Int) (x : Fa) : Decidable (Hit w n on kn x) := by unfold Hit; infer_instance
def stepB (b : Option Fa) (x : Fa) : Option Fa :=
  match b with
  | none => some x
  | some y => if y.learnt ≤ x.learnt then some x else some y
/-- the fact that counts, of those about another one -/
def bestF (w : Int) (n : List UInt8) (on kn : Int) (o : Int) (l : List Fa) : Option Fa := l.foldl (fun b x => if Hit w n on kn x ∧ x.other = o then stepB b x else b) none
theorem best_nil (w : Int) (n : List UInt8) (on kn o : Int) : bestF w n on kn o [] = none := rfl
theorem best_snoc (w : Int) (n : List UInt8) (on kn o : Int) (l : List Fa) (x : Fa) : bestF w n on kn o (l ++ [x]) = if Hit w n on kn x ∧ x.other = o then stepB (bestF w n on kn o l) x else bestF w n on kn o l := by
  unfold bestF
  rw [List.foldl_append]
  rfl
theorem best_mem (w : Int) (n : List UInt8) (on kn o : Int) : ∀ (l : List Fa) (acc : Option Fa) (y : Fa), l.foldl (fun b x => if Hit w n on kn x ∧ x.other = o then stepB b x else b) acc = some y → acc = some y ∨ (y ∈ l ∧ Hit w n on kn y ∧ y.other = o)
  | [], acc, y, h => .inl h
  | x :: l, acc, y, h => by
    rw [List.foldl_cons] at h
    rcases best_mem w n on kn o l _ y h with h | ⟨h1, h2⟩
    · split at h
      · rename_i hx
        unfold stepB at h
        split at h
        · obtain rfl := Option.some.inj h
          exact .inr ⟨by simp, hx⟩
        · split at h
          · obtain rfl := Option.some.inj h
            exact .inr ⟨by simp, hx⟩
          · exact .inl h
      · exact .inl h
    · exact .inr ⟨by simp [h1], h2⟩
theorem best_hit {w : Int} {n : List UInt8} {on kn o : Int} {l : List Fa} {y : Fa} (h : bestF w n on kn o l = some y) : y ∈ l ∧ Hit w n on kn y ∧ y.other = o := by
  rcases best_mem w n on kn o l none y h with h | h
  · cases h
  · exact h
def valF (b : Option Fa) : Int × Bool := match b with | none => (0, false) | some y => (y.value, true)
def standsB (b : Option Fa) : Bool := match b with | none => false | some y => !(y.value == 0)
/-- who stands so -/
def othersF (w : Int) (n : List UInt8) (on kn : Int) (l : List Fa) : List Int := ((List.range 40).map Int.ofNat).filter fun o => standsB (bestF w n on kn o l)
theorem others_lt (w : Int) (n : List UInt8) (on kn : Int) (l : List Fa) : (othersF w n on kn l).Pairwise (· < ·) := by
  unfold othersF
  refine List.Pairwise.filter _ ?_
  rw [List.pairwise_map]
  exact List.pairwise_lt_range.imp fun h => by simpa using h
/-- facts as they are kept -/
def Kept (l : List Fa) : Prop := ∀ x ∈ l, 0 ≤ x.who ∧ x.who < 40 ∧ x.other < 40
theorem others_of {w : Int} {n : List UInt8} {on kn : Int} {l : List Fa} (hk : Kept l) {ks : List Int} (hn : ks.Nodup) (hm : ∀ o, o ∈ ks ↔ 0 ≤ o ∧ standsB (bestF w n on kn o l) = true) : (ks.mergeSort fun x y => decide (x ≤ y)) = othersF w n on kn l := by
  refine lt_uniq _ _ (lt_sorted hn) (others_lt ..) fun o => ?_
  rw [List.mem_mergeSort, hm]
  unfold othersF
  rw [List.mem_filter, List.mem_map]
  constructor
  · rintro ⟨h0, hs⟩
    refine ⟨⟨o.toNat, ?_, by simp; omega⟩, hs⟩
    rw [List.mem_range]
    cases hb : bestF w n on kn o l with
    | none => rw [hb] at hs; simp [standsB] at hs
    | some y =>
      obtain ⟨h1, _, h3⟩ := best_hit hb
      have := (hk y h1).2.2
      omega
  · rintro ⟨⟨k, _, rfl⟩, hs⟩
    exact ⟨by simp, hs⟩
/-- the days on which something may become another -/
def turnsOf (who kn : Int) (x : Fa) : List Int := if kn < x.learnt ∨ (0 ≤ who ∧ x.who ≠ who) then [] else if x.to_ ≠ 0 then [x.from_, x.to_] else [x.from_]
def turnsR (who kn : Int) (l : List Fa) : List Int := l.flatMap (turnsOf who kn)
def turnsF (who kn : Int) (l : List Fa) : List Int := daysF (turnsR who kn l)
def learntF (l : List Fa) : List Int := daysF (l.map (·.learnt))
theorem turns_mem {who kn : Int} {l : List Fa} {d : Int} : d ∈ turnsF who kn l ↔ ∃ x ∈ l, x.learnt ≤ kn ∧ (who < 0 ∨ x.who = who) ∧ (d = x.from_ ∨ (x.to_ ≠ 0 ∧ d = x.to_)) := by
  unfold turnsF daysF
  rw [(fold_ins _ [] List.Pairwise.nil).2]
  unfold turnsR
  rw [List.mem_flatMap]
  constructor
  · rintro (⟨x, hx, h⟩ | h)
    · refine ⟨x, hx, ?_⟩
      unfold turnsOf at h
      split at h
      · simp at h
      · rename_i hc
        refine ⟨by omega, by omega, ?_⟩
        split at h
        · rename_i h0
          simp at h
          rcases h with h | h
          · exact .inl h
          · exact .inr ⟨h0, h⟩
        · simp at h
          exact .inl h
    · simp at h
  · rintro ⟨x, hx, h1, h2, h3⟩
    refine .inl ⟨x, hx, ?_⟩
    unfold turnsOf
    rw [if_neg (by omega)]
    split
    · rcases h3 with h | ⟨_, h⟩ <;> simp [h]
    · rename_i h0
      rcases h3 with h | ⟨h4, h⟩
      · simp [h]
      · exact absurd h4 h0
/-! ### What was learnt later was not known -/
theorem best_filter (w : Int) (n : List UInt8) (on kn o : Int) : ∀ (l : List Fa) (acc : Option Fa), (l.filter fun x => decide (x.learnt ≤ kn)).foldl (fun b x => if Hit w n on kn x ∧ x.other = o then stepB b x else b) acc = l.foldl (fun b x => if Hit w n on kn x ∧ x.other = o then stepB b x else b) acc
  | [], _ => rfl
  | x :: l, acc => by
    by_cases h : x.learnt ≤ kn
    · rw [List.filter_cons_of_pos (by simpa using h), List.foldl_cons, List.foldl_cons, best_filter w n on kn o l]
    · rw [List.filter_cons_of_neg (by simpa using h), List.foldl_cons, best_filter w n on kn o l, if_neg (fun hh => h hh.1.2.2.1)]
theorem best_early (w : Int) (n : List UInt8) (on kn o : Int) (l : List Fa) : bestF w n on kn o (l.filter fun x => decide (x.learnt ≤ kn)) = bestF w n on kn o l := best_filter w n on kn o l none
/-! ### Between the turns nothing changes -/
/-- the last turn up to a day; 1: none -/
def lastF (ts : List Int) (on : Int) : Int := ts.foldl (fun b d => if d ≤ on then d else b) 1
theorem last_inv (on : Int) : ∀ (ts : List Int) (b : Int), ts.Pairwise (· < ·) → (∀ d ∈ ts, b ≤ d ∨ b = 1) → b ≤ on → (∀ d ∈ ts, d ≤ on → d ≤ ts.foldl (fun b d => if d ≤ on then d else b) b) ∧ ts.foldl (fun b d => if d ≤ on then d else b) b ≤ on
  | [], b, _, _, hb => ⟨by simp, hb⟩
  | d :: ts, b, hp, hm, hb => by
    rw [List.pairwise_cons] at hp
    rw [List.foldl_cons]
    by_cases hd : d ≤ on
    · rw [if_pos hd]
      obtain ⟨h1, h2⟩ := last_inv on ts d hp.2 (fun y hy => .inl (Int.le_of_lt (hp.1 y hy))) hd
      refine ⟨fun y hy hyo => ?_, h2⟩
      rcases List.mem_cons.1 hy with rfl | hy
      · have key : ∀ (ts : List Int) (b : Int), ts.Pairwise (· < ·) → (∀ z ∈ ts, b < z) → b ≤ ts.foldl (fun b d => if d ≤ on then d else b) b := by
          intro ts
          induction ts with
          | nil => intro b _ _; exact Int.le_refl _
          | cons z ts ih =>
            intro b hp hz
            rw [List.pairwise_cons] at hp
            rw [List.foldl_cons]
            split
            · have := ih z hp.2 hp.1
              have := hz z (by simp)
              omega
            · exact ih b hp.2 fun q hq => hz q (by simp [hq])
        exact key ts y hp.2 hp.1
      · exact h1 y hy hyo
    · rw [if_neg hd]
      obtain ⟨h1, h2⟩ := last_inv on ts b hp.2 (fun y hy => hm y (by simp [hy])) hb
      refine ⟨fun y hy hyo => ?_, h2⟩
      rcases List.mem_cons.1 hy with rfl | hy
      · exact absurd hyo hd
      · exact h1 y hy hyo
theorem last_turn {who kn on : Int} {l : List Fa} (h1 : 1 ≤ on) : (∀ d ∈ turnsF who kn l, d ≤ on → d ≤ lastF (turnsF who kn l) on) ∧ lastF (turnsF who kn l) on ≤ on := by
  by_cases h : ∀ d ∈ turnsF who kn l, 1 ≤ d ∨ (1 : Int) = 1
  · exact last_inv on _ 1 (fold_ins _ [] List.Pairwise.nil).1 h h1
  · exact absurd (fun d _ => .inr rfl) h
theorem hit_last {w : Int} {n : List UInt8} {on kn : Int} {l : List Fa} (h1 : 1 ≤ on) {x : Fa} (hx : x ∈ l) : Hit w n (lastF (turnsF w kn l) on) kn x ↔ Hit w n on kn x := by
  obtain ⟨h2, h3⟩ := last_turn (who := w) (kn := kn) (l := l) h1
  unfold Hit
  constructor
  · rintro ⟨a, b, c, d, e⟩
    refine ⟨a, b, c, by omega, ?_⟩
    rcases e with e | e
    · exact .inl e
    · by_cases h0 : x.to_ = 0
      · exact .inl h0
      · refine .inr (Int.not_le.1 fun hle => ?_)
        have := h2 x.to_ (turns_mem.2 ⟨x, hx, c, .inr a, .inr ⟨h0, rfl⟩⟩) hle
        omega
  · rintro ⟨a, b, c, d, e⟩
    refine ⟨a, b, c, h2 _ (turns_mem.2 ⟨x, hx, c, .inr a, .inl rfl⟩) d, ?_⟩
    rcases e with e | e
    · exact .inl e
    · exact .inr (by omega)
theorem best_congr {w : Int} {n : List UInt8} {on on' kn o : Int} : ∀ (l : List Fa) (acc : Option Fa), (∀ x ∈ l, Hit w n on' kn x ↔ Hit w n on kn x) → l.foldl (fun b x => if Hit w n on' kn x ∧ x.other = o then stepB b x else b) acc = l.foldl (fun b x => if Hit w n on kn x ∧ x.other = o then stepB b x else b) acc
  | [], _, _ => rfl
  | x :: l, acc, h => by
    rw [List.foldl_cons, List.foldl_cons]
    have hx := h x (by simp)
    have e : (if Hit w n on' kn x ∧ x.other = o then stepB acc x else acc) = (if Hit w n on kn x ∧ x.other = o then stepB acc x else acc) := by
      by_cases hh : Hit w n on kn x ∧ x.other = o
      · rw [if_pos hh, if_pos ⟨hx.2 hh.1, hh.2⟩]
      · rw [if_neg hh, if_neg fun h' => hh ⟨hx.1 h'.1, h'.2⟩]
    rw [e]
    exact best_congr l _ fun y hy => h y (by simp [hy])
theorem best_last {w : Int} {n : List UInt8} {on kn o : Int} {l : List Fa} (h1 : 1 ≤ on) : bestF w n (lastF (turnsF w kn l) on) kn o l = bestF w n on kn o l :=
  best_congr l none fun _ hx => hit_last h1 hx
theorem others_last {w : Int} {n : List UInt8} {on kn : Int} {l : List Fa} (h1 : 1 ≤ on) : othersF w n (lastF (turnsF w kn l) on) kn l = othersF w n on kn l := by
  unfold othersF
  exact List.filter_congr fun o _ => by rw [best_last h1]
end Go.Proofs.YtflklbhgjfonbaaGreatDoor.Fk

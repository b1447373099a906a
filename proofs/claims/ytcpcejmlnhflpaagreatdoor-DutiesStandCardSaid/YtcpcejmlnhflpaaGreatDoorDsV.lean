/- DutiesStand, in plain lists: first events, duties day by day, what stands for others, and the next day on which something becomes another. Whether duties are valid: the code of what is wrong, to the number. The states of duties, to the row. What is left of events up to a day: slices.Clone, slices.IndexFunc and slices.DeleteFunc at events. slices.DeleteFunc at events. -/
import Derived.Test.YtcpcejmlnhflpaaGreatDoorDuP
import Derived.Test.YtcpcejmlnhflpaaGreatDoorDueP
import Derived.Test.YtcpcejmlnhflpaaGreatDoorDuV
import Derived.Test.YtcpcejmlnhflpaaGreatDoorDuS
import Derived.Deep.LoopGhost
import Derived.Laws.IdiomCopy
import Derived.Lib.SlBuf
import Derived.Lib.SliceRun
namespace Go.Proofs.YtcpcejmlnhflpaaGreatDoor.Dut
open Go.RowKit CdP CdM

/-! ### first events -/
def Mt (x : Dt) (wv : Bool) (e : Ev) : Prop := e.name = x.name ∧ e.who = x.who ∧ e.wv = wv
theorem first_acc (x : Dt) (wv : Bool) (on : Int) (hf : 1 ≤ x.fr) : ∀ (es : List Ev) (d : Int), (d ≠ 0 → es.foldl (fstep x wv on) d ≠ 0 ∧ es.foldl (fstep x wv on) d ≤ d) ∧ (es.foldl (fstep x wv on) d ≠ 0 → es.foldl (fstep x wv on) d = d ∨ ∃ e ∈ es, Mt x wv e ∧ x.fr ≤ e.day ∧ e.day ≤ on ∧ e.day = es.foldl (fstep x wv on) d) ∧ (∀ e ∈ es, Mt x wv e → x.fr ≤ e.day → e.day ≤ on → es.foldl (fstep x wv on) d ≠ 0 ∧ es.foldl (fstep x wv on) d ≤ e.day)
  | [], d => by simp
  | e :: es, d => by
    rw [List.foldl_cons]
    by_cases hh : Hit x wv on d e
    · have e1 : fstep x wv on d e = e.day := if_pos hh
      rw [e1]
      obtain ⟨h1, h2, h3, h4, h5, h6⟩ := hh
      obtain ⟨a, b, c⟩ := first_acc x wv on hf es e.day
      obtain ⟨a1, a2⟩ := a (by omega)
      refine ⟨fun hd => ⟨a1, by clear a b c; omega⟩, fun hr => ?_, fun y hy m1 m2 m3 => ?_⟩
      · rcases b hr with b | ⟨y, hy, b⟩
        · exact .inr ⟨e, by simp, ⟨h1, h2, h3⟩, h4, h5, b.symm⟩
        · exact .inr ⟨y, by simp [hy], b⟩
      · rcases List.mem_cons.1 hy with rfl | hy
        · exact ⟨a1, a2⟩
        · exact c y hy m1 m2 m3
    · have e1 : fstep x wv on d e = d := if_neg hh
      rw [e1]
      obtain ⟨a, b, c⟩ := first_acc x wv on hf es d
      refine ⟨a, fun hr => ?_, fun y hy m1 m2 m3 => ?_⟩
      · rcases b hr with b | ⟨y, hy, b⟩
        · exact .inl b
        · exact .inr ⟨y, by simp [hy], b⟩
      · rcases List.mem_cons.1 hy with rfl | hy
        · have h2 : d ≠ 0 ∧ d ≤ y.day := by
            by_cases hd : d = 0
            · exact absurd ⟨m1.1, m1.2.1, m1.2.2, m2, m3, .inl hd⟩ hh
            · exact ⟨hd, Int.not_lt.1 fun hl => hh ⟨m1.1, m1.2.1, m1.2.2, m2, m3, .inr hl⟩⟩
          obtain ⟨a1, a2⟩ := a h2.1
          exact ⟨a1, by clear a b c; omega⟩
        · exact c y hy m1 m2 m3
theorem first_none {x : Dt} {wv : Bool} {on : Int} {es : List Ev} (hf : 1 ≤ x.fr) (h : ∀ e ∈ es, Mt x wv e → x.fr ≤ e.day → on < e.day) : firstP x wv on es = 0 := by
  obtain ⟨_, b, _⟩ := first_acc x wv on hf es 0
  by_cases h0 : firstP x wv on es = 0
  · exact h0
  · rcases b h0 with b | ⟨e, he, m, f, o, _⟩
    · exact b
    · have := h e he m f
      omega
theorem first_at {x : Dt} {wv : Bool} {on d : Int} {es : List Ev} (hf : 1 ≤ x.fr) (hd : x.fr ≤ d) (ho : d ≤ on) (hx : ∃ e ∈ es, Mt x wv e ∧ e.day = d) (hm : ∀ e ∈ es, Mt x wv e → x.fr ≤ e.day → d ≤ e.day) : firstP x wv on es = d := by
  obtain ⟨_, b, c⟩ := first_acc x wv on hf es 0
  obtain ⟨e, he, m, rfl⟩ := hx
  obtain ⟨c1, c2⟩ := c e he m hd ho
  rcases b c1 with b | ⟨y, hy, my, fy, _, ey⟩
  · exact absurd b c1
  · have := hm y hy my fy
    unfold firstP
    omega
theorem first_ge {x : Dt} {wv : Bool} {on d : Int} {es : List Ev} (hf : 1 ≤ x.fr) (hm : ∀ e ∈ es, Mt x wv e → x.fr ≤ e.day → d ≤ e.day) : firstP x wv on es = 0 ∨ d ≤ firstP x wv on es := by
  obtain ⟨_, b, _⟩ := first_acc x wv on hf es 0
  by_cases h0 : firstP x wv on es = 0
  · exact .inl h0
  · rcases b h0 with b | ⟨y, hy, my, fy, _, ey⟩
    · exact .inl b
    · have := hm y hy my fy
      unfold firstP
      exact .inr (by omega)
/-! ### a duty, day by day -/
/-- no event of a duty's lies ahead of a day -/
def Clear (x : Dt) (es : List Ev) (dy : Int) : Prop := ∀ wv, ∀ e ∈ es, Mt x wv e → x.fr ≤ e.day → dy ≤ e.day
theorem Clear.start (x : Dt) (es : List Ev) : Clear x es x.fr := fun _ _ _ _ h => h
/-- is there an event of a duty's on a day? -/
def evB (x : Dt) (wv : Bool) (dy : Int) (es : List Ev) : Bool := es.any fun e => e.day == dy && (e.name == x.name && (e.who == x.who && e.wv == wv))
theorem ev_yes {x : Dt} {wv : Bool} {dy : Int} {es : List Ev} (h : evB x wv dy es = true) : ∃ e ∈ es, Mt x wv e ∧ e.day = dy := by
  unfold evB at h
  obtain ⟨e, he, h⟩ := List.any_eq_true.1 h
  simp only [Bool.and_eq_true, beq_iff_eq] at h
  exact ⟨e, he, ⟨h.2.1, h.2.2.1, h.2.2.2⟩, h.1⟩
theorem ev_no {x : Dt} {wv : Bool} {dy : Int} {es : List Ev} (h : evB x wv dy es = false) : ∀ e ∈ es, Mt x wv e → e.day ≠ dy := by
  intro e he m hd
  have : evB x wv dy es = true := by
    unfold evB
    refine List.any_eq_true.2 ⟨e, he, ?_⟩
    simp only [Bool.and_eq_true, beq_iff_eq]
    exact ⟨hd, m.1, m.2.1, m.2.2⟩
  rw [h] at this
  cases this
theorem ev_take {x : Dt} {wv : Bool} {dy : Int} {es : List Ev} {i : Nat} (h : i < es.length) : evB x wv dy (es.take (i + 1)) = (evB x wv dy (es.take i) || (es[i].day == dy && (es[i].name == x.name && (es[i].who == x.who && es[i].wv == wv)))) := by
  unfold evB
  rw [List.take_succ_eq_append_getElem h, List.any_append]
  simp
theorem Clear.next {x : Dt} {es : List Ev} {dy : Int} (h : Clear x es dy) (h1 : evB x true dy es = false) (h2 : evB x false dy es = false) : Clear x es (dy + 1) := by
  intro wv e he m f
  have a := h wv e he m f
  have b : e.day ≠ dy := by
    cases wv
    · exact ev_no h2 e he m
    · exact ev_no h1 e he m
  omega
theorem day_off {x : Dt} {es : List Ev} {dy on : Int} (hf : 1 ≤ x.fr) (h : Clear x es dy) (h1 : x.fr ≤ dy) (h2 : dy ≤ on) (ho : evB x true dy es = true) : stP x es on = (4, dy) := by
  have e1 := first_at (on := on) hf h1 h2 (ev_yes ho) (h true)
  have e2 := first_ge (on := on) hf (h false)
  unfold stP
  rw [e1, if_pos ⟨by omega, e2⟩]
theorem day_met {x : Dt} {es : List Ev} {dy on : Int} (hf : 1 ≤ x.fr) (h : Clear x es dy) (h1 : x.fr ≤ dy) (h2 : dy ≤ on) (ho : evB x true dy es = false) (hd : evB x false dy es = true) (ht : dy ≤ x.till) : stP x es on = (1, dy) := by
  have e1 := first_at (on := on) hf h1 h2 (ev_yes hd) (h false)
  have e2 := first_ge (on := on) (d := dy + 1) hf fun e he m f => by
    have a := h true e he m f
    have b := ev_no ho e he m
    omega
  unfold stP
  rw [e1, if_neg (by omega), if_pos ⟨by omega, ht⟩]
theorem day_late {x : Dt} {es : List Ev} {dy on : Int} (hf : 1 ≤ x.fr) (h : Clear x es dy) (h1 : x.fr ≤ dy) (h2 : dy ≤ on) (ho : evB x true dy es = false) (hd : evB x false dy es = true) (ht : ¬ dy ≤ x.till) : stP x es on = (2, dy) := by
  have e1 := first_at (on := on) hf h1 h2 (ev_yes hd) (h false)
  have e2 := first_ge (on := on) (d := dy + 1) hf fun e he m f => by
    have a := h true e he m f
    have b := ev_no ho e he m
    omega
  unfold stP
  rw [e1, if_neg (by omega), if_neg (fun h => ht h.2), if_pos (by omega)]
theorem day_end {x : Dt} {es : List Ev} {dy on : Int} (hf : 1 ≤ x.fr) (h : Clear x es dy) (h2 : on < dy) : stP x es on = if x.till < on then (3, wrap64 (x.till + 1)) else (0, x.fr) := by
  have e1 := first_none (wv := true) (on := on) hf fun e he m f => by have := h true e he m f; omega
  have e2 := first_none (wv := false) (on := on) hf fun e he m f => by have := h false e he m f; omega
  unfold stP
  rw [e1, e2, if_neg (by omega), if_neg (by omega), if_neg (by omega)]
/-! ### what stands for others -/
open Classical in
/-- the day that is due for what a duty asks for else, and its code -/
noncomputable def dueF (c : Cd) (x : Dt) : Int × Int := if h : ∃ o, DueP c (x.till + 1) x.n x.u x.r o then Classical.choose h else (0, 0)
theorem due_eq {c : Cd} {x : Dt} {o : Int × Int} (h : DueP c (x.till + 1) x.n x.u x.r o) : dueF c x = o := by
  unfold dueF
  rw [dif_pos ⟨o, h⟩]
  exact (Classical.choose_spec (⟨o, h⟩ : ∃ o, DueP c (x.till + 1) x.n x.u x.r o)).same h
noncomputable def elseD (c : Cd) (x : Dt) : Dt := ⟨x.els, x.who, x.till + 1, (dueF c x).1, [], 0, 0, 0⟩
def Needs (r : Ro) (on : Int) : Prop := (r.st = 3 ∨ r.st = 2) ∧ r.d.els ≠ [] ∧ r.d.till + 1 ≤ on
instance (r : Ro) (on : Int) : Decidable (Needs r on) := by unfold Needs; exact inferInstance
noncomputable def oneM (c : Cd) (es : List Ev) (on : Int) (r : Ro) (i : Nat) : List Ro := if Needs r on then [⟨elseD c r.d, (stP (elseD c r.d) es on).1, (stP (elseD c r.d) es on).2, (i : Int)⟩] else []
noncomputable def moreR (c : Cd) (es : List Ev) (on : Int) (rs : List Ro) : List Ro := rs.zipIdx.flatMap fun p => oneM c es on p.1 p.2
theorem more_nil (c : Cd) (es : List Ev) (on : Int) : moreR c es on [] = [] := rfl
theorem more_take {c : Cd} {es : List Ev} {on : Int} {rs : List Ro} {k : Nat} (h : k < rs.length) : moreR c es on (rs.take (k + 1)) = moreR c es on (rs.take k) ++ oneM c es on rs[k] k := by
  unfold moreR
  rw [List.take_succ_eq_append_getElem h, List.zipIdx_append, List.flatMap_append]
  congr 1
  simp [List.length_take, Nat.min_eq_left (Nat.le_of_lt h)]
theorem more_len (c : Cd) (es : List Ev) (on : Int) (rs : List Ro) : ∀ k, k ≤ rs.length → (moreR c es on (rs.take k)).length ≤ k
  | 0, _ => by simp [more_nil]
  | k + 1, h => by
    have ih := more_len c es on rs k (by omega)
    rw [more_take (by omega), List.length_append]
    have : (oneM c es on (rs[k]'(by omega)) k).length ≤ 1 := by unfold oneM; split <;> simp
    omega
noncomputable def statesF (c : Cd) (l : List Dt) (es : List Ev) (on : Int) : List Ro := baseR l es on ++ moreR c es on (baseR l es on)
/-! ### between the days nothing changes -/
def pastF (es : List Ev) (on : Int) : List Ev := es.filter fun e => decide (e.day ≤ on)
theorem past_take {es : List Ev} {on : Int} {i : Nat} (h : i < es.length) : pastF (es.take (i + 1)) on = pastF (es.take i) on ++ (if es[i].day ≤ on then [es[i]] else []) := by
  unfold pastF
  rw [List.take_succ_eq_append_getElem h, List.filter_append]
  by_cases hc : es[i].day ≤ on
  · rw [if_pos hc]; simp [hc]
  · rw [if_neg hc]; simp [hc]
theorem first_past_acc {x : Dt} {wv : Bool} {on d : Int} (h : on ≤ d) : ∀ (es : List Ev) (acc : Int), (pastF es on).foldl (fstep x wv d) acc = es.foldl (fstep x wv on) acc
  | [], _ => rfl
  | e :: es, acc => by
    unfold pastF
    by_cases hc : e.day ≤ on
    · rw [List.filter_cons_of_pos (by simpa using hc), List.foldl_cons, List.foldl_cons]
      have he : fstep x wv d acc e = fstep x wv on acc e := by
        unfold fstep
        by_cases hh : Hit x wv on acc e
        · rw [if_pos hh, if_pos ⟨hh.1, hh.2.1, hh.2.2.1, hh.2.2.2.1, by omega, hh.2.2.2.2.2⟩]
        · rw [if_neg hh, if_neg fun g => hh ⟨g.1, g.2.1, g.2.2.1, g.2.2.2.1, hc, g.2.2.2.2.2⟩]
      rw [he]
      exact first_past_acc h es _
    · rw [List.filter_cons_of_neg (by simpa using hc), List.foldl_cons]
      have he : fstep x wv on acc e = acc := if_neg fun g => hc g.2.2.2.2.1
      rw [he]
      exact first_past_acc h es acc
theorem first_past {x : Dt} {wv : Bool} {on d : Int} {es : List Ev} (h : on ≤ d) : firstP x wv d (pastF es on) = firstP x wv on es := first_past_acc h es 0
theorem st_now (x : Dt) (es : List Ev) (on : Int) : stP x (pastF es on) on = stP x es on := by
  unfold stP
  rw [first_past (Int.le_refl _), first_past (Int.le_refl _)]
theorem st_same {x : Dt} {es : List Ev} {on a b : Int} (ha : on ≤ a) (hb : on ≤ b) (h : x.till < a ↔ x.till < b) : stP x (pastF es on) a = stP x (pastF es on) b := by
  unfold stP
  rw [first_past ha, first_past ha, first_past hb, first_past hb]
  by_cases hc : x.till < a
  · rw [if_pos hc, if_pos (h.1 hc)]
  · rw [if_neg hc, if_neg (fun g => hc (h.2 g))]
theorem more_congr {c : Cd} {es es' : List Ev} {on on' : Int} {rs : List Ro} (h : ∀ r ∈ rs, ∀ i, oneM c es on r i = oneM c es' on' r i) : moreR c es on rs = moreR c es' on' rs := by
  unfold moreR
  rw [List.flatMap_def, List.flatMap_def]
  congr 1
  refine List.map_congr_left fun p hp => h p.1 ?_ p.2
  have := List.mem_zipIdx hp
  obtain ⟨_, _, e⟩ := this
  rw [e]
  exact List.getElem_mem _
theorem states_now (c : Cd) (l : List Dt) (es : List Ev) (on : Int) : statesF c l (pastF es on) on = statesF c l es on := by
  have hb : baseR l (pastF es on) on = baseR l es on := by
    unfold baseR
    exact List.map_congr_left fun x _ => by rw [st_now]
  unfold statesF
  rw [hb, more_congr fun r _ i => ?_]
  unfold oneM
  rw [st_now]
theorem base_in {l : List Dt} {es : List Ev} {on : Int} {r : Ro} (h : r ∈ baseR l es on) : r.d ∈ l := by
  unfold baseR at h
  obtain ⟨x, hx, rfl⟩ := List.mem_map.1 h
  exact (List.mem_filter.1 hx).1
theorem states_step {c : Cd} {l : List Dt} {es : List Ev} {on d : Int} (hd : on ≤ d) (h : ∀ x ∈ l, x.fr ≠ d + 1 ∧ x.till + 1 ≠ d + 1 ∧ (x.els ≠ [] → (dueF c x).1 + 1 ≠ d + 1)) : statesF c l (pastF es on) (d + 1) = statesF c l (pastF es on) d := by
  have hb : baseR l (pastF es on) (d + 1) = baseR l (pastF es on) d := by
    unfold baseR
    have hf : (l.filter fun x => decide (x.fr ≤ d + 1)) = l.filter fun x => decide (x.fr ≤ d) := List.filter_congr fun x hx => by
      have := (h x hx).1
      exact decide_eq_decide.2 (by omega)
    rw [hf]
    refine List.map_congr_left fun x hx => ?_
    have := (h x (List.mem_filter.1 hx).1).2.1
    rw [st_same (b := d) (by omega) hd (by omega)]
  unfold statesF
  rw [hb, more_congr fun r hr i => ?_]
  have hx := h r.d (base_in hr)
  unfold oneM
  by_cases hn : Needs r d
  · have hn2 : Needs r (d + 1) := ⟨hn.1, hn.2.1, by have := hn.2.2; omega⟩
    rw [if_pos hn, if_pos hn2, st_same (b := d) (by omega) hd (by have := hx.2.2 hn.2.1; unfold elseD; simp only; omega)]
  · have hn2 : ¬ Needs r (d + 1) := fun g => hn ⟨g.1, g.2.1, by have := g.2.2; have := hx.2.1; omega⟩
    rw [if_neg hn, if_neg hn2]
/-- the days on which something may become another -/
noncomputable def dayOf (c : Cd) (x : Dt) : List Int := [x.fr, x.till + 1] ++ (if x.els = [] then [] else [(dueF c x).1 + 1])
noncomputable def daysN (c : Cd) (l : List Dt) : List Int := l.flatMap (dayOf c)
theorem states_keep {c : Cd} {l : List Dt} {es : List Ev} {on : Int} {m : Int} (hk : ∀ d ∈ daysN c l, on < d → d ≤ m → statesF c l (pastF es on) d = statesF c l es on) : ∀ (k : Nat), on + k ≤ m → statesF c l (pastF es on) (on + k) = statesF c l es on
  | 0, _ => by simpa using states_now c l es on
  | k + 1, h => by
    have ih := states_keep hk k (by omega)
    by_cases hd : on + (k : Int) + 1 ∈ daysN c l
    · have := hk _ hd (by omega) (by omega)
      rw [show on + ((k + 1 : Nat) : Int) = on + (k : Int) + 1 by omega]
      exact this
    · rw [show on + ((k + 1 : Nat) : Int) = on + (k : Int) + 1 by omega, states_step (by omega) fun x hx => ?_]
      · exact ih
      · have hm : ∀ t ∈ dayOf c x, t ≠ on + (k : Int) + 1 := fun t ht e => hd (by rw [← e]; exact List.mem_flatMap.2 ⟨x, hx, ht⟩)
        refine ⟨hm _ (by simp [dayOf]), hm _ (by simp [dayOf]), fun he => hm _ (by simp [dayOf, he])⟩
end Go.Proofs.YtcpcejmlnhflpaaGreatDoor.Dut
namespace Go.Proofs.YtcpcejmlnhflpaaGreatDoor.Dut
open Go.RowKit Mem Nest Sol App CdP CdM Solve Err

/-- all days of events are days -/
def EG (es : List Ev) : Prop := ∀ e ∈ es, Gd e.day
theorem EG.succ {es : List Ev} {k : Nat} (h : EG (es.take k)) (hk : k < es.length) (g : Gd es[k].day) : EG (es.take (k + 1)) := by
  intro e he
  rw [List.take_succ_eq_append_getElem hk] at he
  rcases List.mem_append.1 he with he | he
  · exact h e he
  · simp at he; rw [he]; exact g
theorem EG.full {es : List Ev} {k : Nat} (h : EG (es.take k)) (hk : es.length ≤ k) : EG es := by
  rw [List.take_of_length_le hk] at h
  exact h
/-- no one of some duties asks for what has no day -/
def DueOk (c : Cd) (l : List Dt) : Prop := ∀ x ∈ l, x.els ≠ [] → (dueF c x).2 = 0
noncomputable def firstBad (c : Cd) : List Dt → Int
  | [] => 0
  | x :: l => if x.els ≠ [] ∧ (dueF c x).2 ≠ 0 then (dueF c x).2 else firstBad c l
theorem bad_none {c : Cd} : ∀ {l : List Dt}, DueOk c l → firstBad c l = 0
  | [], _ => rfl
  | x :: l, h => by
    unfold firstBad
    rw [if_neg (fun g => g.2 (h x (by simp) g.1))]
    exact bad_none fun y hy => h y (by simp [hy])
theorem bad_app {c : Cd} (m : List Dt) : ∀ {l : List Dt}, DueOk c l → firstBad c (l ++ m) = firstBad c m
  | [], _ => rfl
  | x :: l, h => by
    rw [List.cons_append]
    unfold firstBad
    rw [if_neg (fun g => g.2 (h x (by simp) g.1))]
    rw [bad_app m fun y hy => h y (by simp [hy])]
    rw [← firstBad.eq_def]
theorem bad_mid {c : Cd} {l m : List Dt} {x : Dt} (h : DueOk c l) (h1 : x.els ≠ []) (h2 : (dueF c x).2 ≠ 0) : firstBad c (l ++ x :: m) = (dueF c x).2 := by
  rw [bad_app _ h]
  show (if x.els ≠ [] ∧ (dueF c x).2 ≠ 0 then (dueF c x).2 else firstBad c m) = _
  rw [if_pos ⟨h1, h2⟩]
theorem bad_at {c : Cd} {l : List Dt} {k : Nat} (hk : k < l.length) (h : DueOk c (l.take k)) (h1 : l[k].els ≠ []) (h2 : (dueF c l[k]).2 ≠ 0) : firstBad c l = (dueF c l[k]).2 := by
  have e := bad_mid (m := l.drop (k + 1)) h h1 h2
  rw [← List.drop_eq_getElem_cons hk, List.take_append_drop] at e
  exact e
theorem DueOk.succ {c : Cd} {l : List Dt} {k : Nat} (h : DueOk c (l.take k)) (hk : k < l.length) (g : l[k].els ≠ [] → (dueF c l[k]).2 = 0) : DueOk c (l.take (k + 1)) := by
  intro e he
  rw [List.take_succ_eq_append_getElem hk] at he
  rcases List.mem_append.1 he with he | he
  · exact h e he
  · simp at he; rw [he]; exact g
theorem DueOk.full {c : Cd} {l : List Dt} {k : Nat} (h : DueOk c (l.take k)) (hk : l.length ≤ k) : DueOk c l := by
  rw [List.take_of_length_le hk] at h
  exact h
open Classical in
/-- the code of what is wrong -/
noncomputable def codeV (c : Cd) (l : List Dt) (es : List Ev) (on : Int) : Int := if 200 < l.length ∨ 400 < es.length then 2 else if ¬ (VOk l on l.length ∧ EG es) then 4 else firstBad c l
theorem codeV_two {c : Cd} {l : List Dt} {es : List Ev} {on : Int} (h : 200 < l.length ∨ 400 < es.length) : codeV c l es on = 2 := by unfold codeV; rw [if_pos h]
theorem codeV_four {c : Cd} {l : List Dt} {es : List Ev} {on : Int} (h : ¬ (200 < l.length ∨ 400 < es.length)) (h1 : ¬ (VOk l on l.length ∧ EG es)) : codeV c l es on = 4 := by unfold codeV; rw [if_neg h, if_pos h1]
theorem codeV_due {c : Cd} {l : List Dt} {es : List Ev} {on : Int} (h : ¬ (200 < l.length ∨ 400 < es.length)) (h1 : VOk l on l.length ∧ EG es) : codeV c l es on = firstBad c l := by unfold codeV; rw [if_neg h, if_neg (fun g => g h1)]
theorem bad_zero {c : Cd} : ∀ {l : List Dt}, firstBad c l = 0 → DueOk c l
  | [], _ => fun x hx => by cases hx
  | x :: l, h => by
    unfold firstBad at h
    split at h
    · rename_i g
      exact absurd h g.2
    · rename_i g
      intro y hy hn
      rcases List.mem_cons.1 hy with rfl | hy
      · exact Classical.byContradiction fun q => g ⟨hn, q⟩
      · exact bad_zero h y hy hn
theorem codeV_zero {c : Cd} {l : List Dt} {es : List Ev} {on : Int} (h : codeV c l es on = 0) : l.length ≤ 200 ∧ es.length ≤ 400 ∧ VOk l on l.length ∧ EG es ∧ DueOk c l := by
  by_cases h1 : 200 < l.length ∨ 400 < es.length
  · rw [codeV_two h1] at h
    cases h
  · by_cases h2 : VOk l on l.length ∧ EG es
    · rw [codeV_due h1 h2] at h
      exact ⟨by omega, by omega, h2.1, h2.2, bad_zero h⟩
    · rw [codeV_four h1 h2] at h
      cases h
set_option maxHeartbeats 1000000 in
theorem valid1_s (xd : Int) (xn xw : List UInt8) (xv : Bool) (w : World) :
    Calls Tryz.prog 89 #[.agg #[.int .i64 xd, .string ⟨xn.toArray⟩, .string ⟨xw.toArray⟩, .bool xv]] w fun e w' => e = .returned (.bool (!decide (Gd xd))) ∧ Below w.heap.size w w' := by
  go_enter Tryz.func89, Tryz.ntmps89
  go_wp2_with fail
  refine (day_any _ _).mono ?_
  rintro e w' ⟨rfl, rfl⟩
  go_wp2_with fail
  go_ret
  exact ⟨rfl, ext_alloc _ _⟩
set_option maxHeartbeats 1000000 in
theorem indexE_s (es : List Ev) (hl : es.length ≤ 1000) (A : Option Addr) (c : Nat) (w : World) (hr : Rd w A (es.flatMap evCells)) :
    Calls Tryz.prog 91 #[.slice A es.length c, .func (.func 89) #[] #[]] w fun e w' => (∃ r : Int, e = .returned (.int .i64 r) ∧ (0 ≤ r ↔ ¬ EG es)) ∧ Below w.heap.size w w' := by
  have HR := Lib.hid hr
  clear hr
  go_enter Tryz.func91, Tryz.ntmps91
  go_wp2_with fail
  go_loopw [8] (fun i wr => ∃ k : Nat, k ≤ es.length ∧ i = .int .i64 k ∧ Hid (Below w.heap.size w wr) ∧ Hid (EG (es.take k))) (fun i _ => es.length - (intOf i).toNat)
  case atStart => exact ⟨0, Nat.zero_le _, rfl, Below.refl _ _, fun e he => by simp at he⟩
  case round =>
    obtain ⟨k, hk, rfl, HB, HG⟩ := hrel
    by_cases hlt : k < es.length
    · have HYes := Lib.hid (fun (h : Gd es[k].day) => HG.out.succ hlt h)
      have HNo := Lib.hid (fun (h : ¬ Gd es[k].day) (g : EG es) => h (g _ (List.getElem_mem hlt)))
      have hcl : (k : Int) < (es.length : Int) := by omega
      obtain ⟨b, o, rfl, c0, c1, c2, c3⟩ := ev_at (HR.out.ext HB.out) hlt
      generalize es[k] = x at c0 c1 c2 c3 HYes HNo
      obtain ⟨xd, xn, xw, xv⟩ := x
      simp only at c0 c1 c2 c3 HYes HNo
      go_wp2_with fail
      refine (valid1_s xd xn xw xv _).mono ?_
      rintro e w' ⟨rfl, hb⟩
      have HB2 := Lib.hid (ext_trans HB.out hb)
      clear hb c0 c1 c2 c3
      by_cases hg : Gd xd
      · have HK := Lib.hid (HYes.out hg)
        rw [decide_eq_true hg]
        clear hg HYes HNo
        go_wp2_with fail
        go_roundw
        case rel => exact ⟨k + 1, by omega, by go_num, HB2.out, HK.out⟩
        case measure => simp [intOf]; omega
      · have HK := Lib.hid (HNo.out hg)
        rw [decide_eq_false hg]
        clear hg HYes HNo
        go_wp2_with fail
        go_ret
        exact ⟨⟨_, rfl, fun _ => HK.out, fun _ => by omega⟩, HB2.out⟩
    · have hcl : ¬ (k : Int) < (es.length : Int) := by omega
      go_wp2_with fail
      go_ret
      exact ⟨⟨_, rfl, fun h => absurd h (by decide), fun h => absurd (HG.out.full (by omega)) h⟩, HB.out⟩
set_option maxHeartbeats 1000000 in
theorem containsE_s (es : List Ev) (hl : es.length ≤ 1000) (A : Option Addr) (c : Nat) (w : World) (hr : Rd w A (es.flatMap evCells)) :
    Calls Tryz.prog 88 #[.slice A es.length c, .func (.func 89) #[] #[]] w fun e w' => (∃ b : Bool, e = .returned (.bool b) ∧ (b = true ↔ ¬ EG es)) ∧ Below w.heap.size w w' := by
  have HI := Lib.hid (indexE_s es hl A c w hr)
  clear hr
  go_enter Tryz.func88, Tryz.ntmps88
  go_wp2_with fail
  refine HI.out.mono ?_
  rintro e w' ⟨⟨r, rfl, hf⟩, hb⟩
  have HF := Lib.hid hf
  have HB := Lib.hid hb
  clear hf hb
  by_cases hr : 0 ≤ r
  · go_wp2_with fail
    go_ret
    exact ⟨⟨_, rfl, fun _ => HF.out.1 hr, fun _ => rfl⟩, HB.out⟩
  · go_wp2_with fail
    go_ret
    exact ⟨⟨_, rfl, fun h => absurd (of_decide_eq_true h) (by omega), fun h => absurd (HF.out.2 h) (by omega)⟩, HB.out⟩
def VsPost (c : Cd) (l : List Dt) (es : List Ev) (on : Int) (A : Nat → Addr) (w : World) (e : Ending) (w' : World) : Prop := e = .returned (errC A (codeV c l es on)) ∧ Below w.heap.size w w'
set_option maxRecDepth 100000 in
set_option maxHeartbeats 8000000 in
theorem dvalid_s (l : List Dt) (hl : l.length ≤ 1000) (es : List Ev) (he : es.length ≤ 1000) (c : Cd) (ok : CdOk c) (cb co : Nat) (H : Option Addr) (hc : Nat) (on : Int) (A : Nat → Addr) (LA EA : Option Addr) (lc ec : Nat) (w : World)
    (hd : Rd w LA (l.flatMap dtCells)) (hv : Rd w EA (es.flatMap evCells)) (hC : CdA w cb co c H hc) (hE : E3 w A) :
    Calls Tryz.prog 55 #[.slice LA l.length lc, .slice EA es.length ec, .pointer (some ⟨cb, co, none⟩), .int .i64 on] w (VsPost c l es on A w) := by
  have HD := Lib.hid hd
  have HV := Lib.hid hv
  have HC := Lib.hid hC
  have HE := Lib.hid hE
  have h1 := hE.v1
  have h3 := hE.v3
  unfold sentV at h1 h3
  have HG1 := Lib.hid h1
  have HG3 := Lib.hid h3
  have HOK := Lib.hid ok
  clear hd hv hC hE ok h1 h3
  go_enter Tryz.func55, Tryz.ntmps55
  by_cases n1 : 200 < l.length
  · have n1' : (200 : Int) < (l.length : Int) := by omega
    have g1 := HG1.out
    go_wp2_with fail
    go_ret
    exact ⟨by rw [codeV_two (.inl n1), errC_two]; rfl, Below.refl _ _⟩
  · have n1' : ¬ (200 : Int) < (l.length : Int) := by omega
    by_cases n2 : 400 < es.length
    · have n2' : (400 : Int) < (es.length : Int) := by omega
      have g1 := HG1.out
      go_wp2_with fail
      go_ret
      exact ⟨by rw [codeV_two (.inr n2), errC_two]; rfl, Below.refl _ _⟩
    · have n2' : ¬ (400 : Int) < (es.length : Int) := by omega
      have HSm := Lib.hid (show ¬ (200 < l.length ∨ 400 < es.length) by omega)
      go_upto_region 3 with fail
      go_cut [9] (fun s9 wx => w = wx ∧ ∃ b0 : Bool, s9 = .bool b0 ∧ Hid (b0 = false ↔ VOk l on 0))
      case first =>
        by_cases hg : Gd on
        · have HGd := Lib.hid hg
          clear hg
          go_wp2_with fail
          refine (day_yes _ HGd.out _).mono ?_
          rintro e w' ⟨rfl, rfl⟩
          go_wp2_with fail
          go_meet
          exact ⟨rfl, _, rfl, by show _ ↔ _; simp [VOk, HGd.out]⟩
        · have HGd := Lib.hid hg
          clear hg
          go_wp2_with fail
          refine (day_no _ HGd.out _).mono ?_
          rintro e w' ⟨rfl, rfl⟩
          go_wp2_with fail
          go_meet
          exact ⟨rfl, _, rfl, by show _ ↔ _; simp [VOk, HGd.out]⟩
      case rest =>
        obtain ⟨rfl, b0, rfl, HB0⟩ := hcut
        go_wp2_with fail
        go_loopw [9, 30] (fun s9 s30 wr => ∃ (bb : Bool) (k : Nat), s9 = .bool bb ∧ s30 = .int .i64 k ∧ k ≤ l.length ∧ Hid (Below w.heap.size w wr) ∧ Hid (bb = false ↔ VOk l on k)) (fun _ s30 _ => l.length - (intOf s30).toNat)
        case atStart => exact ⟨b0, 0, rfl, rfl, by omega, Below.refl _ _, HB0.out⟩
        case round =>
          clear HB0
          obtain ⟨bb, k, rfl, rfl, hk, HB, HV2⟩ := hrel
          by_cases hlt : k < l.length
          · have hcl : (k : Int) < (l.length : Int) := by omega
            obtain ⟨b, o, rfl, hd⟩ := dt_at (HD.out.ext HB.out) hlt
            have HVS := Lib.hid (VOk.succ (on := on) hlt)
            generalize l[k] = x at hd HVS
            obtain ⟨nm, wh, fr, tl, el, tn, tu, tr⟩ := x
            obtain ⟨c0, c1, c2, c3, c4, c5, c6, c7⟩ := hd
            simp only at c0 c1 c2 c3 c4 c5 c6 c7
            have HX := Lib.hid (ext_alloc wr (.cells #[.string ⟨nm.toArray⟩, .string ⟨wh.toArray⟩, .int .i64 fr, .int .i64 tl, .string ⟨el.toArray⟩, .int .i64 tn, .int .i64 tu, .int .i64 tr] 128))
            cases bb
            · have HF := Lib.hid (HV2.out.1 rfl)
              by_cases g1 : Gd fr
              · have HA := Lib.hid g1
                clear g1
                by_cases g2 : Gd tl
                · have HBd := Lib.hid g2
                  clear g2
                  by_cases g3 : tl < fr
                  · skip
                    go_wp2_with fail
                    refine (day_yes _ HA.out _).mono ?_
                    rintro e w' ⟨rfl, rfl⟩
                    go_wp2_with fail
                    refine (day_yes _ HBd.out _).mono ?_
                    rintro e w' ⟨rfl, rfl⟩
                    go_wp2_with fail
                    go_roundw
                    case rel =>
                      refine ⟨_, k + 1, rfl, by go_num, by omega, ext_trans HB.out HX.out, ?_⟩
                      show _ ↔ _; rw [HVS.out]; simp [DOk]; omega
                    case measure => simp [intOf]; omega
                  · skip
                    go_wp2_with fail
                    refine (day_yes _ HA.out _).mono ?_
                    rintro e w' ⟨rfl, rfl⟩
                    go_wp2_with fail
                    refine (day_yes _ HBd.out _).mono ?_
                    rintro e w' ⟨rfl, rfl⟩
                    go_wp2_with fail
                    go_roundw
                    case rel =>
                      refine ⟨_, k + 1, rfl, by go_num, by omega, ext_trans HB.out HX.out, ?_⟩
                      show _ ↔ _; rw [HVS.out]; simp [DOk, HF.out, HA.out, HBd.out]
                    case measure => simp [intOf]; omega
                · have HBd := Lib.hid g2
                  clear g2
                  go_wp2_with fail
                  refine (day_yes _ HA.out _).mono ?_
                  rintro e w' ⟨rfl, rfl⟩
                  go_wp2_with fail
                  refine (day_no _ HBd.out _).mono ?_
                  rintro e w' ⟨rfl, rfl⟩
                  go_wp2_with fail
                  go_roundw
                  case rel =>
                    refine ⟨_, k + 1, rfl, by go_num, by omega, ext_trans HB.out HX.out, ?_⟩
                    show _ ↔ _; rw [HVS.out]; simp [DOk, HBd.out]
                  case measure => simp [intOf]; omega
              · have HA := Lib.hid g1
                clear g1
                go_wp2_with fail
                refine (day_no _ HA.out _).mono ?_
                rintro e w' ⟨rfl, rfl⟩
                go_wp2_with fail
                go_roundw
                case rel =>
                  refine ⟨_, k + 1, rfl, by go_num, by omega, ext_trans HB.out HX.out, ?_⟩
                  show _ ↔ _; rw [HVS.out]; simp [DOk, HA.out]
                case measure => simp [intOf]; omega
            · have HF := Lib.hid (show ¬ VOk l on k from fun h => by have := HV2.out.2 h; cases this)
              go_wp2_with fail
              go_roundw
              case rel =>
                refine ⟨_, k + 1, rfl, by go_num, by omega, ext_trans HB.out HX.out, ?_⟩
                show _ ↔ _; rw [HVS.out]; simp [HF.out]
              case measure => simp [intOf]; omega
          · have hcl : ¬ (k : Int) < (l.length : Int) := by omega
            obtain rfl : l.length = k := by omega
            have g3 := cell_ext HB.out HG3.out
            cases bb
            · have HF := Lib.hid (HV2.out.1 rfl)
              go_wp2_with fail
              refine (containsE_s es (by omega) EA ec _ (HV.out.ext HB.out)).mono ?_
              rintro e w2 ⟨⟨b2, rfl, hb2⟩, hb⟩
              have HB2 := Lib.hid (ext_trans HB.out hb)
              have g3 := cell_ext hb g3
              cases b2
              · have HEG := Lib.hid (show EG es from Classical.byContradiction fun q => by have := hb2.2 q; cases this)
                have HBd := Lib.hid (show codeV c l es on = firstBad c l from codeV_due HSm.out ⟨HF.out, HEG.out⟩)
                clear hb g3 HV2 hb2
                obtain ⟨w1, hw1⟩ : ∃ w1, w1 = w2 := ⟨_, rfl⟩
                subst hw1
                go_wp2_with fail
                go_loopw [63] (fun s63 wi => ∃ k : Nat, s63 = .int .i64 k ∧ k ≤ l.length ∧ Hid (Below w.heap.size w wi) ∧ Hid (DueOk c (l.take k))) (fun s63 _ => l.length - (intOf s63).toNat)
                case atStart => exact ⟨0, rfl, by omega, HB2.out, fun x hx => by simp at hx⟩
                case round =>
                  clear HB HB2 hk hcl hlt
                  obtain ⟨k, rfl, hk, HB, HDo⟩ := hrel
                  by_cases hlt : k < l.length
                  · have hcl : (k : Int) < (l.length : Int) := by omega
                    obtain ⟨b, o, rfl, hd⟩ := dt_at (HD.out.ext HB.out) hlt
                    have HM := Lib.hid (List.getElem_mem hlt)
                    have HNx := Lib.hid (fun (g : l[k].els ≠ [] → (dueF c l[k]).2 = 0) => HDo.out.succ hlt g)
                    have HAt := Lib.hid (fun (h1 : l[k].els ≠ []) (h2 : (dueF c l[k]).2 ≠ 0) => bad_at hlt HDo.out h1 h2)
                    generalize l[k] = x at hd HM HNx HAt
                    obtain ⟨nm, wh, fr, tl, el, tn, tu, tr⟩ := x
                    have htl : Gd tl := (HF.out.2 _ (show (⟨nm, wh, fr, tl, el, tn, tu, tr⟩ : Dt) ∈ l.take l.length by rw [List.take_of_length_le (by omega)]; exact HM.out)).2.1
                    have ht1 := htl.1
                    have ht2 := htl.2
                    clear htl
                    obtain ⟨c0, c1, c2, c3, c4, c5, c6, c7⟩ := hd
                    simp only at c0 c1 c2 c3 c4 c5 c6 c7
                    have HX := Lib.hid (ext_alloc wr (.cells #[.string ⟨nm.toArray⟩, .string ⟨wh.toArray⟩, .int .i64 fr, .int .i64 tl, .string ⟨el.toArray⟩, .int .i64 tn, .int .i64 tu, .int .i64 tr] 128))
                    have HB3 := Lib.hid (ext_trans HB.out HX.out)
                    cases el with
                    | nil =>
                      go_wp2_with fail
                      go_roundw
                      case rel => exact ⟨k + 1, by go_num, by omega, HB3.out, HNx.out (fun h => absurd rfl h)⟩
                      case measure => simp [intOf]; omega
                    | cons e0 er =>
                      go_wp2_with fail
                      refine (pdue_any c HOK.out cb co H hc (tl + 1) tn tu tr A _ (HC.out.ext HB3.out) (HE.out.below HB3.out)).mono ?_
                      rintro e w4 ⟨o4, ho4, rfl, hb4⟩
                      have HB4 := Lib.hid (ext_trans HB3.out hb4)
                      have HDu := Lib.hid (due_eq (x := ⟨nm, wh, fr, tl, e0 :: er, tn, tu, tr⟩) ho4)
                      clear hb4 ho4 c0 c1 c2 c3 c4 c5 c6 c7
                      obtain ⟨o1, o2⟩ := o4
                      by_cases z : o2 = 0
                      · subst z
                        rw [errC_zero]
                        go_wp2_with fail
                        go_roundw
                        case rel => exact ⟨k + 1, by go_num, by omega, HB4.out, HNx.out (fun _ => by rw [HDu.out])⟩
                        case measure => simp [intOf]; omega
                      · have HZ := Lib.hid (show errC A (codeV c l es on) = errV (A (o2 - 1).toNat) by rw [HBd.out, HAt.out (by simp) (by rw [HDu.out]; exact z), HDu.out]; unfold errC; rw [if_neg z])
                        have hx : errC A o2 = errV (A (o2 - 1).toNat) := by unfold errC; rw [if_neg z]
                        obtain ⟨ea, hea⟩ : ∃ ea, ea = A (o2 - 1).toNat := ⟨_, rfl⟩
                        rw [← hea] at HZ hx
                        rw [hx]
                        unfold errV
                        clear hx hea
                        go_wp2_with fail
                        go_ret
                        exact ⟨by rw [HZ.out]; rfl, HB4.out⟩
                  · have hcl : ¬ (k : Int) < (l.length : Int) := by omega
                    go_wp2_with fail
                    go_ret
                    exact ⟨by rw [HBd.out, bad_none (HDo.out.full (by omega)), errC_zero]; rfl, HB.out⟩
              · have HNE := Lib.hid (show codeV c l es on = 4 from codeV_four HSm.out fun q => hb2.1 rfl q.2)
                clear hb hb2
                go_wp2_with fail
                go_ret
                exact ⟨by rw [HNE.out, errC_four]; rfl, HB2.out⟩
            · have HF := Lib.hid (show ¬ VOk l on l.length from fun h => by have := HV2.out.2 h; cases this)
              go_wp2_with fail
              go_ret
              exact ⟨by rw [codeV_four HSm.out (fun q => HF.out q.1), errC_four]; rfl, HB.out⟩
end Go.Proofs.YtcpcejmlnhflpaaGreatDoor.Dut
namespace Go.Proofs.YtcpcejmlnhflpaaGreatDoor.Dut
open Go.RowKit Mem Nest Sol App CdP CdM Solve Err

def DsPost (c : Cd) (l : List Dt) (es : List Ev) (on : Int) (w : World) (e : Ending) (w' : World) : Prop :=
  ∃ (A : Option Addr) (cc : Nat), e = .returned (.slice A (statesF c l es on).length cc) ∧ Rd w' A ((statesF c l es on).flatMap roCells) ∧ Below w.heap.size w w'
theorem more_all (c : Cd) (es : List Ev) (on : Int) (B : List Ro) : (moreR c es on B).length ≤ B.length := by
  have := more_len c es on B B.length (Nat.le_refl _)
  rw [List.take_length] at this
  exact this
theorem states_len (c : Cd) (l : List Dt) (es : List Ev) (on : Int) : (statesF c l es on).length ≤ 2 * l.length := by
  unfold statesF
  have h1 := base_len l es on
  have h2 := more_all c es on (baseR l es on)
  rw [List.length_append]
  omega
theorem one_yes {c : Cd} {es : List Ev} {on : Int} {nm wh el : List UInt8} {fr tl tn tu tr rs rd ro o1 o2 : Int} {k : Nat} (h : Needs ⟨⟨nm, wh, fr, tl, el, tn, tu, tr⟩, rs, rd, ro⟩ on) (hd : dueF c ⟨nm, wh, fr, tl, el, tn, tu, tr⟩ = (o1, o2)) : oneM c es on ⟨⟨nm, wh, fr, tl, el, tn, tu, tr⟩, rs, rd, ro⟩ k = [⟨⟨el, wh, tl + 1, o1, [], 0, 0, 0⟩, (stP ⟨el, wh, tl + 1, o1, [], 0, 0, 0⟩ es on).1, (stP ⟨el, wh, tl + 1, o1, [], 0, 0, 0⟩ es on).2, k⟩] := by
  unfold oneM elseD
  rw [if_pos h]
  simp only [hd]
theorem one_no {c : Cd} {es : List Ev} {on : Int} {r : Ro} {k : Nat} (h : ¬ Needs r on) : oneM c es on r k = [] := by
  unfold oneM
  rw [if_neg h]
set_option maxRecDepth 100000 in
set_option maxHeartbeats 8000000 in
theorem dstates_s (l : List Dt) (hl : l.length ≤ 1000) (es : List Ev) (he : es.length ≤ 1000) (c : Cd) (ok : CdOk c) (cb co : Nat) (H : Option Addr) (hc : Nat) (on : Int) (A : Nat → Addr) (LA EA : Option Addr) (lc ec : Nat) (w : World)
    (hd : Rd w LA (l.flatMap dtCells)) (hv : Rd w EA (es.flatMap evCells)) (hC : CdA w cb co c H hc) (hE : E3 w A) (hok : VOk l on l.length) :
    Calls Tryz.prog 56 #[.slice LA l.length lc, .slice EA es.length ec, .pointer (some ⟨cb, co, none⟩), .int .i64 on] w (DsPost c l es on w) := by
  have HD := Lib.hid hd
  have HV := Lib.hid hv
  have HC := Lib.hid hC
  have HE := Lib.hid hE
  have HOK := Lib.hid ok
  have HVO := Lib.hid hok
  obtain ⟨i0, hi, hz0, hz1, hz2⟩ := info_parts state_info
  have HI := Lib.hid hi
  have HZ0 := Lib.hid hz0
  have HZ1 := Lib.hid hz1
  have HZ2 := Lib.hid hz2
  clear hd hv hC hE ok hok hi hz0 hz1 hz2
  go_enter Tryz.func56, Tryz.ntmps56
  go_wp2_with fail
  go_loopw [9, 20] (fun s9 s20 wr => ∃ k : Nat, s20 = .int .i64 k ∧ k ≤ l.length ∧ Hid (Below w.heap.size w wr) ∧ Hid (wr.ownsRow w.heap.size 130 11 s9 (baseR (l.take k) es on).length ((baseR (l.take k) es on).flatMap roCells))) (fun _ s20 _ => l.length - (intOf s20).toNat)
  case atStart => exact ⟨0, rfl, Nat.zero_le _, Below.refl _ _, World.ownsRow_nil _ _ _ _⟩
  case round =>
    obtain ⟨k, rfl, hk, HB, HO⟩ := hrel
    by_cases hlt : k < l.length
    · have hcl : (k : Int) < (l.length : Int) := by omega
      obtain ⟨b, o, rfl, hd⟩ := dt_at (HD.out.ext HB.out) hlt
      have HT := Lib.hid (base_take l es on k hlt)
      have hbl : (baseR (l.take k) es on).length ≤ k := by
        have := base_len (l.take k) es on
        rw [List.length_take] at this
        omega
      generalize baseR (l.take k) es on = R at HO HT hbl
      generalize l[k] = x at hd HT
      obtain ⟨nm, wh, fr, tl, el, tn, tu, tr⟩ := x
      obtain ⟨c0, c1, c2, c3, c4, c5, c6, c7⟩ := hd
      simp only at c0 c1 c2 c3 c4 c5 c6 c7
      have HX := Lib.hid (ext_alloc wr (.cells #[.string ⟨nm.toArray⟩, .string ⟨wh.toArray⟩, .int .i64 fr, .int .i64 tl, .string ⟨el.toArray⟩, .int .i64 tn, .int .i64 tu, .int .i64 tr] 128))
      have HBX := Lib.hid (ext_trans HB.out HX.out)
      by_cases hf : fr ≤ on
      · have HFr := Lib.hid hf
        go_wp2_with fail
        refine (state_any nm wh fr tl el tn tu tr on es (by omega) EA ec _ (HV.out.ext HBX.out)).mono ?_
        rintro e w1 ⟨rfl, hb⟩
        have HB1 := Lib.hid (ext_trans HBX.out hb)
        have HO1 := Lib.hid (own_ext HO.out (ext_trans HX.out hb))
        clear hb c0 c1 c2 c3 c4 c5 c6 c7
        have HT2 := HT.out
        rw [if_pos HFr.out] at HT2
        have HT := Lib.hid HT2
        clear HT2
        generalize (stP ⟨nm, wh, fr, tl, el, tn, tu, tr⟩ es on).1 = s1 at *
        generalize (stP ⟨nm, wh, fr, tl, el, tn, tu, tr⟩ es on).2 = s2 at *
        go_wp2_with (at_builtin; refine wpList_append_own _ rfl _ _ _ rfl w.heap.size 130 i0 _ 11 112 Tryz.underlying65 HI.out HZ0.out HZ1.out HZ2.out rfl (by omega) u9 R.length _ rfl (World.ownsRow.alloc HO1.out _) ⟨w1.heap.size, 0, none⟩ 1 1 (roCells ⟨⟨nm, wh, fr, tl, el, tn, tu, tr⟩, s1, s2, -1⟩) rfl rfl (new_cells w1 (roCells ⟨⟨nm, wh, fr, tl, el, tn, tu, tr⟩, s1, s2, -1⟩) _ _ rfl) (ros_one _) (by simp only [maxLen]; omega) (by omega) (by have := HB1.out.size; simp; omega) ?_; intro v1 w2 hown hg _; obtain ⟨A1, c1, hv1, _⟩ := own_slice hown; subst hv1; have HO2 := Lib.hid hown; have HB2 := Lib.hid (Below.grown (ext_trans HB1.out (ext_alloc w1 _)) hg (by have := HB1.out.size; simp; omega) (fun g hg => (HO1.out.lt g hg).1)); clear hown hg)
        go_roundw
        case rel =>
          refine ⟨k + 1, by go_num, by omega, HB2.out, ?_⟩
          have ho := HO2.out
          show World.ownsRow _ _ _ _ _ _ _
          rw [HT.out, List.flatMap_append, List.length_append]
          simpa using ho
        case measure => simp [intOf] <;> omega
      · have HFr := Lib.hid hf
        have HT2 := HT.out
        rw [if_neg HFr.out, List.append_nil] at HT2
        have HT := Lib.hid HT2
        clear HT2
        go_wp2_with fail
        go_roundw
        case rel =>
          refine ⟨k + 1, by go_num, by omega, HBX.out, ?_⟩
          show World.ownsRow _ _ _ _ _ _ _
          rw [HT.out]
          exact own_ext HO.out HX.out
        case measure => simp [intOf] <;> omega
    · have hcl : ¬ (k : Int) < (l.length : Int) := by omega
      obtain rfl : l.length = k := by omega
      rw [List.take_length] at HO
      have hbl := base_len l es on
      have HBM := Lib.hid (fun r (h : r ∈ baseR l es on) => base_mem h)
      obtain ⟨B, hB⟩ : ∃ B, B = baseR l es on := ⟨_, rfl⟩
      rw [← hB] at HO hbl HBM
      have HBe := Lib.hid hB
      clear hB
      obtain ⟨A0, c0, rfl, hc1, hc2⟩ := own_slice HO.out
      have HOF := Lib.hid (own_off HO.out)
      have HR0 := Lib.hid (Rd.of_own HO.out)
      have hBn : B.length ≤ 9223372036854775807 := by omega
      go_wp2_with fail
      go_loopw [9, 38] (fun s9 s38 wi => ∃ k : Nat, s38 = .int .i64 k ∧ k ≤ B.length ∧ Hid (Below w.heap.size w wi) ∧ Hid (wi.ownsRow w.heap.size 130 11 s9 (B.length + (moreR c es on (B.take k)).length) ((B ++ moreR c es on (B.take k)).flatMap roCells)) ∧ Hid (Rd wi A0 (B.flatMap roCells))) (fun _ s38 _ => B.length - (intOf s38).toNat)
      case atStart => exact ⟨0, rfl, Nat.zero_le _, HB.out, by show World.ownsRow _ _ _ _ _ _ _; simpa [more_nil] using HO.out, HR0.out⟩
      case round =>
        clear HB HO HR0 hk hcl hlt
        obtain ⟨k, rfl, hk, HB, HO, HR⟩ := hrel
        by_cases hlt : k < B.length
        · have hcl : (k : Int) < (B.length : Int) := by omega
          obtain ⟨b, o, rfl, hd, c8, c9, c10⟩ := ro_at HR.out hlt
          have HMl := Lib.hid (HBM.out _ (List.getElem_mem hlt))
          have HTK := Lib.hid (more_take (c := c) (es := es) (on := on) hlt)
          have hm := more_len c es on B k (by omega)
          generalize moreR c es on (B.take k) = more at HO HTK hm
          generalize B[k] = r at hd c8 c9 c10 HMl HTK
          obtain ⟨⟨nm, wh, fr, tl, el, tn, tu, tr⟩, rs, rd, ro⟩ := r
          obtain ⟨c0, c1, c2, c3, c4, c5, c6, c7⟩ := hd
          simp only at c0 c1 c2 c3 c4 c5 c6 c7 c8 c9 c10 HMl HTK
          have htl : Gd tl := (HVO.out.2 _ (show (⟨nm, wh, fr, tl, el, tn, tu, tr⟩ : Dt) ∈ l.take l.length by rw [List.take_length]; exact HMl.out)).2.1
          have ht1 := htl.1
          have ht2 := htl.2
          clear htl
          have hx1 := ext_alloc wr (.cells #[.string ⟨nm.toArray⟩, .string ⟨wh.toArray⟩, .int .i64 fr, .int .i64 tl, .string ⟨el.toArray⟩, .int .i64 tn, .int .i64 tu, .int .i64 tr, .int .i64 rs, .int .i64 rd, .int .i64 ro] 130)
          have HX := Lib.hid (ext_trans hx1 (ext_alloc (wr.alloc (.cells #[.string ⟨nm.toArray⟩, .string ⟨wh.toArray⟩, .int .i64 fr, .int .i64 tl, .string ⟨el.toArray⟩, .int .i64 tn, .int .i64 tu, .int .i64 tr, .int .i64 rs, .int .i64 rd, .int .i64 ro] 130)) (.cells #[.string ⟨nm.toArray⟩, .string ⟨wh.toArray⟩, .int .i64 fr, .int .i64 tl, .string ⟨el.toArray⟩, .int .i64 tn, .int .i64 tu, .int .i64 tr] 128)))
          have HK := Lib.hid (show Blk ((wr.alloc (.cells #[.string ⟨nm.toArray⟩, .string ⟨wh.toArray⟩, .int .i64 fr, .int .i64 tl, .string ⟨el.toArray⟩, .int .i64 tn, .int .i64 tu, .int .i64 tr, .int .i64 rs, .int .i64 rd, .int .i64 ro] 130)).alloc (.cells #[.string ⟨nm.toArray⟩, .string ⟨wh.toArray⟩, .int .i64 fr, .int .i64 tl, .string ⟨el.toArray⟩, .int .i64 tn, .int .i64 tu, .int .i64 tr] 128)) (wr.heap.size + 1) 128 [.string ⟨nm.toArray⟩, .string ⟨wh.toArray⟩, .int .i64 fr, .int .i64 tl, .string ⟨el.toArray⟩, .int .i64 tn, .int .i64 tu, .int .i64 tr] by simpa using Blk.new (wr.alloc (.cells #[.string ⟨nm.toArray⟩, .string ⟨wh.toArray⟩, .int .i64 fr, .int .i64 tl, .string ⟨el.toArray⟩, .int .i64 tn, .int .i64 tu, .int .i64 tr, .int .i64 rs, .int .i64 rd, .int .i64 ro] 130)) 128 [.string ⟨nm.toArray⟩, .string ⟨wh.toArray⟩, .int .i64 fr, .int .i64 tl, .string ⟨el.toArray⟩, .int .i64 tn, .int .i64 tu, .int .i64 tr])
          clear hx1
          go_upto_region 12 with fail
          go_cut [64] (fun s64 wx => (wr.alloc (.cells #[.string ⟨nm.toArray⟩, .string ⟨wh.toArray⟩, .int .i64 fr, .int .i64 tl, .string ⟨el.toArray⟩, .int .i64 tn, .int .i64 tu, .int .i64 tr, .int .i64 rs, .int .i64 rd, .int .i64 ro] 130)).alloc (.cells #[.string ⟨nm.toArray⟩, .string ⟨wh.toArray⟩, .int .i64 fr, .int .i64 tl, .string ⟨el.toArray⟩, .int .i64 tn, .int .i64 tu, .int .i64 tr] 128) = wx ∧ ∃ q : Bool, s64 = .bool q ∧ Hid (q = false ↔ Needs ⟨⟨nm, wh, fr, tl, el, tn, tu, tr⟩, rs, rd, ro⟩ on))
          case first =>
            by_cases z3 : rs = 3
            · subst z3
              cases el with
              | nil =>
                go_wp2_with fail
                go_meet
                exact ⟨rfl, _, rfl, by show _ ↔ _; simp [Needs, *]⟩
              | cons e0 er =>
                by_cases z : on < tl + 1
                · go_wp2_with fail
                  go_meet
                  exact ⟨rfl, _, rfl, by show _ ↔ _; simp [Needs] <;> omega⟩
                · go_wp2_with fail
                  go_meet
                  exact ⟨rfl, _, rfl, by show _ ↔ _; simp [Needs] <;> omega⟩
            · have q3 : (rs == 3) = false := by rw [beq_eq_false_iff_ne]; exact z3
              by_cases z2 : rs = 2
              · subst z2
                cases el with
                | nil =>
                  go_wp2_with fail
                  go_meet
                  exact ⟨rfl, _, rfl, by show _ ↔ _; simp [Needs, *]⟩
                | cons e0 er =>
                  by_cases z : on < tl + 1
                  · go_wp2_with fail
                    go_meet
                    exact ⟨rfl, _, rfl, by show _ ↔ _; simp [Needs] <;> omega⟩
                  · go_wp2_with fail
                    go_meet
                    exact ⟨rfl, _, rfl, by show _ ↔ _; simp [Needs] <;> omega⟩
              · have q2 : (rs == 2) = false := by rw [beq_eq_false_iff_ne]; exact z2
                go_wp2_with fail
                go_meet
                exact ⟨rfl, _, rfl, by show _ ↔ _; simp [Needs, *]⟩
          case rest =>
            obtain ⟨hww, q, rfl, HQ⟩ := hcut
            subst hww
            have HBX := Lib.hid (ext_trans HB.out HX.out)
            clear c0 c1 c2 c3 c4 c5 c6 c7 c8 c9 c10
            have x0 := HK.out.cell 0 rfl
            have x1 := HK.out.cell 1 rfl
            have x2 := HK.out.cell 2 rfl
            have x3 := HK.out.cell 3 rfl
            have x4 := HK.out.cell 4 rfl
            have x5 := HK.out.cell 5 rfl
            have x6 := HK.out.cell 6 rfl
            have x7 := HK.out.cell 7 rfl
            cases q
            · have HNd := Lib.hid (HQ.out.1 rfl)
              clear HQ
              go_wp2_with fail
              refine (pdue_any c HOK.out cb co H hc (tl + 1) tn tu tr A _ (HC.out.ext HBX.out) (HE.out.below HBX.out)).mono ?_
              rintro e w4 ⟨⟨o1, o2⟩, hdu, rfl, hb4⟩
              have HTL := Lib.hid (HTK.out.trans (by rw [one_yes HNd.out (due_eq (x := ⟨nm, wh, fr, tl, el, tn, tu, tr⟩) hdu)]))
              clear hdu HTK
              have HK4 := Lib.hid (Sol.blk_ext HK.out hb4)
              have HX4 := Lib.hid (ext_trans HX.out hb4)
              have HB4 := Lib.hid (ext_trans HB.out HX4.out)
              clear hb4 x0 x1 x2 x3 x4 x5 x6 x7
              have x0 := HK4.out.cell 0 rfl
              have x1 := HK4.out.cell 1 rfl
              have x2 := HK4.out.cell 2 rfl
              have x3 := HK4.out.cell 3 rfl
              have x4 := HK4.out.cell 4 rfl
              have x5 := HK4.out.cell 5 rfl
              have x6 := HK4.out.cell 6 rfl
              have x7 := HK4.out.cell 7 rfl
              generalize errC A o2 = ev
              go_wp2_with fail
              refine (state_any el wh (tl + 1) o1 [] 0 0 0 on es (by omega) EA ec _ (HV.out.ext HB4.out)).mono ?_
              rintro e w5 ⟨rfl, hb5⟩
              have HX5 := Lib.hid (ext_trans HX4.out hb5)
              have HB5 := Lib.hid (ext_trans HB.out HX5.out)
              clear hb5 x0 x1 x2 x3 x4 x5 x6 x7
              generalize (stP ⟨el, wh, tl + 1, o1, [], 0, 0, 0⟩ es on).1 = s1 at *
              generalize (stP ⟨el, wh, tl + 1, o1, [], 0, 0, 0⟩ es on).2 = s2 at *
              have HX6 := Lib.hid (show Below wr.heap.size wr (w5.alloc (.cells #[.string ⟨el.toArray⟩, .string ⟨wh.toArray⟩, .int .i64 (tl + 1), .int .i64 o1, .string ⟨#[]⟩, .int .i64 0, .int .i64 0, .int .i64 0, .int .i64 s1, .int .i64 s2, .int .i64 k] 130)) from ext_trans HX5.out (ext_alloc w5 _))
              have HB6 := Lib.hid (ext_trans HB.out HX6.out)
              have HO6 := Lib.hid (own_ext HO.out HX6.out)
              have HR6 := Lib.hid (HR.out.ext HX6.out)
              go_wp2_with (at_builtin; refine wpList_append_keep _ rfl _ _ _ rfl w.heap.size 130 i0 _ 11 112 Tryz.underlying65 HI.out HZ0.out HZ1.out HZ2.out rfl (by omega) u9 (B.length + more.length) _ rfl (World.ownsRow.alloc HO6.out _) ⟨w5.heap.size + 1, 0, none⟩ 1 1 (roCells ⟨⟨el, wh, tl + 1, o1, [], 0, 0, 0⟩, s1, s2, k⟩) rfl rfl (new_cells (w5.alloc (.cells #[.string ⟨el.toArray⟩, .string ⟨wh.toArray⟩, .int .i64 (tl + 1), .int .i64 o1, .string ⟨#[]⟩, .int .i64 0, .int .i64 0, .int .i64 0, .int .i64 s1, .int .i64 s2, .int .i64 k] 130)) (roCells ⟨⟨el, wh, tl + 1, o1, [], 0, 0, 0⟩, s1, s2, k⟩) _ _ (by simp)) (ros_one _) (by simp only [maxLen]; omega) (by omega) (by have := HB6.out.size; simp at this ⊢; omega) ?_; intro v1 w7 hown hg hkp; obtain ⟨A1, c1, hv1, _⟩ := own_slice hown; subst hv1; have HO7 := Lib.hid hown; have HB7 := Lib.hid (Below.grown (ext_trans HB6.out (ext_alloc (w5.alloc (.cells #[.string ⟨el.toArray⟩, .string ⟨wh.toArray⟩, .int .i64 (tl + 1), .int .i64 o1, .string ⟨#[]⟩, .int .i64 0, .int .i64 0, .int .i64 0, .int .i64 s1, .int .i64 s2, .int .i64 k] 130)) _)) hg (by have := HB6.out.size; simp at this ⊢; omega) (fun g hg => (HO6.out.lt g hg).1)); have HR7 := Lib.hid (rd_keep List.flatMap_append (HR6.out.ext (ext_alloc (w5.alloc (.cells #[.string ⟨el.toArray⟩, .string ⟨wh.toArray⟩, .int .i64 (tl + 1), .int .i64 o1, .string ⟨#[]⟩, .int .i64 0, .int .i64 0, .int .i64 0, .int .i64 s1, .int .i64 s2, .int .i64 k] 130)) _)) HOF.out hg hkp); clear hown hg hkp)
              go_roundw
              case rel =>
                refine ⟨k + 1, by go_num, by omega, HB7.out, ?_, HR7.out⟩
                have ho := HO7.out
                show World.ownsRow _ _ _ _ _ _ _
                rw [HTL.out]
                have e1 : B.length + (more ++ [(⟨⟨el, wh, tl + 1, o1, [], 0, 0, 0⟩, s1, s2, k⟩ : Ro)]).length = B.length + more.length + 1 := by rw [List.length_append]; rfl
                have e2 : (B ++ (more ++ [(⟨⟨el, wh, tl + 1, o1, [], 0, 0, 0⟩, s1, s2, k⟩ : Ro)])).flatMap roCells = (B ++ more).flatMap roCells ++ roCells ⟨⟨el, wh, tl + 1, o1, [], 0, 0, 0⟩, s1, s2, k⟩ := by rw [← List.append_assoc, List.flatMap_append]; simp
                rw [e1, e2]
                exact ho
              case measure => simp [intOf] <;> omega
            · have HTL := Lib.hid (HTK.out.trans (by rw [one_no (fun h => by have := HQ.out.2 h; cases this), List.append_nil]))
              clear HQ HTK x0 x1 x2 x3 x4 x5 x6 x7
              go_wp2_with fail
              go_roundw
              case rel => exact ⟨k + 1, by go_num, by omega, HBX.out, by show World.ownsRow _ _ _ _ _ _ _; rw [HTL.out]; exact own_ext HO.out HX.out, HR.out.ext HX.out⟩
              case measure => simp [intOf] <;> omega
        · have hcl : ¬ (k : Int) < (B.length : Int) := by omega
          obtain rfl : B.length = k := by omega
          have HSF := Lib.hid (show statesF c l es on = B ++ moreR c es on B by unfold statesF; rw [← HBe.out])
          rw [List.take_length] at HO
          obtain ⟨A1, c1, rfl, _, _⟩ := own_slice HO.out
          go_wp2_with fail
          go_ret
          show DsPost c l es on w _ _
          unfold DsPost
          rw [HSF.out]
          exact ⟨A1, c1, by rw [List.length_append]; rfl, Rd.of_own HO.out, HB.out⟩
end Go.Proofs.YtcpcejmlnhflpaaGreatDoor.Dut
namespace Go.Proofs.YtcpcejmlnhflpaaGreatDoor.Dut
open Go.RowKit Mem Nest Sol App CdP CdM Solve Err

theorem past_all {on : Int} {l : List Ev} (h : ∀ e ∈ l, e.day ≤ on) : pastF l on = l := by
  unfold pastF
  rw [List.filter_eq_self]
  exact fun e he => by simpa using h e he
theorem past_len (es : List Ev) (on : Int) : (pastF es on).length ≤ es.length := List.length_filter_le _ _
theorem set4 {α : Type} (cs : List α) (a : Nat) (x0 x1 x2 x3 : α) (h : a + 3 < cs.length) (t : Nat) : ((((cs.set a x0).set (a + 1) x1).set (a + 2) x2).set (a + 3) x3)[t]? = if t = a then some x0 else if t = a + 1 then some x1 else if t = a + 2 then some x2 else if t = a + 3 then some x3 else cs[t]? := by
  simp only [List.getElem?_set, List.length_set]
  by_cases h0 : t = a
  · subst h0; simp; omega
  · by_cases h1 : t = a + 1
    · subst h1; simp; omega
    · by_cases h2 : t = a + 2
      · subst h2; simp; omega
      · by_cases h3 : t = a + 3
        · subst h3; simp; omega
        · rw [if_neg (by omega), if_neg (by omega), if_neg (by omega), if_neg (by omega), if_neg h0, if_neg h1, if_neg h2, if_neg h3]
/-- the row behind some rounds: what is kept stands ahead, what is not yet looked at behind -/
structure KInv (es : List Ev) (on : Int) (N : Nat) (cs : List Value) (i j : Nat) : Prop where
  len : cs.length = N
  at_ : i = (pastF (es.take j) on).length
  le : i < j
  lo : ∀ (t : Nat) (u : Value), ((pastF (es.take j) on).flatMap evCells)[t]? = some u → cs[t]? = some u
  hi : ∀ (t : Nat) (u : Value), j * 4 ≤ t → (es.flatMap evCells)[t]? = some u → cs[t]? = some u
theorem KInv.skip {es : List Ev} {on : Int} {N : Nat} {cs : List Value} {i j : Nat} (h : KInv es on N cs i j) (hj : j < es.length) (hd : ¬ es[j].day ≤ on) : KInv es on N cs i (j + 1) := by
  have e : pastF (es.take (j + 1)) on = pastF (es.take j) on := by rw [past_take hj, if_neg hd, List.append_nil]
  exact ⟨h.len, by rw [e]; exact h.at_, by have := h.le; omega, by rw [e]; exact h.lo, fun t u ht hu => h.hi t u (by omega) hu⟩
theorem KInv.keep {es : List Ev} {on : Int} {N : Nat} {cs : List Value} {i j : Nat} (h : KInv es on N cs i j) (hj : j < es.length) (hN : es.length * 4 ≤ N) (hd : es[j].day ≤ on) : KInv es on N ((((cs.set (i * 4) (.int .i64 es[j].day)).set (i * 4 + 1) (.string ⟨es[j].name.toArray⟩)).set (i * 4 + 2) (.string ⟨es[j].who.toArray⟩)).set (i * 4 + 3) (.bool es[j].wv)) (i + 1) (j + 1) := by
  have e : pastF (es.take (j + 1)) on = pastF (es.take j) on ++ [es[j]] := by rw [past_take hj, if_pos hd]
  have hl := h.le
  have hla : i * 4 + 3 < cs.length := by rw [h.len]; omega
  have hfl : ((pastF (es.take j) on).flatMap evCells).length = i * 4 := by rw [flat_len evCells_len, ← h.at_]
  refine ⟨by simp [h.len], by rw [e, List.length_append, ← h.at_]; rfl, by omega, fun t u hu => ?_, fun t u ht hu => ?_⟩
  · rw [e, List.flatMap_append, List.getElem?_append, hfl] at hu
    rw [set4 cs _ _ _ _ _ hla]
    split at hu
    · rename_i hlt
      rw [if_neg (by omega), if_neg (by omega), if_neg (by omega), if_neg (by omega)]
      exact h.lo t u hu
    · rename_i hge
      obtain ⟨r, rfl⟩ : ∃ r, t = i * 4 + r := ⟨t - i * 4, by omega⟩
      rw [show i * 4 + r - i * 4 = r by omega] at hu
      simp only [List.flatMap_cons, List.flatMap_nil, List.append_nil, evCells] at hu
      match r, hu with
      | 0, hu => simpa using hu
      | 1, hu => simpa using hu
      | 2, hu => simpa using hu
      | 3, hu => simpa using hu
      | r + 4, hu => simp at hu
  · rw [set4 cs _ _ _ _ _ hla, if_neg (by omega), if_neg (by omega), if_neg (by omega), if_neg (by omega)]
    exact h.hi t u (by omega) hu
theorem KInv.start {es : List Ev} {on : Int} {N : Nat} {cs : List Value} {i : Nat} (hN : cs.length = N) (hc : ∀ (t : Nat) (u : Value), (es.flatMap evCells)[t]? = some u → cs[t]? = some u) (hi : i < es.length) (hd : ¬ es[i].day ≤ on) (ha : ∀ e ∈ es.take i, e.day ≤ on) : KInv es on N cs i (i + 1) := by
  have e : pastF (es.take (i + 1)) on = es.take i := by rw [past_take hi, if_neg hd, List.append_nil, past_all ha]
  refine ⟨hN, by rw [e, List.length_take]; omega, by omega, fun t u hu => ?_, fun t u _ hu => hc t u hu⟩
  rw [e] at hu
  refine hc t u ?_
  have : es.flatMap evCells = (es.take i).flatMap evCells ++ (es.drop i).flatMap evCells := by rw [← List.flatMap_append, List.take_append_drop]
  rw [this, List.getElem?_append_left (List.getElem?_eq_some_iff.1 hu).1]
  exact hu
set_option maxHeartbeats 1000000 in
theorem next1_any (xd : Int) (xn xw : List UInt8) (xv : Bool) (tb : Nat) (on : Int) (w : World) (ht : w.cell? ⟨tb, 0, none⟩ = some (.int .i64 on)) :
    Calls Tryz.prog 60 #[.agg #[.int .i64 xd, .string ⟨xn.toArray⟩, .string ⟨xw.toArray⟩, .bool xv], .pointer (some ⟨tb, 0, none⟩)] w fun e w' => e = .returned (.bool (decide (on < xd))) ∧ Below w.heap.size w w' := by
  have ht2 := cell_ext (ext_alloc w (.cells #[.int .i64 xd, .string ⟨xn.toArray⟩, .string ⟨xw.toArray⟩, .bool xv] 141)) ht
  go_enter Tryz.func60, Tryz.ntmps60
  go_wp2_with fail
  go_ret
  exact ⟨rfl, ext_alloc _ _⟩
def IdxPost (es : List Ev) (on : Int) (r : Int) : Prop := (r = -1 ∧ ∀ e ∈ es, e.day ≤ on) ∨ ∃ (i : Nat) (h : i < es.length), r = i ∧ ¬ es[i].day ≤ on ∧ ∀ e ∈ es.take i, e.day ≤ on
theorem up_succ {es : List Ev} {on : Int} {k : Nat} (h : ∀ e ∈ es.take k, e.day ≤ on) (hk : k < es.length) (g : es[k].day ≤ on) : ∀ e ∈ es.take (k + 1), e.day ≤ on := by
  intro e he
  rw [List.take_succ_eq_append_getElem hk] at he
  rcases List.mem_append.1 he with he | he
  · exact h e he
  · simp at he; rw [he]; exact g
set_option maxHeartbeats 1000000 in
theorem indexN_any (es : List Ev) (hl : es.length ≤ 1000) (A : Option Addr) (c : Nat) (tb : Nat) (on : Int) (w : World) (hr : Rd w A (es.flatMap evCells)) (ht : w.cell? ⟨tb, 0, none⟩ = some (.int .i64 on)) :
    Calls Tryz.prog 91 #[.slice A es.length c, .func (.func 60) #[] #[.pointer (some ⟨tb, 0, none⟩)]] w fun e w' => (∃ r : Int, e = .returned (.int .i64 r) ∧ IdxPost es on r) ∧ Below w.heap.size w w' := by
  have HR := Lib.hid hr
  have HT := Lib.hid ht
  clear hr ht
  go_enter Tryz.func91, Tryz.ntmps91
  go_wp2_with fail
  go_loopw [8] (fun i wr => ∃ k : Nat, k ≤ es.length ∧ i = .int .i64 k ∧ Hid (Below w.heap.size w wr) ∧ Hid (∀ e ∈ es.take k, e.day ≤ on)) (fun i _ => es.length - (intOf i).toNat)
  case atStart => exact ⟨0, Nat.zero_le _, rfl, Below.refl _ _, fun e he => by simp at he⟩
  case round =>
    obtain ⟨k, hk, rfl, HB, HU⟩ := hrel
    by_cases hlt : k < es.length
    · have HYes := Lib.hid (fun (g : es[k].day ≤ on) => up_succ HU.out hlt g)
      have HNo := Lib.hid (fun (g : ¬ es[k].day ≤ on) => (show IdxPost es on (k : Int) from .inr ⟨k, hlt, rfl, g, HU.out⟩))
      have hcl : (k : Int) < (es.length : Int) := by omega
      obtain ⟨b, o, rfl, c0, c1, c2, c3⟩ := ev_at (HR.out.ext HB.out) hlt
      generalize es[k] = x at c0 c1 c2 c3 HYes HNo
      obtain ⟨xd, xn, xw, xv⟩ := x
      simp only at c0 c1 c2 c3 HYes HNo
      go_wp2_with fail
      refine (next1_any xd xn xw xv tb on _ (cell_ext HB.out HT.out)).mono ?_
      rintro e w' ⟨rfl, hb⟩
      have HB2 := Lib.hid (ext_trans HB.out hb)
      clear hb c0 c1 c2 c3
      by_cases hg : on < xd
      · have HK := Lib.hid (HNo.out (by omega))
        rw [decide_eq_true hg]
        clear hg HYes HNo
        go_wp2_with fail
        go_ret
        exact ⟨⟨_, rfl, HK.out⟩, HB2.out⟩
      · have HK := Lib.hid (HYes.out (by omega))
        rw [decide_eq_false hg]
        clear hg HYes HNo
        go_wp2_with fail
        go_roundw
        case rel => exact ⟨k + 1, by omega, by go_num, HB2.out, HK.out⟩
        case measure => simp [intOf]; omega
    · have hcl : ¬ (k : Int) < (es.length : Int) := by omega
      have HK := Lib.hid (show ∀ e ∈ es, e.day ≤ on by have h := HU.out; rw [List.take_of_length_le (by omega)] at h; exact h)
      go_wp2_with fail
      go_ret
      exact ⟨⟨_, rfl, .inl ⟨rfl, HK.out⟩⟩, HB.out⟩
set_option maxRecDepth 100000 in
set_option maxHeartbeats 2000000 in
theorem cloneE_any (es : List Ev) (hl : es.length ≤ 1000) (A : Option Addr) (c : Nat) (w : World) (hr : Rd w A (es.flatMap evCells)) :
    Calls Tryz.prog 59 #[.slice A es.length c] w fun e w' => (∃ v, e = .returned v ∧ w'.ownsRow w.heap.size 141 4 v es.length (es.flatMap evCells)) ∧ Below w.heap.size w w' := by
  have HR := Lib.hid hr
  clear hr
  obtain ⟨i0, hi, hz0, hz1, hz2⟩ := info_parts event_info
  have HI := Lib.hid hi
  have HZ0 := Lib.hid hz0
  have HZ1 := Lib.hid hz1
  have HZ2 := Lib.hid hz2
  clear hi hz0 hz1 hz2
  have HNil : A = none → es = [] := fun h => by
    subst h
    cases es with
    | nil => rfl
    | cons e es => obtain ⟨_, _, h, _⟩ := HR.out 0 _ rfl; cases h
  have q : ∀ (w : World) (a : Option Addr) (n c n' c' : Nat), (binOp .eql 70 (.slice a n c) (.slice none n' c')).run Tryz.prog w = .ok (.bool a.isNone) w := fun w a n c n' c' => Lib.run_eql_slice_nil w _ _ a n c n' c' Tryz.underlying70
  cases A with
  | none =>
    obtain rfl := HNil rfl
    clear HNil
    go_enter Tryz.func59, Tryz.ntmps59
    go_wp2_with fail
    go_ret
    exact ⟨⟨_, rfl, World.ownsRow_nil _ _ _ _⟩, Below.refl _ _⟩
  | some a =>
    clear HNil
    go_enter Tryz.func59, Tryz.ntmps59
    go_wp2_with (at_builtin; refine wpList_append_own _ rfl _ _ 70 rfl w.heap.size 141 i0 _ 4 48 Tryz.underlying70 HI.out HZ0.out HZ1.out HZ2.out rfl (by omega) _ _ _ rfl (World.ownsRow_made w #[] 0 (Nat.le_refl _) (Nat.zero_le _) (by simp)) a es.length c (es.flatMap evCells) rfl ?qc1 ?qc2 ?qc3 ?qc4 ?qc5 ?qc6 ?_)
    case qc1 => exact flat_len evCells_len es
    case qc2 =>
      intro j u hj
      obtain ⟨b, o, e, hc⟩ := HR.out j u hj
      obtain rfl := Option.some.inj e
      rw [show (⟨b, o, none⟩ : Addr).add j = ⟨b, o + j, none⟩ from Addr.add_lit _ _ _]
      exact Lib.cell?_alloc_some _ hc
    case qc3 =>
      intro u hu
      obtain ⟨e, _, he⟩ := List.mem_flatMap.1 hu
      exact evs_one e u he
    case qc4 => rw [Nat.zero_add]; simp only [maxLen]; omega
    case qc5 => rw [Nat.zero_add]; omega
    case qc6 => simp
    intro v' w1 hown hgrow hnil
    have HO := Lib.hid hown
    have HB := Lib.hid (((Below.refl _ w).alloc (Nat.le_refl _) _).grown hgrow (by simp) (by intro k hk; simp [Value.ownBlock] at hk; omega))
    clear hown hgrow hnil
    go_wp2_with fail
    go_ret
    exact ⟨⟨_, rfl, by have h := HO.out; simpa using h⟩, HB.out⟩
end Go.Proofs.YtcpcejmlnhflpaaGreatDoor.Dut
namespace Go.Proofs.YtcpcejmlnhflpaaGreatDoor.Dut
open Go.RowKit Mem Nest Sol App CdP CdM Solve Err

theorem clear_many {P : Program} (w : World) (t e ty : TypeId) (z : Value) (ht : P.underlying t = some (.slice e)) (hv : ∀ w, (zeroValue e).run P w = .ok z w) (b o n c : Nat) (hn : 0 < n) (h1 : ∀ v ∈ (Builtin.zeroCells z.cells n).toList, v.oneCell' = true)
    (hc : ∀ j, j < (Builtin.zeroCells z.cells n).toList.length → (w.cell? ⟨b, o + j, none⟩).isSome = true) (hf : ∀ j, j < (Builtin.zeroCells z.cells n).toList.length → w.frozen? ⟨b, o + j, none⟩ = false) :
    (Builtin.clear_ #[t] ty #[.slice (some ⟨b, o, none⟩) n c]).run P w = .ok (.tuple #[]) (w.setCells b o (Builtin.zeroCells z.cells n).toList) := by
  have hst := run_storeCells_cells (P := P) b o (Builtin.zeroCells z.cells n).toList 0 w (by simpa using hc) (by simpa using hf) h1
  simp only [Nat.add_zero] at hst
  obtain ⟨m, rfl⟩ : ∃ m, n = m + 1 := ⟨n - 1, by omega⟩
  obtain ⟨zs, hzs⟩ : ∃ zs, (Builtin.zeroCells z.cells (m + 1)).toList = zs := ⟨_, rfl⟩
  rw [hzs] at hst ⊢
  simp [Builtin.clear_, run_underlying ht, hv, hzs, hst]
theorem blk_setCells {g : Nat} {T : TypeId} : ∀ (vs : List Value) (o : Nat) (w : World) (cs : List Value), Blk w g T cs → ∃ cs', Blk (w.setCells g o vs) g T cs' ∧ ∀ t, t < o → cs'[t]? = cs[t]?
  | [], _, _, cs, h => ⟨cs, h, fun _ _ => rfl⟩
  | v :: r, o, w, cs, h => by
    obtain ⟨cs', h1, h2⟩ := blk_setCells r (o + 1) _ _ (h.set o v)
    exact ⟨cs', h1, fun t ht => by rw [h2 t (by omega), List.getElem?_set_ne (by omega)]⟩
/-- what a store of four cells wants laid -/
theorem store4 {w : World} {g : Nat} {T : TypeId} {cs : List Value} (h : Blk w g T cs) {a : Nat} (ha : a + 3 < cs.length) (x0 x1 x2 x3 : Value) :
    ∃ y0 y1 y2 y3, w.cell? ⟨g, a, none⟩ = some y0 ∧ w.frozen? ⟨g, a, none⟩ = false ∧ (w.setCell ⟨g, a, none⟩ x0).cell? ⟨g, a + 1, none⟩ = some y1 ∧ (w.setCell ⟨g, a, none⟩ x0).frozen? ⟨g, a + 1, none⟩ = false ∧ ((w.setCell ⟨g, a, none⟩ x0).setCell ⟨g, a + 1, none⟩ x1).cell? ⟨g, a + 2, none⟩ = some y2 ∧ ((w.setCell ⟨g, a, none⟩ x0).setCell ⟨g, a + 1, none⟩ x1).frozen? ⟨g, a + 2, none⟩ = false ∧ (((w.setCell ⟨g, a, none⟩ x0).setCell ⟨g, a + 1, none⟩ x1).setCell ⟨g, a + 2, none⟩ x2).cell? ⟨g, a + 3, none⟩ = some y3 ∧ (((w.setCell ⟨g, a, none⟩ x0).setCell ⟨g, a + 1, none⟩ x1).setCell ⟨g, a + 2, none⟩ x2).frozen? ⟨g, a + 3, none⟩ = false ∧ Blk ((((w.setCell ⟨g, a, none⟩ x0).setCell ⟨g, a + 1, none⟩ x1).setCell ⟨g, a + 2, none⟩ x2).setCell ⟨g, a + 3, none⟩ x3) g T ((((cs.set a x0).set (a + 1) x1).set (a + 2) x2).set (a + 3) x3) := by
  have b1 := h.set a x0
  have b2 := b1.set (a + 1) x1
  have b3 := b2.set (a + 2) x2
  have e0 : cs[a]? = some (cs[a]'(by omega)) := List.getElem?_eq_getElem _
  have e1 : (cs.set a x0)[a + 1]? = some (cs[a + 1]'(by omega)) := by rw [List.getElem?_set_ne (by omega)]; exact List.getElem?_eq_getElem _
  have e2 : ((cs.set a x0).set (a + 1) x1)[a + 2]? = some (cs[a + 2]'(by omega)) := by rw [List.getElem?_set_ne (by omega), List.getElem?_set_ne (by omega)]; exact List.getElem?_eq_getElem _
  have e3 : (((cs.set a x0).set (a + 1) x1).set (a + 2) x2)[a + 3]? = some (cs[a + 3]'(by omega)) := by rw [List.getElem?_set_ne (by omega), List.getElem?_set_ne (by omega), List.getElem?_set_ne (by omega)]; exact List.getElem?_eq_getElem _
  exact ⟨_, _, _, _, h.cell a e0, h.free a, b1.cell (a + 1) e1, b1.free (a + 1), b2.cell (a + 2) e2, b2.free (a + 2), b3.cell (a + 3) e3, b3.free (a + 3), b3.set (a + 3) x3⟩
theorem below_set4 {w0 w : World} {base g a : Nat} (h : Below base w0 w) (hg : base ≤ g) (x0 x1 x2 x3 : Value) : Below base w0 ((((w.setCell ⟨g, a, none⟩ x0).setCell ⟨g, a + 1, none⟩ x1).setCell ⟨g, a + 2, none⟩ x2).setCell ⟨g, a + 3, none⟩ x3) :=
  RowKit.Below.setCell (p := ⟨g, a + 3, none⟩) (RowKit.Below.setCell (p := ⟨g, a + 2, none⟩) (RowKit.Below.setCell (p := ⟨g, a + 1, none⟩) (RowKit.Below.setCell (p := ⟨g, a, none⟩) h hg x0) hg x1) hg x2) hg x3
theorem zero_event (w : World) : (zeroValue 141).run Tryz.prog w = .ok (.agg #[.int .i64 0, .string ⟨#[]⟩, .string ⟨#[]⟩, .bool false]) w := by kernel_rfl
theorem zeros_one (n : Nat) : ∀ v ∈ (Builtin.zeroCells (Value.agg #[.int .i64 0, .string ⟨#[]⟩, .string ⟨#[]⟩, .bool false]).cells n).toList, v.oneCell' = true := by
  intro v hv
  unfold Builtin.zeroCells at hv
  rw [Array.toList_map, List.mem_map] at hv
  obtain ⟨i, _, rfl⟩ := hv
  show ((#[.int .i64 0, .string ⟨#[]⟩, .string ⟨#[]⟩, .bool false] : Array Value)[i % 4]!).oneCell' = true
  have h : i % 4 < 4 := Nat.mod_lt _ (by decide)
  generalize i % 4 = r at h
  match r, h with
  | 0, _ => rfl
  | 1, _ => rfl
  | 2, _ => rfl
  | 3, _ => rfl
  | r + 4, h => omega
theorem zeros_len (n : Nat) : (Builtin.zeroCells (Value.agg #[.int .i64 0, .string ⟨#[]⟩, .string ⟨#[]⟩, .bool false]).cells n).toList.length = n * 4 := by
  unfold Builtin.zeroCells
  rw [Array.toList_map, List.length_map, Array.toList_range, List.length_range]
  rfl
def DelPost (es : List Ev) (on : Int) (w0 : World) (e : Ending) (w' : World) : Prop := (∃ A c, e = .returned (.slice A (pastF es on).length c) ∧ Rd w' A ((pastF es on).flatMap evCells)) ∧ Below w0.heap.size w0 w'
set_option maxRecDepth 100000 in
set_option maxHeartbeats 8000000 in
theorem delete_any (es : List Ev) (hl : es.length ≤ 1000) (v : Value) (tb : Nat) (on : Int) (w0 w : World) (hB : Below w0.heap.size w0 w) (ho : w.ownsRow w0.heap.size 141 4 v es.length (es.flatMap evCells)) (ht : w0.cell? ⟨tb, 0, none⟩ = some (.int .i64 on)) :
    Calls Tryz.prog 58 #[v, .func (.func 60) #[] #[.pointer (some ⟨tb, 0, none⟩)]] w (DelPost es on w0) := by
  obtain ⟨A, c, rfl, _⟩ := own_slice ho
  have HR := Lib.hid (Rd.of_own ho)
  have HT := Lib.hid ht
  have HB := Lib.hid hB
  have HO := Lib.hid ho
  clear hB ho ht
  go_enter Tryz.func58, Tryz.ntmps58
  go_wp2_with fail
  refine (indexN_any es hl A c tb on _ HR.out (cell_ext HB.out HT.out)).mono ?_
  rintro e w1 ⟨⟨r, rfl, hr⟩, hb1⟩
  have HB1 := Lib.hid (HB.out.trans (hb1.mono HB.out.size))
  have HO1 := Lib.hid (own_ext HO.out hb1)
  clear hb1 HO HR HB
  rcases hr with ⟨rfl, hall⟩ | ⟨i0, hi0, rfl, hd0, ha0⟩
  · have HA := Lib.hid (past_all hall)
    clear hall
    go_wp2_with fail
    go_ret
    exact ⟨⟨A, c, by rw [HA.out]; rfl, by rw [HA.out]; exact Rd.of_own HO1.out⟩, HB1.out⟩
  · obtain ⟨g, cap, cur, hv, hbg, hg, hn1, hn2, hcs, htk⟩ : ∃ g cap cur, (Value.slice A es.length c) = .slice (some ⟨g, 0, none⟩) es.length cap ∧ w0.heap.size ≤ g ∧ w1.heap[g]? = some (.cells cur 141 (0, 0)) ∧ es.length ≤ cap ∧ cap ≤ maxLen ∧ cur.size = cap * 4 ∧ cur.toList.take (es.length * 4) = es.flatMap evCells := by
      rcases HO1.out.2 with ⟨_, h⟩ | h
      · omega
      · exact h
    simp only [Value.slice.injEq, true_and] at hv
    obtain ⟨rfl, rfl⟩ := hv
    have hblk : Blk w1 g 141 cur.toList := by unfold Blk; rw [Array.toArray_toList]; exact hg
    have HK0 := Lib.hid (KInv.start (on := on) (N := c * 4) (by rw [Array.length_toList]; exact hcs) (fun t u hu => by
      rw [← htk, List.getElem?_take] at hu
      split at hu
      · exact hu
      · cases hu) hi0 hd0 ha0)
    have HBk0 := Lib.hid hblk
    have hq : ((i0 : Int) == -1) = false := beq_eq_false_iff_ne.2 (by omega)
    have HBG := Lib.hid hbg
    have hn3 : c ≤ 9223372036854775807 := by unfold maxLen at hn2; exact hn2
    clear hg htk hblk hcs hd0 ha0 hn2 HO1
    go_wp2_with fail
    go_loopw [5, 6] (fun t5 t6 wr => ∃ (i j : Nat) (cs : List Value), t5 = .int .i64 i ∧ t6 = .int .i64 j ∧ j ≤ es.length ∧ i < j ∧ Hid (Below w0.heap.size w0 wr) ∧ Hid (Blk wr g 141 cs) ∧ Hid (KInv es on (c * 4) cs i j)) (fun _ t6 _ => es.length - (intOf t6).toNat)
    case atStart => exact ⟨i0, i0 + 1, cur.toList, rfl, by go_num, by omega, by omega, HB1.out, HBk0.out, HK0.out⟩
    case round =>
      clear HB1 HBk0 HK0 hq
      obtain ⟨i, j, cs, rfl, rfl, hj, hij, HB, HBk, HK⟩ := hrel
      by_cases hlt : j < es.length
      · have hcl : (j : Int) < (es.length : Int) := by omega
        have hci : (i : Int) < (es.length : Int) := by omega
        have hcell : ∀ (r : Nat) (u : Value), (evCells es[j])[r]? = some u → r < 4 → wr.cell? ⟨g, j * 4 + r, none⟩ = some u := fun r u hu hr => HBk.out.cell _ (HK.out.hi _ _ (by omega) (by rw [flat_at evCells_len es j r hr, List.getElem?_eq_getElem hlt]; exact hu))
        have c0 : wr.cell? ⟨g, j * 4, none⟩ = some (.int .i64 es[j].day) := hcell 0 _ rfl (by decide)
        have c1 := hcell 1 _ rfl (by decide)
        have c2 := hcell 2 _ rfl (by decide)
        have c3 := hcell 3 _ rfl (by decide)
        have HSk := Lib.hid (fun (h : ¬ es[j].day ≤ on) => HK.out.skip hlt h)
        have HKp := Lib.hid (fun (h : es[j].day ≤ on) => HK.out.keep hlt (by omega) h)
        have hla : i * 4 + 3 < cs.length := by rw [HK.out.len]; omega
        clear hcell
        generalize es[j] = x at c0 c1 c2 c3 HSk HKp
        obtain ⟨xd, xn, xw, xv⟩ := x
        simp only at c0 c1 c2 c3 HSk HKp
        have bx := Blk.new wr 141 [.int .i64 xd, .string ⟨xn.toArray⟩, .string ⟨xw.toArray⟩, .bool xv]
        have hx1 := ext_alloc wr (.cells (List.toArray [.int .i64 xd, .string ⟨xn.toArray⟩, .string ⟨xw.toArray⟩, .bool xv]) 141)
        obtain ⟨W, hW⟩ : ∃ W, W = wr.alloc (.cells (List.toArray [.int .i64 xd, .string ⟨xn.toArray⟩, .string ⟨xw.toArray⟩, .bool xv]) 141) := ⟨_, rfl⟩
        obtain ⟨K, hKk⟩ : ∃ K, K = wr.heap.size := ⟨_, rfl⟩
        rw [← hW] at bx hx1
        rw [← hKk] at bx
        go_upto_region 8 with fail
        rw [show wr.alloc (.cells #[.int .i64 xd, .string ⟨xn.toArray⟩, .string ⟨xw.toArray⟩, .bool xv] 141) = W from hW.symm, ← hKk]
        have HBW := Lib.hid (HB.out.trans (hx1.mono HB.out.size))
        have HBkW := Lib.hid (Sol.blk_ext HBk.out hx1)
        have HX := Lib.hid bx
        have m0 := bx.cell 0 rfl
        have m1 := bx.cell 1 rfl
        have m2 := bx.cell 2 rfl
        have m3 := bx.cell 3 rfl
        clear hW hKk bx hx1 c0 c1 c2 c3 HB HBk HK
        go_wp2_with fail
        refine (next1_any xd xn xw xv tb on _ (Mem.cell_keep HBW.out (lt_of_cell HT.out) HT.out)).mono ?_
        rintro e w2 ⟨rfl, hb⟩
        have HB2 := Lib.hid (HBW.out.trans (hb.mono HBW.out.size))
        have HBk2 := Lib.hid (Sol.blk_ext HBkW.out hb)
        have m0 := cell_ext hb m0
        have m1 := cell_ext hb m1
        have m2 := cell_ext hb m2
        have m3 := cell_ext hb m3
        clear hb HBW HBkW HX
        by_cases hg : on < xd
        · have HS := Lib.hid (HSk.out (by omega))
          rw [decide_eq_true hg]
          clear hg HSk HKp m0 m1 m2 m3
          go_wp2_with fail
          go_roundw
          case rel => exact ⟨i, j + 1, cs, rfl, by go_num, by omega, by omega, HB2.out, HBk2.out, HS.out⟩
          case measure => simp [intOf]; omega
        · have HS := Lib.hid (HKp.out (by omega))
          rw [decide_eq_false hg]
          obtain ⟨y0, y1, y2, y3, s0, f0, s1, f1, s2, f2, s3, f3, hbk⟩ := store4 HBk2.out hla (.int .i64 xd) (.string ⟨xn.toArray⟩) (.string ⟨xw.toArray⟩) (.bool xv)
          have HBk3 := Lib.hid hbk
          have HB3 := Lib.hid (below_set4 (a := i * 4) HB2.out HBG.out (.int .i64 xd) (.string ⟨xn.toArray⟩) (.string ⟨xw.toArray⟩) (.bool xv))
          clear hg HSk HKp hbk
          go_wp2_with fail
          go_roundw
          case rel => exact ⟨i + 1, j + 1, _, by go_num, by go_num, by omega, by omega, HB3.out, HBk3.out, HS.out⟩
          case measure => simp [intOf]; omega
      · obtain rfl : es.length = j := by omega
        have hcl : ¬ (es.length : Int) < (es.length : Int) := by omega
        have hci : (i : Int) < (es.length : Int) := by omega
        have hcj : (i : Int) ≤ (es.length : Int) := by omega
        have hck : (i : Int) ≤ (c : Int) := by omega
        have hcm : (es.length : Int) ≤ (c : Int) := by omega
        have hlen := HK.out.len
        have hc4 : (es.length - i) * 4 + i * 4 ≤ c * 4 := by omega
        have hcell : ∀ t, t < cs.length → (wr.cell? ⟨g, t, none⟩).isSome = true := fun t ht => by rw [HBk.out.cell t (List.getElem?_eq_getElem ht)]; rfl
        have hclr : ∀ ty, (Builtin.clear_ #[70] ty #[.slice (some ⟨g, i * 4, none⟩) (es.length - i) (c - i)]).run Tryz.prog wr = .ok (.tuple #[]) (wr.setCells g (i * 4) (Builtin.zeroCells (Value.agg #[.int .i64 0, .string ⟨#[]⟩, .string ⟨#[]⟩, .bool false]).cells (es.length - i)).toList) := fun ty =>
          clear_many wr _ _ ty _ Tryz.underlying70 zero_event g (i * 4) (es.length - i) (c - i) (by omega) (zeros_one _) (fun t ht => hcell _ (by rw [zeros_len] at ht; omega)) (fun t _ => HBk.out.free _)
        obtain ⟨cs', hbk', hlo'⟩ := blk_setCells (Builtin.zeroCells (Value.agg #[.int .i64 0, .string ⟨#[]⟩, .string ⟨#[]⟩, .bool false]).cells (es.length - i)).toList (i * 4) wr cs HBk.out
        have HB3 := Lib.hid (Lib.below_setCells g HBG.out (Builtin.zeroCells (Value.agg #[.int .i64 0, .string ⟨#[]⟩, .string ⟨#[]⟩, .bool false]).cells (es.length - i)).toList (i * 4) HB.out)
        generalize (Builtin.zeroCells (Value.agg #[.int .i64 0, .string ⟨#[]⟩, .string ⟨#[]⟩, .bool false]).cells (es.length - i)).toList = zs at hclr hbk' HB3
        have HBk' := Lib.hid hbk'
        have HLo := Lib.hid hlo'
        clear hbk' hlo' hcell hlen hc4
        have hat := HK.out.at_
        have hlo := HK.out.lo
        rw [List.take_length] at hat hlo
        have HAt := Lib.hid hat
        have HRd := Lib.hid (show Rd (wr.setCells g (i * 4) zs) (some ⟨g, 0, none⟩) ((pastF es on).flatMap evCells) from fun t u hu => ⟨g, 0, rfl, by
          rw [Nat.zero_add]
          refine HBk'.out.cell t ?_
          rw [HLo.out t (by have h := (List.getElem?_eq_some_iff.1 hu).1; rw [flat_len evCells_len, ← hat] at h; exact h)]
          exact hlo t u hu⟩)
        clear HK HBk HBk' HLo hat hlo
        go_wp2_with fail
        go_ret
        exact ⟨⟨some ⟨g, 0, none⟩, c, by rw [← HAt.out]; rfl, HRd.out⟩, HB3.out⟩
end Go.Proofs.YtcpcejmlnhflpaaGreatDoor.Dut

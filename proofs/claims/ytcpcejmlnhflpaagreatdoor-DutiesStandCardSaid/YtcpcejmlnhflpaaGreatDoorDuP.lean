/- Duties in plain lists: how one stands on a day, and that what is done is done. -/
import Derived.Test.YtcpcejmlnhflpaaGreatDoorProg
import Derived.IntWalk
namespace Go.Proofs.YtcpcejmlnhflpaaGreatDoor.Dut

structure Ev where
  day : Int
  name : List UInt8
  who : List UInt8
  wv : Bool
structure Dt where
  name : List UInt8
  who : List UInt8
  fr : Int
  till : Int
  els : List UInt8
  n : Int
  u : Int
  r : Int
def str (l : List UInt8) : Value := .string ⟨l.toArray⟩
def evCells (e : Ev) : List Value := [.int .i64 e.day, .string ⟨e.name.toArray⟩, .string ⟨e.who.toArray⟩, .bool e.wv]
def dtCells (d : Dt) : List Value := [.string ⟨d.name.toArray⟩, .string ⟨d.who.toArray⟩, .int .i64 d.fr, .int .i64 d.till, .string ⟨d.els.toArray⟩, .int .i64 d.n, .int .i64 d.u, .int .i64 d.r]
structure Ro where
  d : Dt
  st : Int
  day : Int
  of : Int
def roCells (r : Ro) : List Value := dtCells r.d ++ [.int .i64 r.st, .int .i64 r.day, .int .i64 r.of]
theorem evCells_len (e : Ev) : (evCells e).length = 4 := rfl
theorem dtCells_len (d : Dt) : (dtCells d).length = 8 := rfl
theorem roCells_len (r : Ro) : (roCells r).length = 11 := rfl

def Hit (x : Dt) (wv : Bool) (on : Int) (d : Int) (e : Ev) : Prop := e.name = x.name ∧ e.who = x.who ∧ e.wv = wv ∧ x.fr ≤ e.day ∧ e.day ≤ on ∧ (d = 0 ∨ e.day < d)
instance (x : Dt) (wv : Bool) (on : Int) (d : Int) (e : Ev) : Decidable (Hit x wv on d e) := by unfold Hit; exact inferInstance
def fstep (x : Dt) (wv : Bool) (on : Int) (d : Int) (e : Ev) : Int := if Hit x wv on d e then e.day else d
def firstP (x : Dt) (wv : Bool) (on : Int) (es : List Ev) : Int := es.foldl (fstep x wv on) 0
theorem first_take (x : Dt) (wv : Bool) (on : Int) (es : List Ev) (k : Nat) (h : k < es.length) : firstP x wv on (es.take (k + 1)) = fstep x wv on (firstP x wv on (es.take k)) es[k] := by
  unfold firstP
  rw [List.take_succ_eq_append_getElem h, List.foldl_append]
  rfl
def stP (x : Dt) (es : List Ev) (on : Int) : Int × Int :=
  if 0 < firstP x true on es ∧ (firstP x false on es = 0 ∨ firstP x true on es ≤ firstP x false on es) then (4, firstP x true on es)
  else if 0 < firstP x false on es ∧ firstP x false on es ≤ x.till then (1, firstP x false on es)
  else if 0 < firstP x false on es then (2, firstP x false on es)
  else if x.till < on then (3, RowKit.wrap64 (x.till + 1))
  else (0, x.fr)
/-- two days' firsts -/
def R (on d d' : Int) : Prop := (d ≠ 0 → d' = d ∧ d ≤ on) ∧ (d = 0 → d' = 0 ∨ on < d') ∧ 0 ≤ d
theorem step_R {x : Dt} {wv : Bool} {on later : Int} (hf : 1 ≤ x.fr) (h : on ≤ later) {d d' : Int} (r : R on d d') (e : Ev) : R on (fstep x wv on d e) (fstep x wv later d' e) := by
  obtain ⟨r1, r2, r3⟩ := r
  unfold fstep
  by_cases c1 : e.name = x.name ∧ e.who = x.who ∧ e.wv = wv ∧ x.fr ≤ e.day
  · obtain ⟨a1, a2, a3, a4⟩ := c1
    have e1 : Hit x wv on d e ↔ (e.day ≤ on ∧ (d = 0 ∨ e.day < d)) := ⟨fun h => h.2.2.2.2, fun h => ⟨a1, a2, a3, a4, h⟩⟩
    have e2 : Hit x wv later d' e ↔ (e.day ≤ later ∧ (d' = 0 ∨ e.day < d')) := ⟨fun h => h.2.2.2.2, fun h => ⟨a1, a2, a3, a4, h⟩⟩
    simp only [e1, e2]
    by_cases hd : d = 0
    · rcases r2 hd with h' | h' <;> (split <;> split <;> (refine ⟨?_, ?_, ?_⟩ <;> omega))
    · obtain ⟨e1, e2⟩ := r1 hd
      split <;> split <;> (refine ⟨?_, ?_, ?_⟩ <;> omega)
  · rw [if_neg (fun h : Hit x wv on d e => c1 ⟨h.1, h.2.1, h.2.2.1, h.2.2.2.1⟩), if_neg (fun h : Hit x wv later d' e => c1 ⟨h.1, h.2.1, h.2.2.1, h.2.2.2.1⟩)]
    exact ⟨r1, r2, r3⟩
theorem first_R {x : Dt} {wv : Bool} {on later : Int} (hf : 1 ≤ x.fr) (h : on ≤ later) (es : List Ev) : R on (firstP x wv on es) (firstP x wv later es) := by
  suffices ∀ (es : List Ev) (d d' : Int), R on d d' → R on (es.foldl (fstep x wv on) d) (es.foldl (fstep x wv later) d') from this es 0 0 ⟨by simp, by simp, by omega⟩
  intro es
  induction es with
  | nil => intro d d' h; exact h
  | cons e es ih => intro d d' h'; exact ih _ _ (step_R hf h h' e)
/-- what is done is done -/
theorem st_firm {x : Dt} {on later : Int} (hf : 1 ≤ x.fr) (h : on ≤ later) (es : List Ev) (h0 : (stP x es on).1 ≠ 0) (h3 : (stP x es on).1 ≠ 3) : stP x es later = stP x es on := by
  obtain ⟨a1, a2, a3⟩ := first_R (wv := true) hf h es
  obtain ⟨b1, b2, b3⟩ := first_R (wv := false) hf h es
  have z1 := first_R (wv := true) hf (Int.le_refl later) es
  have z2 := first_R (wv := false) hf (Int.le_refl later) es
  have z1 := z1.2.2
  have z2 := z2.2.2
  unfold stP at *
  generalize firstP x true on es = o at *
  generalize firstP x true later es = o' at *
  generalize firstP x false on es = f at *
  generalize firstP x false later es = f' at *
  by_cases c1 : 0 < o ∧ (f = 0 ∨ o ≤ f)
  · obtain ⟨rfl, c3⟩ := a1 (by omega)
    have : 0 < o' ∧ (f' = 0 ∨ o' ≤ f') := by
      refine ⟨c1.1, ?_⟩
      by_cases hf0 : f = 0
      · rcases b2 hf0 with h | h <;> omega
      · obtain ⟨rfl, _⟩ := b1 hf0
        omega
    rw [if_pos c1, if_pos this]
  · rw [if_neg c1] at h0 h3 ⊢
    by_cases c2 : 0 < f ∧ f ≤ x.till
    · obtain ⟨rfl, c3⟩ := b1 (by omega)
      have : ¬ (0 < o' ∧ (f' = 0 ∨ o' ≤ f')) := by
        by_cases ho : o = 0
        · rcases a2 ho with h | h <;> omega
        · obtain ⟨rfl, _⟩ := a1 ho
          omega
      rw [if_pos c2, if_neg this, if_pos c2]
    · rw [if_neg c2] at h0 h3 ⊢
      by_cases c3 : 0 < f
      · obtain ⟨rfl, c4⟩ := b1 (by omega)
        have : ¬ (0 < o' ∧ (f' = 0 ∨ o' ≤ f')) := by
          by_cases ho : o = 0
          · rcases a2 ho with h | h <;> omega
          · obtain ⟨rfl, _⟩ := a1 ho
            omega
        rw [if_pos c3, if_neg this, if_neg c2, if_pos c3]
      · rw [if_neg c3] at h0 h3
        split at h0 <;> simp_all
/-- the rows that stand for themselves -/
def baseR (ds : List Dt) (es : List Ev) (on : Int) : List Ro := (ds.filter fun x => decide (x.fr ≤ on)).map fun x => ⟨x, (stP x es on).1, (stP x es on).2, -1⟩
theorem base_take (ds : List Dt) (es : List Ev) (on : Int) (k : Nat) (h : k < ds.length) : baseR (ds.take (k + 1)) es on = baseR (ds.take k) es on ++ (if ds[k].fr ≤ on then [⟨ds[k], (stP ds[k] es on).1, (stP ds[k] es on).2, -1⟩] else []) := by
  unfold baseR
  rw [List.take_succ_eq_append_getElem h, List.filter_append, List.map_append]
  congr 1
  by_cases c : ds[k].fr ≤ on <;> simp [c]
theorem base_len (ds : List Dt) (es : List Ev) (on : Int) : (baseR ds es on).length ≤ ds.length := by
  unfold baseR
  rw [List.length_map]
  exact List.length_filter_le _ _
theorem base_firm {ds : List Dt} {es : List Ev} {on later : Int} (hf : ∀ x ∈ ds, 1 ≤ x.fr) (h : on ≤ later) {r : Ro} (hr : r ∈ baseR ds es on) (h0 : r.st ≠ 0) (h3 : r.st ≠ 3) : ∃ r' ∈ baseR ds es later, r'.d = r.d ∧ r'.st = r.st ∧ r'.day = r.day := by
  unfold baseR at hr ⊢
  obtain ⟨x, hx, rfl⟩ := List.mem_map.1 hr
  obtain ⟨hx1, hx2⟩ := List.mem_filter.1 hx
  have hx2 : x.fr ≤ on := by simpa using hx2
  have e := st_firm (hf x hx1) h es h0 h3
  exact ⟨_, List.mem_map.2 ⟨x, List.mem_filter.2 ⟨hx1, by simp; omega⟩, rfl⟩, rfl, by rw [e], by rw [e]⟩
end Go.Proofs.YtcpcejmlnhflpaaGreatDoor.Dut

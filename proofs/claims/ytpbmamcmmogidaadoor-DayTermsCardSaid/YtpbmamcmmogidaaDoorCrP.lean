/- The document's state while it reads an amount: in plain lists. -/
import Derived.Test.YtpbmamcmmogidaaDoorCnL
namespace Go.Proofs.YtpbmamcmmogidaaDoor.Cn
open Rd

theorem body_at (s : List UInt8) (j : Nat) : (body s)[j]? = s[skip s + j]? := by
  unfold body skip
  split
  · rw [List.getElem?_drop]
  · simp
theorem body_len (s : List UInt8) : (body s).length = s.length - skip s := by
  unfold body skip
  split
  · rw [List.length_drop]
  · simp
theorem skip_le (s : List UInt8) : skip s ≤ s.length := by
  unfold skip neg
  cases s with
  | nil => simp
  | cons c t => split <;> simp
theorem comma_app : ∀ (l r : List UInt8), 44 ∈ l → comma (l ++ r) = comma l
  | [], _, h => by simp at h
  | c :: t, r, h => by
    unfold comma
    rw [List.cons_append, List.findIdx_cons, List.findIdx_cons]
    by_cases hc : c = 44
    · simp [hc]
    · have hc' : ¬ 44 = c := fun e => hc e.symm
      have ih := comma_app t r (by simpa [hc'] using h)
      unfold comma at ih
      rw [ih]
theorem comma_new : ∀ (l : List UInt8), 44 ∉ l → comma (l ++ [44]) = l.length
  | [], _ => rfl
  | c :: t, h => by
    have hc : c ≠ 44 := fun e => h (by simp [e])
    have ih := comma_new t (fun hm => h (by simp [hm]))
    unfold comma at ih ⊢
    have e : (c == 44) = false := by simp [hc]
    rw [List.cons_append, List.findIdx_cons, ih, e]
    simp
/-- the number so far: it stands still where it is great -/
def NV (nn : Int) (V : Nat) : Prop := nn = V ∨ (1125899906842624 ≤ nn ∧ nn ≤ V)
theorem NV.step {nn : Int} {V d : Nat} (h : NV nn V) (hn : nn < 1125899906842624) : NV (nn * 10 + d) (V * 10 + d) := by
  rcases h with h | h
  · exact .inl (by rw [h]; omega)
  · omega
theorem NV.stay {nn : Int} {V d : Nat} (h : NV nn V) (hn : ¬ nn < 1125899906842624) : NV nn (V * 10 + d) := by
  unfold NV at h ⊢; omega
/-- the document's state behind the bytes up to a place -/
structure CS (b : List UInt8) (f i : Nat) (g : Nat) (wr : Bool) (cm nn : Int) : Prop where
  lo : f ≤ i
  le : i - f ≤ b.length
  dc : ∀ q (h : q < b.length), q < i - f → isDC b[q] = true
  st : ∃ has : Bool, (b.take (i - f)).foldl stepG (false, 0, false) = (has, g, wr) ∧ ((has = false ∧ cm = -1 ∧ 44 ∉ b.take (i - f)) ∨ (has = true ∧ cm = ((f + comma (b.take (i - f)) : Nat) : Int) ∧ 44 ∈ b.take (i - f)))
  nv : NV nn (valD ((b.take (i - f)).filter isD))
  fs : f < i → startB b = true
theorem CS.start (b : List UInt8) (f : Nat) : CS b f f 0 false (-1) 0 :=
  ⟨Nat.le_refl _, by omega, fun q _ h => absurd h (by omega), ⟨false, by simp, .inl ⟨rfl, rfl, by simp⟩⟩, .inl (by simp [valD]), fun h => absurd h (by omega)⟩
theorem take_next' {b : List UInt8} {f i : Nat} (hi : f ≤ i) (h : i - f < b.length) : b.take (i + 1 - f) = b.take (i - f) ++ [b[i - f]] := by
  rw [show i + 1 - f = (i - f) + 1 by omega, List.take_add_one, List.getElem?_eq_getElem h]; rfl
theorem CS.digit {b : List UInt8} {f i g : Nat} {wr : Bool} {cm nn nn' : Int} (h : CS b f i g wr cm nn) (hl : i - f < b.length) (hd : isD b[i - f] = true)
    (hn : nn' = if nn < 1125899906842624 then nn * 10 + dv b[i - f] else nn) : CS b f (i + 1) (g + 1) wr cm nn' := by
  obtain ⟨h1, h2, h3, ⟨has, h4, h5⟩, h6, h7⟩ := h
  have hne := (isD_ne hd).1
  refine ⟨by omega, by omega, fun q hq hlt => ?_, ⟨has, ?_, ?_⟩, ?_, fun _ => ?_⟩
  · by_cases e : q = i - f
    · subst e; unfold isDC; rw [hd]; rfl
    · exact h3 q hq (by omega)
  · rw [take_next' h1 hl, List.foldl_append, h4, List.foldl_cons, List.foldl_nil]
    unfold stepG
    rw [if_neg hne]
  · rw [take_next' h1 hl]
    rcases h5 with ⟨a, e, c⟩ | ⟨a, e, c⟩
    · refine .inl ⟨a, e, fun hm => ?_⟩
      rcases List.mem_append.1 hm with hm | hm
      · exact c hm
      · exact hne (List.mem_singleton.1 hm).symm
    · exact .inr ⟨a, by rw [e, comma_app _ _ c], List.mem_append_left _ c⟩
  · rw [take_next' h1 hl, List.filter_append, List.filter_cons, if_pos hd, List.filter_nil, valD_snoc, hn]
    split
    · exact h6.step (by assumption)
    · exact h6.stay (by assumption)
  · by_cases e : f < i
    · exact h7 e
    · obtain rfl : i = f := by omega
      simp only [Nat.sub_self] at hl hd
      cases b with
      | nil => simp at hl
      | cons c t => exact hd
theorem CS.comma {b : List UInt8} {f i g : Nat} {wr wr' : Bool} {cm cm' nn : Int} (h : CS b f i g wr cm nn) (hl : i - f < b.length) (hd : b[i - f] = 44) (hi : f < i)
    (hc : (cm < 0 ∧ cm' = i ∧ wr' = decide (3 < g)) ∨ (0 ≤ cm ∧ cm' = cm ∧ wr' = (wr || decide (g ≠ 3)))) : CS b f (i + 1) 0 wr' cm' nn := by
  obtain ⟨h1, h2, h3, ⟨has, h4, h5⟩, h6, h7⟩ := h
  refine ⟨by omega, by omega, fun q hq hlt => ?_, ⟨true, ?_, ?_⟩, ?_, fun _ => h7 hi⟩
  · by_cases e : q = i - f
    · subst e; rw [hd]; decide
    · exact h3 q hq (by omega)
  · rw [take_next' h1 hl, hd, List.foldl_append, h4, List.foldl_cons, List.foldl_nil]
    unfold stepG
    rw [if_pos rfl]
    rcases h5 with ⟨a, e, c⟩ | ⟨a, e, c⟩
    · rcases hc with ⟨_, _, hw⟩ | ⟨hx, _, _⟩
      · simp [a, hw]
      · omega
    · rcases hc with ⟨hx, _, _⟩ | ⟨_, _, hw⟩
      · omega
      · simp [a, hw]
  · right
    refine ⟨rfl, ?_, ?_⟩
    · rw [take_next' h1 hl, hd]
      rcases h5 with ⟨a, e, c⟩ | ⟨a, e, c⟩
      · rcases hc with ⟨_, hx, _⟩ | ⟨hx, _, _⟩
        · rw [hx, comma_new _ c, List.length_take]; omega
        · omega
      · rcases hc with ⟨hx, _, _⟩ | ⟨_, hx, _⟩
        · omega
        · rw [hx, e, comma_app _ _ c]
    · rw [take_next' h1 hl, hd]; simp
  · rw [take_next' h1 hl, hd, List.filter_append]
    have : [(44 : UInt8)].filter isD = [] := by decide
    rw [this, List.append_nil]
    exact h6
/-- the state where the digits and commas end -/
theorem CS.stop {b : List UInt8} {f i g : Nat} {wr : Bool} {cm nn : Int} (h : CS b f i g wr cm nn) (hs : ∀ h : i - f < b.length, isDC b[i - f] = false) :
    digs b = b.take (i - f) ∧ rest b = b.drop (i - f) ∧ badP (grps (b.take (i - f))) = (decide (0 ≤ cm) && (wr || decide (g ≠ 3))) ∧ (0 ≤ cm → cm = ((f + Cn.comma (b.take (i - f)) : Nat) : Int)) := by
  obtain ⟨hd, hr⟩ := digs_of h.dc h.le hs
  refine ⟨hd, hr, ?_, ?_⟩
  · rw [← bad_same]
    obtain ⟨has, h4, h5⟩ := h.st
    rw [h4]
    unfold badF
    rcases h5 with ⟨a, e, c⟩ | ⟨a, e, c⟩
    · simp [a, e]
    · have : 0 ≤ cm := by omega
      simp [a, this]
  · intro hc
    obtain ⟨has, h4, h5⟩ := h.st
    rcases h5 with ⟨a, e, c⟩ | ⟨a, e, c⟩
    · omega
    · exact e
/-- with the two digits behind -/
theorem nv_out {nn : Int} {V c : Nat} (h : NV nn V) (hc : c ≤ 99) : (1000000000000 < V * 100 + c ↔ ¬ (nn * 100 + c ≤ 1000000000000)) ∧ (nn * 100 + c ≤ 1000000000000 → nn * 100 + c = ((V * 100 + c : Nat) : Int)) := by
  unfold NV at h
  rcases h with h | h
  · constructor
    · omega
    · intro _; omega
  · constructor
    · omega
    · intro _; omega
end Go.Proofs.YtpbmamcmmogidaaDoor.Cn

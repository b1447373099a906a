/- Calendars of working days, in plain Lean. A calendar of working days in memory. A calendar's set of days off, as the walk keeps it. -/
import Derived.Test.YtjfiodknjchngaaGreatDoorCal
import Derived.Test.YtjfiodknjchngaaGreatDoorMem
import Derived.Test.YtjfiodknjchngaaGreatDoorMapSet
namespace Go.Proofs.YtjfiodknjchngaaGreatDoor.CdP

structure Cd where
  off : List Bool
  hol : List Int
  len : off.length = 7
def Gd (d : Int) : Prop := 1 ≤ d ∧ d ≤ 3652059
instance (d : Int) : Decidable (Gd d) := by unfold Gd; exact inferInstance
def offAt (off : List Bool) (d : Int) : Bool := off.getD ((d - 1) % 7).toNat false
def wk (off : List Bool) (hol : List Int) (d : Int) : Bool := !offAt off d && !hol.contains d
/-- from a day to the n-th working day -/
inductive Walk (c : Cd) (st : Int) : Int → Nat → Option Int → Prop
  | done (d : Int) : Walk c st d 0 (some d)
  | out (d : Int) (n : Nat) : ¬ Gd (d + st) → Walk c st d (n + 1) none
  | off (d : Int) (n : Nat) (r : Option Int) : Gd (d + st) → wk c.off c.hol (d + st) = false → Walk c st (d + st) (n + 1) r → Walk c st d (n + 1) r
  | on (d : Int) (n : Nat) (r : Option Int) : Gd (d + st) → wk c.off c.hol (d + st) = true → Walk c st (d + st) n r → Walk c st d (n + 1) r
theorem Walk.same {c : Cd} {st d : Int} {n : Nat} {r r' : Option Int} (h : Walk c st d n r) (h' : Walk c st d n r') : r = r' := by
  induction h with
  | done d => cases h'; rfl
  | out d n g => cases h' with
    | out _ _ _ => rfl
    | off _ _ _ g' _ _ => exact absurd g' g
    | on _ _ _ g' _ _ => exact absurd g' g
  | off d n r g hw _ ih => cases h' with
    | out _ _ g' => exact absurd g g'
    | off _ _ _ _ _ k => exact ih k
    | on _ _ _ _ hw' _ => rw [hw] at hw'; cases hw'
  | on d n r g hw _ ih => cases h' with
    | out _ _ g' => exact absurd g g'
    | off _ _ _ _ hw' _ => rw [hw] at hw'; cases hw'
    | on _ _ _ _ _ k => exact ih k
/-- how many working days stand from a day on, among k -/
def cnt (off : List Bool) (hol : List Int) (a : Int) : Nat → Nat
  | 0 => 0
  | k + 1 => cnt off hol a k + if wk off hol (a + k) then 1 else 0
theorem cnt_front (off : List Bool) (hol : List Int) (a : Int) : ∀ k, cnt off hol a (k + 1) = (if wk off hol a then 1 else 0) + cnt off hol (a + 1) k
  | 0 => by simp [cnt]
  | k + 1 => by
    have h := cnt_front off hol a k
    rw [cnt, h, cnt, show a + ((k + 1 : Nat) : Int) = a + 1 + (k : Int) by omega]
    omega
theorem wk_add (off : List Bool) (hol : List Int) (x d : Int) : wk off (hol ++ [x]) d = (wk off hol d && !(d == x)) := by
  unfold wk
  by_cases h : d = x
  · subst h; simp
  · simp [h]
/-- one holiday more -/
theorem cnt_add (off : List Bool) (hol : List Int) (x a : Int) : ∀ k : Nat, cnt off hol a k = cnt off (hol ++ [x]) a k + if a ≤ x ∧ x < a + k ∧ wk off hol x = true then 1 else 0
  | 0 => by simp only [cnt]; rw [if_neg (by omega)]
  | k + 1 => by
    have ih := cnt_add off hol x a k
    simp only [cnt, wk_add]
    by_cases h : a + (k : Int) = x
    · subst h
      rw [if_neg (by omega)] at ih
      simp only [beq_self_eq_true, Bool.not_true, Bool.and_false, Bool.false_eq_true, if_false]
      by_cases hw : wk off hol (a + k) = true
      · rw [if_pos hw, if_pos ⟨by omega, by omega, hw⟩]; omega
      · rw [if_neg hw, if_neg (fun c => hw c.2.2)]; omega
    · have hb : (a + (k : Int) == x) = false := by simp [h]
      simp only [hb, Bool.not_false, Bool.and_true]
      by_cases hc : a ≤ x ∧ x < a + (k : Int) ∧ wk off hol x = true
      · rw [if_pos hc] at ih
        have h2 : a ≤ x ∧ x < a + ((k + 1 : Nat) : Int) ∧ wk off hol x = true := ⟨hc.1, by omega, hc.2.2⟩
        rw [if_pos h2]; omega
      · rw [if_neg hc] at ih
        have h2 : ¬ (a ≤ x ∧ x < a + ((k + 1 : Nat) : Int) ∧ wk off hol x = true) := fun c => hc ⟨c.1, by omega, c.2.2⟩
        rw [if_neg h2]; omega
/-- a walk on counts -/
theorem Walk.count {c : Cd} {n : Nat} {a : Int} {r : Option Int} (h : Walk c 1 a n r) : ∀ d, r = some d → ∃ k : Nat, d = a + k ∧ cnt c.off c.hol (a + 1) k = n := by
  induction h with
  | done d => intro e he; cases he; exact ⟨0, by omega, rfl⟩
  | out d n g => intro e he; cases he
  | off d n r g hw _ ih =>
    intro e he
    obtain ⟨k, h1, h2⟩ := ih e he
    exact ⟨k + 1, by omega, by rw [cnt_front, hw]; simpa using h2⟩
  | on d n r g hw _ ih =>
    intro e he
    obtain ⟨k, h1, h2⟩ := ih e he
    exact ⟨k + 1, by omega, by rw [cnt_front, hw]; simp only [if_true]; omega⟩
/-- back over k days with n working days among them (the day itself the first of them) -/
theorem back (c : Cd) (a : Int) : ∀ (k n : Nat) , (∀ i : Nat, i < k → Gd (a + i)) → wk c.off c.hol a = true → cnt c.off c.hol a k = n → 0 < k → Walk c (-1) (a + k) n (some a)
  | 0, _, _, _, _, h => absurd h (by omega)
  | k + 1, n, hg, hw, hn, _ => by
    have e : a + ((k + 1 : Nat) : Int) + -1 = a + (k : Int) := by omega
    have g := hg k (by omega)
    by_cases hk : k = 0
    · subst hk
      have : n = 1 := by rw [← hn]; simp [cnt, hw]
      subst this
      refine .on _ _ _ (by rw [e]; exact g) (by rw [e]; simpa using hw) ?_
      rw [e]
      simpa using Walk.done (c := c) (st := -1) a
    · simp only [cnt] at hn
      by_cases hx : wk c.off c.hol (a + k) = true
      · rw [if_pos hx] at hn
        subst hn
        refine .on _ _ _ (by rw [e]; exact g) (by rw [e]; exact hx) ?_
        rw [e]
        exact back c a k _ (fun i hi => hg i (by omega)) hw rfl (by omega)
      · rw [if_neg hx] at hn
        have hp := cnt_front c.off c.hol a (k - 1)
        rw [show k - 1 + 1 = k by omega, hw] at hp
        simp only [if_true] at hp
        obtain ⟨m, rfl⟩ : ∃ m, n = m + 1 := ⟨n - 1, by omega⟩
        refine .off _ _ _ (by rw [e]; exact g) (by rw [e]; simpa using hx) ?_
        rw [e]
        exact back c a k _ (fun i hi => hg i (by omega)) hw (by omega) (by omega)
theorem offAt_all {c : Cd} (h : ∀ b ∈ c.off, b = true) (d : Int) : offAt c.off d = true := by
  unfold offAt
  have hl : ((d - 1) % 7).toNat < c.off.length := by rw [c.len]; omega
  rw [List.getD_eq_getElem?_getD, List.getElem?_eq_getElem hl]
  exact h _ (List.getElem_mem hl)
theorem Walk.none_of_off {c : Cd} (h : ∀ b ∈ c.off, b = true) (st : Int) (hst : st = 1 ∨ st = -1) (n : Nat) : ∀ (k : Nat) (d : Int), (st = 1 → 3652060 - d ≤ k) → (st = -1 → d ≤ k) → Walk c st d (n + 1) none
  | 0, d, h1, h2 => .out _ _ (by unfold Gd; rcases hst with rfl | rfl <;> simp only [true_implies] at h1 h2 <;> omega)
  | k + 1, d, h1, h2 => by
    by_cases g : Gd (d + st)
    · exact .off _ _ _ g (by unfold wk; rw [offAt_all h]; rfl) (Walk.none_of_off h st hst n k _ (fun e => by have := h1 e; omega) (fun e => by have := h2 e; omega))
    · exact .out _ _ g
/-- days not off by the week, ahead of one -/
def bef : List Bool → Nat → Int → Int
  | [], _, _ => 0
  | b :: l, w, d => (if b then 0 else (d - 1 - w + 6) / 7) + bef l (w + 1) d
theorem bef_step : ∀ (l : List Bool) (w : Nat) (d : Int), 1 ≤ d → w + l.length ≤ 7 → bef l w (d + 1) = bef l w d + if w ≤ ((d - 1) % 7).toNat ∧ ((d - 1) % 7).toNat < w + l.length ∧ l.getD (((d - 1) % 7).toNat - w) false = false then 1 else 0
  | [], w, d, _, _ => by
    simp only [bef, List.length_nil]
    rw [if_neg (by omega)]; rfl
  | b :: l, w, d, h, hl => by
    simp only [List.length_cons] at hl ⊢
    have ih := bef_step l (w + 1) d h (by omega)
    simp only [bef]
    rw [ih]
    obtain ⟨m, hm⟩ : ∃ m, m = ((d - 1) % 7).toNat := ⟨_, rfl⟩
    rw [← hm]
    by_cases hw : m = w
    · subst hw
      have k : ¬ (m + 1 ≤ m ∧ m < m + 1 + l.length ∧ l.getD (m - (m + 1)) false = false) := by omega
      rw [if_neg k]
      cases b
      · have k2 : m ≤ m ∧ m < m + (l.length + 1) ∧ (false :: l).getD (m - m) false = false := ⟨by omega, by omega, by simp⟩
        rw [if_pos k2]
        simp only [Bool.false_eq_true, if_false]
        omega
      · have k2 : ¬ (m ≤ m ∧ m < m + (l.length + 1) ∧ (true :: l).getD (m - m) false = false) := by simp
        rw [if_neg k2]
        simp
    · have e : (if b = true then 0 else (d + 1 - 1 - (w : Int) + 6) / 7) = (if b = true then 0 else (d - 1 - (w : Int) + 6) / 7) := by
        split
        · rfl
        · omega
      rw [e]
      by_cases hc : w + 1 ≤ m ∧ m < w + 1 + l.length ∧ l.getD (m - (w + 1)) false = false
      · have k2 : w ≤ m ∧ m < w + (l.length + 1) ∧ (b :: l).getD (m - w) false = false := ⟨by omega, by omega, by rw [show m - w = m - (w + 1) + 1 by omega]; simpa using hc.2.2⟩
        rw [if_pos hc, if_pos k2]
        omega
      · have k2 : ¬ (w ≤ m ∧ m < w + (l.length + 1) ∧ (b :: l).getD (m - w) false = false) := fun c => hc ⟨by omega, by omega, by have := c.2.2; rw [show m - w = m - (w + 1) + 1 by omega] at this; simpa using this⟩
        rw [if_neg hc, if_neg k2]
        omega
theorem bef_cnt (off : List Bool) (hl : off.length = 7) (a : Int) (ha : 1 ≤ a) : ∀ k : Nat, bef off 0 (a + k) = bef off 0 a + cnt off [] a k
  | 0 => by simp [cnt]
  | k + 1 => by
    have ih := bef_cnt off hl a ha k
    have h := bef_step off 0 (a + k) (by omega) (by omega)
    rw [show a + ((k + 1 : Nat) : Int) = a + (k : Int) + 1 by omega, h, ih]
    simp only [cnt]
    have hm : ((a + (k : Int) - 1) % 7).toNat < 7 := by omega
    by_cases hx : off.getD ((a + (k : Int) - 1) % 7).toNat false = false
    · rw [if_pos ⟨Nat.zero_le _, by omega, by simpa using hx⟩, if_pos (by unfold wk offAt; rw [hx]; rfl)]
      omega
    · rw [if_neg (fun c => hx (by simpa using c.2.2)), if_neg (by unfold wk offAt; simpa using hx)]
      omega
end Go.Proofs.YtjfiodknjchngaaGreatDoor.CdP
namespace Go.Proofs.YtjfiodknjchngaaGreatDoor.CdM
open Go.RowKit Mem CdP

structure CdA (w : World) (b o : Nat) (c : Cd) (A : Option Addr) (hc : Nat) : Prop where
  off : ∀ (j : Nat) (h : j < 7), w.cell? ⟨b, o + j, none⟩ = some (.bool (c.off[j]'(by rw [c.len]; exact h)))
  hol : w.cell? ⟨b, o + 7, none⟩ = some (.slice A c.hol.length hc)
  rd : Rd w A (ints c.hol)
theorem CdA.ext {w w' : World} {b o : Nat} {c : Cd} {A : Option Addr} {hc : Nat} (h : CdA w b o c A hc) (hb : Below w.heap.size w w') : CdA w' b o c A hc :=
  ⟨fun j hj => cell_ext hb (h.off j hj), cell_ext hb h.hol, h.rd.ext hb⟩
theorem offAt_get (c : Cd) (d : Int) : offAt c.off d = c.off[((d - 1) % 7).toNat]'(by rw [c.len]; omega) := by
  unfold offAt
  rw [List.getD_eq_getElem?_getD, List.getElem?_eq_getElem (by rw [c.len]; omega)]
  rfl
/-- a day's own flag -/
theorem CdA.flag {w : World} {b o : Nat} {c : Cd} {A : Option Addr} {hc : Nat} (h : CdA w b o c A hc) (d : Int) : w.cell? ⟨b, o + ((d - 1) % 7).toNat, none⟩ = some (.bool (offAt c.off d)) := by
  rw [offAt_get]
  exact h.off _ (by omega)
end Go.Proofs.YtjfiodknjchngaaGreatDoor.CdM
namespace Go.Proofs.YtjfiodknjchngaaGreatDoor.CdM
open Go.RowKit Mem CdP MapSet
theorem zeroB (w : World) : (zeroValue 4).run Tryz.prog w = .ok (.bool false) w := by kernel_rfl
theorem int_law : Go.Maps.Keyed Tryz.prog 3 := Go.Maps.int_keyed Tryz.underlying3
theorem int_key (a : Int) (h : (Lit.int .i64 a).wf = true) : keyOf Tryz.prog 3 (.int .i64 a) = some (.int .i64 a) := by
  unfold keyOf mapKey
  simp [Tryz.underlying3, h]
/-- the days off are the keys -/
def FreeM (w : World) (b n : Nat) (hol : List Int) : Prop := SetM Tryz.prog 3 4 w b n (fun v => ∃ x ∈ hol, v = .int .i64 x)
theorem FreeM.look {w : World} {b n : Nat} {hol : List Int} (h : FreeM w b n hol) (d : Int) (hd : (Lit.int .i64 d).wf = true) :
    (Instr.lookup 209 (.map (some b)) (.int .i64 d) false).run Tryz.prog w = .ok (.bool (hol.contains d)) w := by
  obtain ⟨c, hrun, hc⟩ := SetM.lookup h int_law Tryz.underlying209 Tryz.underlying4 (zeroB w) (int_key d hd)
  have e : c = hol.contains d := by
    rw [Bool.eq_iff_iff, hc, List.contains_iff_mem]
    exact ⟨fun ⟨x, hx, hv⟩ => by cases hv; exact hx, fun hx => ⟨d, hx, rfl⟩⟩
  rw [hrun, e]
end Go.Proofs.YtjfiodknjchngaaGreatDoor.CdM

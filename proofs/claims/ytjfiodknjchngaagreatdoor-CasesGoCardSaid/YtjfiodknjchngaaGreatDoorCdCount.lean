/- Counting working days: the program's before and Count, the document's CountDays. Counting working days: the program's Count. Counting working days: the document's CountDays. -/
import Derived.Test.YtjfiodknjchngaaGreatDoorCdRoll
import Derived.Deep.DeepCutAuto
namespace Go.Proofs.YtjfiodknjchngaaGreatDoor.CdM
open Go.RowKit Mem CdP MapSet Solve CdR Day Nest RefDay

theorem cnt_le (off : List Bool) (hol : List Int) (a : Int) : ∀ k, cnt off hol a k ≤ k
  | 0 => Nat.le_refl _
  | k + 1 => by
    have := cnt_le off hol a k
    simp only [cnt]
    split <;> omega
theorem bef_drop (l : List Bool) (j : Nat) (d : Int) (h : j < l.length) : bef (l.drop j) j d = (if l[j] then 0 else (d - 1 - j + 6) / 7) + bef (l.drop (j + 1)) (j + 1) d := by
  rw [List.drop_eq_getElem_cons h]
  rfl
end Go.Proofs.YtjfiodknjchngaaGreatDoor.CdM
namespace Go.Proofs.YtjfiodknjchngaaGreatDoor.CdM
open Go.RowKit Mem CdP MapSet Solve CdR Day Nest RefDay

/-- a day among those that there are, or the one behind them -/
def cl (x : Int) : Int := if x < 1 then 1 else if 3652060 < x then 3652060 else x
theorem cl_bd (x : Int) : 1 ≤ cl x ∧ cl x ≤ 3652060 := by unfold cl; split <;> (try split) <;> omega
theorem cl_mono {x y : Int} (h : x ≤ y) : cl x ≤ cl y := by unfold cl; (repeat' split) <;> omega
theorem cl_is (x : Int) : (x < 1 → cl x = 1) ∧ (3652060 < x → cl x = 3652060) ∧ (1 ≤ x → x ≤ 3652060 → cl x = x) := by
  unfold cl
  refine ⟨fun h => by rw [if_pos h], fun h => by rw [if_neg (by omega), if_pos h], fun h h' => by rw [if_neg (by omega), if_neg (by omega)]⟩
def cntR (c : Cd) (f t : Int) : Int := (cnt c.off c.hol (cl f) (cl t - cl f).toNat : Nat)
/-- how many working days: what both functions give -/
def cntI (c : Cd) (f t : Int) : Int := if t < f then -cntR c t f else cntR c f t
theorem cntR_bd (c : Cd) (f t : Int) : 0 ≤ cntR c f t ∧ cntR c f t ≤ 3652060 := by
  have h := cnt_le c.off c.hol (cl f) (cl t - cl f).toNat
  have h1 := cl_bd f
  have h2 := cl_bd t
  unfold cntR
  omega
end Go.Proofs.YtjfiodknjchngaaGreatDoor.CdM
namespace Go.Proofs.YtjfiodknjchngaaGreatDoor.CdM
open Go.RowKit Mem CdP MapSet Solve CdR Day Nest RefDay

theorem cntR_raw (c : Cd) {f t a z : Int} (hft : f ≤ t) (ha : a = if f < 1 then 1 else f) (hz : z = if 3652060 < t then 3652060 else t) : cntR c f t = (cnt c.off c.hol a (z - a).toNat : Nat) := by
  obtain ⟨f1, f2, f3⟩ := cl_is f
  obtain ⟨t1, t2, t3⟩ := cl_is t
  unfold cntR
  by_cases h1 : 3652060 < f
  · rw [f2 h1, t2 (by omega)]
    rw [if_neg (by omega)] at ha
    rw [if_pos (by omega)] at hz
    rw [show (z - a).toNat = 0 by omega]
    simp [cnt]
  · by_cases h2 : t < 1
    · rw [f1 (by omega), t1 h2]
      rw [if_pos (by omega)] at ha
      rw [if_neg (by omega)] at hz
      rw [show (z - a).toNat = 0 by omega]
      simp [cnt]
    · have ea : cl f = a := by
        by_cases h3 : f < 1
        · rw [f1 h3, ha, if_pos h3]
        · rw [f3 (by omega) (by omega), ha, if_neg h3]
      have ez : cl t = z := by
        by_cases h3 : 3652060 < t
        · rw [t2 h3, hz, if_pos h3]
        · rw [t3 (by omega) (by omega), hz, if_neg h3]
      rw [ea, ez]
theorem cnt_next (off : List Bool) (hol : List Int) (a d : Int) (h : a ≤ d) : cnt off hol a (d + 1 - a).toNat = cnt off hol a (d - a).toNat + if wk off hol d then 1 else 0 := by
  rw [show (d + 1 - a).toNat = (d - a).toNat + 1 by omega]
  simp only [cnt]
  rw [show a + ((d - a).toNat : Int) = d by omega]
end Go.Proofs.YtjfiodknjchngaaGreatDoor.CdM

/- Whether duties can be worked out. -/
import Derived.Test.YtjfiodknjchngaaGreatDoorDuW
import Derived.Test.YtjfiodknjchngaaGreatDoorDueP
import Derived.Deep.DeepCutAuto
namespace Go.Proofs.YtjfiodknjchngaaGreatDoor.Dut
open Go.RowKit Mem Nest Sol App CdP CdM Solve Err

theorem day_yes (d : Int) (h : Gd d) (w : World) : Calls Tryz.prog 34 #[.int .i64 d] w fun e w' => e = .returned (.bool true) ∧ w' = w :=
  (Day.good_yes d h.1 h.2 w).mono fun _ _ ⟨he, hw⟩ => ⟨he, hw.symm⟩
theorem day_no (d : Int) (h : ¬ Gd d) (w : World) : Calls Tryz.prog 34 #[.int .i64 d] w fun e w' => e = .returned (.bool false) ∧ w' = w :=
  (Day.good_no d (by unfold Gd at h; omega) w).mono fun _ _ ⟨he, hw⟩ => ⟨he, hw.symm⟩
theorem day_any (d : Int) (w : World) : Calls Tryz.prog 34 #[.int .i64 d] w fun e w' => e = .returned (.bool (decide (Gd d))) ∧ w' = w := by
  by_cases h : Gd d
  · rw [decide_eq_true h]; exact day_yes d h w
  · rw [decide_eq_false h]; exact day_no d h w
/-- a duty's days -/
def DOk (x : Dt) : Prop := Gd x.fr ∧ Gd x.till ∧ x.fr ≤ x.till
def VOk (l : List Dt) (on : Int) (k : Nat) : Prop := Gd on ∧ ∀ x ∈ l.take k, DOk x
theorem VOk.succ {l : List Dt} {on : Int} {k : Nat} (h : k < l.length) : VOk l on (k + 1) ↔ VOk l on k ∧ DOk l[k] := by
  unfold VOk
  rw [List.take_succ_eq_append_getElem h]
  constructor
  · rintro ⟨a, b⟩
    exact ⟨⟨a, fun x hx => b x (List.mem_append_left _ hx)⟩, b _ (List.mem_append_right _ (by simp))⟩
  · rintro ⟨⟨a, b⟩, c⟩
    refine ⟨a, fun x hx => ?_⟩
    rcases List.mem_append.1 hx with hx | hx
    · exact b x hx
    · simp at hx; rw [hx]; exact c
/-- what is easy -/
def Easy (l : List Dt) (es : List Ev) (on : Int) : Prop := es = [] ∧ l.length ≤ 200 ∧ VOk l on l.length ∧ ∀ x ∈ l, x.els = []
def VaPost (l : List Dt) (es : List Ev) (on : Int) (w : World) (e : Ending) (w' : World) : Prop := (∃ v, e = .returned v ∧ ((v = .nilIface ∧ l.length ≤ 200 ∧ es.length ≤ 400 ∧ VOk l on l.length) ∨ ((∃ a, v = errV a) ∧ ¬ Easy l es on))) ∧ Below w.heap.size w w'
end Go.Proofs.YtjfiodknjchngaaGreatDoor.Dut

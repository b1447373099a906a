/- Facts: the law's comparison of days and people. Facts: few facts. -/
import Derived.Test.YtnchlnfenebomaaGreatDoorFkO
namespace Go.Proofs.YtnchlnfenebomaaGreatDoor.Fk
open Go.RowKit Mem Nest Err App Go.Sort

end Go.Proofs.YtnchlnfenebomaaGreatDoor.Fk
namespace Go.Proofs.YtnchlnfenebomaaGreatDoor.Fk
open Go.RowKit Mem Nest Err App Go.Sort

def fewF (l : List Fa) : Bool := l.all (fun x => decide (x.name.length ≤ 100)) && decide (l.length ≤ 502)
set_option maxRecDepth 20000 in
theorem few_facts (l : List Fa) (A : Option Addr) (c : Nat) (w : World) (hL : Rd w A (l.flatMap faC)) (hl : l.length ≤ 9223372036854775807) :
    Calls Tryz.prog 5 #[.slice A l.length c] w (fun e w' => e = .returned (.bool (fewF l)) ∧ Below w.heap.size w w') := by
  have HL := Lib.hid hL
  clear hL
  go_enter Tryz.func5, Tryz.ntmps5
  go_wp2_with fail
  go_loopw [3] (fun t3 wr => ∃ i : Nat, t3 = .int .i64 i ∧ i ≤ l.length ∧ Hid (Below w.heap.size w wr) ∧ Hid ((l.take i).all (fun x => decide (x.name.length ≤ 100)) = true)) (fun t3 _ => l.length - (intOf t3).toNat)
  case atStart => exact ⟨0, rfl, Nat.zero_le _, Below.refl _ _, rfl⟩
  case round =>
    obtain ⟨i, rfl, hi, HB, HT⟩ := hrel
    by_cases hlt : i < l.length
    · have hltc : (i : Int) < (l.length : Int) := by omega
      obtain ⟨fb, fo, rfl, _, r1, _⟩ := fact_at (HL.out.ext HB.out) hlt
      have HTS := Lib.hid (show l[i].name.length ≤ 100 → (l.take (i + 1)).all (fun x => decide (x.name.length ≤ 100)) = true from fun h => by rw [List.take_succ_eq_append_getElem hlt, List.all_append, HT.out]; simp [h])
      have HNE := Lib.hid (show ¬ l[i].name.length ≤ 100 → fewF l = false from fun h => by
        have : l.all (fun x => decide (x.name.length ≤ 100)) = false := by
          rw [Bool.eq_false_iff]
          intro ha
          exact h (by simpa using (List.all_eq_true.1 ha) _ (List.getElem_mem hlt))
        unfold fewF
        rw [this]; rfl)
      obtain ⟨nm, hnm⟩ : ∃ nm, l[i].name = nm := ⟨_, rfl⟩
      rw [hnm] at r1 HTS HNE
      have HLT := Lib.hid hlt
      clear hnm
      by_cases hn : nm.length ≤ 100
      · have hnc : ¬ (100 : Int) < (nm.length : Int) := by omega
        have HK := Lib.hid (HTS.out hn)
        clear HTS HNE
        go_wp2_with fail
        go_roundw
        case rel => exact ⟨i + 1, by go_num, by have := HLT.out; omega, HB.out, HK.out⟩
        case measure => have := HLT.out; simp [intOf]; omega
      · have hnc : (100 : Int) < (nm.length : Int) := by omega
        have HK := Lib.hid (HNE.out hn)
        clear HTS HNE
        go_wp2_with fail
        go_ret
        exact ⟨by rw [HK.out]; rfl, HB.out⟩
    · obtain rfl : l.length = i := by omega
      have hlc : ¬ (l.length : Int) < (l.length : Int) := by omega
      have HK := Lib.hid (show fewF l = decide ((l.length : Int) ≤ 502) by
        have h := HT.out
        rw [List.take_length] at h
        unfold fewF
        rw [h, Bool.true_and]
        exact decide_eq_decide.2 (by omega))
      go_wp2_with fail
      go_ret
      exact ⟨by rw [HK.out]; rfl, HB.out⟩
end Go.Proofs.YtnchlnfenebomaaGreatDoor.Fk

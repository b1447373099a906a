/- Facts: the document's days: turns, what was learnt when. -/
import Derived.Test.YtnchlnfenebomaaGreatDoorFkI
namespace Go.Proofs.YtnchlnfenebomaaGreatDoor.Fk
open Go.RowKit Mem Nest Err App

theorem ins_len (n : Int) : ∀ l : List Int, (ins l n).length ≤ l.length + 1
  | [] => by simp [ins]
  | x :: l => by
    have := ins_len n l
    unfold ins
    split
    · simp; omega
    · split <;> simp
theorem fold_len : ∀ (raw acc : List Int), (raw.foldl ins acc).length ≤ acc.length + raw.length
  | [], acc => by simp
  | n :: raw, acc => by
    have h1 := fold_len raw (ins acc n)
    have h2 := ins_len n acc
    rw [List.foldl_cons, List.length_cons]
    omega
theorem days_len (raw : List Int) : (daysF raw).length ≤ raw.length := by
  have := fold_len raw []
  simpa [daysF] using this
theorem days_snoc (raw : List Int) (n : Int) : daysF (raw ++ [n]) = ins (daysF raw) n := by
  unfold daysF
  rw [List.foldl_append]
  rfl
theorem turnsOf_len (who kn : Int) (x : Fa) : (turnsOf who kn x).length ≤ 2 := by
  unfold turnsOf
  split
  · simp
  · split <;> simp
theorem turnsR_len (who kn : Int) : ∀ l : List Fa, (turnsR who kn l).length ≤ 2 * l.length
  | [] => by simp [turnsR]
  | x :: l => by
    have h1 := turnsOf_len who kn x
    have h2 := turnsR_len who kn l
    show ((turnsOf who kn x) ++ turnsR who kn l).length ≤ _
    rw [List.length_append, List.length_cons]
    omega
theorem turnsR_snoc {who kn : Int} {l : List Fa} {i : Nat} (h : i < l.length) : turnsR who kn (l.take (i + 1)) = turnsR who kn (l.take i) ++ turnsOf who kn l[i] := by
  unfold turnsR
  rw [List.take_succ_eq_append_getElem h, List.flatMap_append]
  simp
end Go.Proofs.YtnchlnfenebomaaGreatDoor.Fk

/- LedgerKeeps: what is wrong with an entry, in plain Lean. -/
import Derived.Test.YtdnhfcphmbhloaaGreatDoorLkS
namespace Go.Proofs.YtdnhfcphmbhloaaGreatDoor.Lk
open Go.RowKit Mem Nest Fk Msi Err

/-- what an account comes to, with an entry's lines -/
def totS (rs : List En) (ls : List Ln) (a : Tx) : Int := balS a 3652059 rs + lnS a 0 0 ls
def smallE (rs : List En) (ls : List Ln) : Bool := ls.all (fun x => coinB x.2) && ls.all (fun x => coinB (totS rs ls x.1))
def sumE (ls : List Ln) : Int := ls.foldr (fun x s => x.2 + s) 0
def lateE (rs : List En) (d : Int) : Bool := match rs.getLast? with
  | some r => decide (d < r.day)
  | none => false
/-- the error's number; lc: the text's own -/
def postC (rs : List En) (d : Int) (lc : Int) (ls : List Ln) : Int :=
  if 400 ≤ rs.length ∨ 20 < ls.length then 2
  else if dayB d = false ∨ lateE rs d = true then 4
  else if 0 < lc then 1
  else if (ls.any fun x => !wordB x.1) = true then 7
  else if smallE rs ls = false then 3
  else if sumE ls ≠ 0 then 8
  else 0
theorem sume_take (ls : List Ln) {i : Nat} (h : i < ls.length) : sumE (ls.take (i + 1)) = sumE (ls.take i) + ls[i].2 := by
  have hs : ∀ (a b : List Ln), sumE (a ++ b) = sumE a + sumE b := by
    intro a b
    induction a with
    | nil => simp [sumE]
    | cons x a ih =>
      have e1 : sumE (x :: a ++ b) = x.2 + sumE (a ++ b) := rfl
      have e2 : sumE (x :: a) = x.2 + sumE a := rfl
      rw [e1, e2, ih]
      omega
  rw [List.take_succ_eq_append_getElem h, hs]
  simp [sumE]
theorem coinb_small {x : Int} (h : coinB x = true) : Small1 x := by
  unfold coinB at h
  unfold Small1
  simp only [decide_eq_true_eq] at h
  omega
theorem post_zero {rs : List En} {d lc : Int} {ls : List Ln} (h : postC rs d lc ls = 0) : rs.length < 400 ∧ ls.length ≤ 20 ∧ dayB d = true ∧ lateE rs d = false ∧ lc ≤ 0 ∧ (ls.any fun x => !wordB x.1) = false ∧ smallE rs ls = true ∧ sumE ls = 0 := by
  unfold postC at h
  split at h
  · omega
  · split at h
    · omega
    · split at h
      · omega
      · split at h
        · omega
        · split at h
          · omega
          · split at h
            · omega
            · rename_i h1 h2 h3 h4 h5 h6
              exact ⟨by omega, by omega, by simpa using fun e => h2 (.inl e), by simpa using fun e => h2 (.inr e), by omega, by simpa using h4, by simpa using h5, by omega⟩
theorem small_all {rs : List En} {ls : List Ln} (h : smallE rs ls = true) : ∀ x ∈ ls, Small1 x.2 := by
  unfold smallE at h
  rw [Bool.and_eq_true] at h
  intro x hx
  exact coinb_small (List.all_eq_true.1 h.1 x hx)
end Go.Proofs.YtdnhfcphmbhloaaGreatDoor.Lk

/- Terms' texts: the document's number, which stops growing. -/
import Derived.Test.YtpbmamcmmogidaaDoorTmP
namespace Go.Proofs.YtpbmamcmmogidaaDoor.Tm
open Cn

/-- the document's number next to the digits' value -/
def NV (n : Int) (v : Nat) : Prop := (n = (v : Int) ∨ (1099511627776 ≤ n ∧ 1099511627776 ≤ (v : Int))) ∧ 0 ≤ n ∧ n ≤ 10995116277769
theorem NV.start : NV 0 0 := ⟨.inl rfl, by omega, by omega⟩
theorem valD_snoc (l : List UInt8) (c : UInt8) : valD (l ++ [c]) = valD l * 10 + dv c := by
  unfold valD; rw [List.foldl_append]; rfl
theorem valD_take {s : List UInt8} {j : Nat} (h : j < s.length) : valD (s.take (j + 1)) = valD (s.take j) * 10 + dv s[j] := by
  rw [List.take_succ_eq_append_getElem h, valD_snoc]
theorem NV.low {n : Int} {v d : Nat} (h : NV n v) (hn : n < 1099511627776) (hd : d ≤ 9) : NV (n * 10 + (d : Int)) (v * 10 + d) := by
  obtain ⟨h1, h2, h3⟩ := h
  refine ⟨?_, by omega, by omega⟩
  rcases h1 with rfl | ⟨h4, _⟩
  · left; omega
  · omega
theorem NV.high {n : Int} {v d : Nat} (h : NV n v) (hn : ¬ n < 1099511627776) : NV n (v * 10 + d) := by
  obtain ⟨h1, h2, h3⟩ := h
  refine ⟨.inr ⟨by omega, ?_⟩, h2, h3⟩
  rcases h1 with rfl | ⟨_, h5⟩ <;> omega
theorem NV.big {n : Int} {v : Nat} (h : NV n v) : 100000 < n ↔ 100000 < v := by
  obtain ⟨h1, _, _⟩ := h
  rcases h1 with rfl | ⟨h4, h5⟩ <;> omega
theorem NV.same {n : Int} {v : Nat} (h : NV n v) (hn : ¬ 100000 < n) : n = (v : Int) := by
  obtain ⟨h1, _, _⟩ := h
  rcases h1 with rfl | ⟨h4, _⟩
  · rfl
  · omega
end Go.Proofs.YtpbmamcmmogidaaDoor.Tm

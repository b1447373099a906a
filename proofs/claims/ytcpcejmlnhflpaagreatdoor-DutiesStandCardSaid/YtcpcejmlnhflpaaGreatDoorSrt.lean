/- slices.Sort at a row of integers that the call has built. -/
import Derived.Test.YtcpcejmlnhflpaaGreatDoorShelfB
import Derived.Test.YtcpcejmlnhflpaaGreatDoorNest
import Derived.Sort.OwnSortedInts
namespace Go.Proofs.YtcpcejmlnhflpaaGreatDoor.Srt
open Go.RowKit Mem Nest Go.Sort

def sortI (zs : List Int) : List Int := zs.mergeSort fun x y => decide (x ≤ y)
theorem sortI_len (zs : List Int) : (sortI zs).length = zs.length := List.length_mergeSort _
theorem sortI_mem (zs : List Int) (x : Int) : x ∈ sortI zs ↔ x ∈ zs := List.mem_mergeSort
theorem sortI_le (zs : List Int) {i j : Nat} (h : i < j) (hj : j < (sortI zs).length) : (sortI zs)[i] ≤ (sortI zs)[j] := by
  have hs : (sortI zs).Pairwise fun x y => decide (x ≤ y) = true := List.pairwise_mergeSort (le := fun x y : Int => decide (x ≤ y)) (fun a b c h1 h2 => by simp at *; omega) (fun a b => by simp; omega) zs
  have := List.pairwise_iff_getElem.1 hs i j (by omega) hj h
  simpa using this
def SortPost (base : Nat) (zs : List Int) (A : Option Addr) (c : Nat) (w : World) (e : Ending) (w' : World) : Prop :=
  e = .returned (.tuple #[]) ∧ w'.ownsRow base 3 1 (.slice A zs.length c) zs.length (ints (sortI zs)) ∧ w.grownBy w' (Value.slice A zs.length c).ownBlock
theorem sort_any (base : Nat) (zs : List Int) (hz : zs.length ≤ 100000) (A : Option Addr) (c : Nat) (w : World) (h : w.ownsRow base 3 1 (.slice A zs.length c) zs.length (ints zs)) :
    Calls Tryz.prog 62 #[.slice A zs.length c] w (SortPost base zs A c w) := by
  by_cases h0 : zs.length = 0
  · obtain rfl := List.length_eq_zero_iff.1 h0
    refine (Tryz.slices_Sort_int_none A c w).mono ?_
    rintro e w' ⟨rfl, rfl⟩
    have e : sortI [] = [] := by unfold sortI; simp
    exact ⟨rfl, by rw [e]; exact h, rfl, rfl, rfl, Nat.le_refl _, fun _ _ _ => rfl⟩
  · rcases h.2 with ⟨_, h2⟩ | ⟨g, cap, cur, hv, hg, hb, h1, h2, h3, h4⟩
    · exact absurd h2 h0
    · injection hv with ha hb' hc'
      subst ha hc'
      refine (Tryz.slices_Sort_int g 0 c zs w (holds_of_blockI hb (by rw [Nat.mul_one] at h4; exact h4)) (Array.getElem?_eq_some_iff.1 hb).1 (by omega)).mono ?_
      rintro e w' ⟨rfl, n, os, rfl⟩
      exact ⟨rfl, ownsRow_sortedI (sortI_len zs) hg hb h1 h2 h3, grownBy_sortedI _⟩
end Go.Proofs.YtcpcejmlnhflpaaGreatDoor.Srt

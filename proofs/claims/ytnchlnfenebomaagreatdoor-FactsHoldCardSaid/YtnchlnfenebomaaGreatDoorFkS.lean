/- Facts: Sort and Compact at rows of integers that the call has built; the program's days. -/
import Derived.Test.YtnchlnfenebomaaGreatDoorShelfB
import Derived.Test.YtnchlnfenebomaaGreatDoorFkT
import Derived.Sort.OwnSortedInts
namespace Go.Proofs.YtnchlnfenebomaaGreatDoor.Fk
open Go.RowKit Mem Nest Err App Go.Sort

def sortI (zs : List Int) : List Int := zs.mergeSort fun x y => decide (x ≤ y)
theorem sortI_len (zs : List Int) : (sortI zs).length = zs.length := List.length_mergeSort _
/-- behind a call that turns one own row alone -/
def SortPost (base : Nat) (zs : List Int) (A : Option Addr) (c : Nat) (w : World) (e : Ending) (w' : World) : Prop :=
  e = .returned (.tuple #[]) ∧ w'.ownsRow base 3 1 (.slice A zs.length c) zs.length (ints (sortI zs)) ∧ w.grownBy w' (Value.slice A zs.length c).ownBlock
theorem sort_any (base : Nat) (zs : List Int) (hz : zs.length ≤ 100000) (A : Option Addr) (c : Nat) (w : World) (h : w.ownsRow base 3 1 (.slice A zs.length c) zs.length (ints zs)) :
    Calls Tryz.prog 138 #[.slice A zs.length c] w (SortPost base zs A c w) := by
  by_cases h0 : zs.length = 0
  · obtain rfl := List.length_eq_zero_iff.1 h0
    refine (Tryz.slices_Sort_int_none A c w).mono ?_
    rintro e w' ⟨rfl, rfl⟩
    have e : sortI [] = [] := by unfold sortI; simp
    exact ⟨rfl, by rw [e]; exact h, rfl, rfl, rfl, Nat.le_refl _, fun _ _ _ => rfl⟩
  · rcases h.2 with ⟨_, h2⟩ | ⟨g, cap, cur, hv, hg, hb, h1, h2, h3, h4⟩
    · exact absurd h2 h0
    · injection hv with ha hb' hc'
      subst ha hc'
      refine (Tryz.slices_Sort_int g 0 c zs w (holds_of_blockI hb (by rw [Nat.mul_one] at h4; exact h4)) (Array.getElem?_eq_some_iff.1 hb).1 (by omega)).mono ?_
      rintro e w' ⟨rfl, n, os, rfl⟩
      exact ⟨rfl, ownsRow_sortedI (sortI_len zs) hg hb h1 h2 h3, grownBy_sortedI _⟩
theorem comp_len (zs : List Int) : (Lib.compact zs).length ≤ zs.length := by
  unfold Lib.compact Lib.compactUpTo
  rw [List.length_map]
  refine Nat.le_trans (List.length_filter_le _ _) ?_
  simp
end Go.Proofs.YtnchlnfenebomaaGreatDoor.Fk

/- alive of package statutelaw1: coin.Read reads its first text. -/
import Derived.Test.YtdfajigepchccaaDoorCnW
namespace Go.Proofs.YtdfajigepchccaaDoor.Cn
open Go.RowKit Mem Rd Err Flt

theorem first_coin : coinF [49, 46, 48, 53] = (0, -1, 105) := by decide
theorem alive_any (A : Nat → Addr) (rv : Value) (m : Int) (w : World) (hE : CE w A rv m) :
    Calls Tryd.prog 30 #[] w fun e w' => e = .returned (.bool true) ∧ Below w.heap.size w w' := by
  have H := Lib.hid (cread_any [49, 46, 48, 53] A rv m w (by simp) hE)
  clear hE
  go_enter Tryd.func30, Tryd.ntmps30
  go_wp2_with fail
  refine H.out.mono ?_
  rintro e w1 ⟨v, rfl, hp, hb⟩
  rw [first_coin] at hp ⊢
  have HB := Lib.hid hb
  clear hb
  rcases hp with ⟨_, rfl⟩ | ⟨c, hc, h, _⟩
  · go_wp2_with fail
    go_ret
    exact ⟨rfl, HB.out⟩
  · simp at h; omega
end Go.Proofs.YtdfajigepchccaaDoor.Cn

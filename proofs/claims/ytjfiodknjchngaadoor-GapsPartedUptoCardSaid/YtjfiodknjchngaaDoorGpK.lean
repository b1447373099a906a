/- Gaps: the keys of what was looked at in vain. -/
import Derived.Test.YtjfiodknjchngaaDoorGpM
import Derived.Test.YtjfiodknjchngaaDoorMapSet
import Derived.Maps.Keyed
import Derived.DeepKeys4
namespace Go.Proofs.YtjfiodknjchngaaDoor.Gp
open Go.RowKit Mem Nest Fk MapSet

theorem laidOut : laidOutB Tryd.prog = true := by kernel_rfl
def keyV (q a b : Nat) : Value := .agg #[.int .i64 q, .int .u64 a, .int .u64 b]
theorem key_law : Go.Maps.Keyed Tryd.prog 143 := Go.Maps.Keyed.of_law (deep_law_laid laidOut (m := 2) (by omega) (of_decide_eq_true (by kernel_rfl)) (by kernel_rfl) (by kernel_rfl))
theorem key_key (q a b : Nat) (hq : q < 9223372036854775807) (ha : a < 2 ^ 64) (hb : b < 2 ^ 64) : ∃ kl, keyOf Tryd.prog 143 (keyV q a b) = some kl := by
  have h1 : Tryd.prog.keyType 143 = true := by kernel_rfl
  have h2 : (keyV q a b).formed Tryd.prog 143 = true := by
    unfold keyV Value.formed
    rw [Tryd.underlying143]
    simp only [show Tryd.prog.cellsOf 143 = 3 from by kernel_rfl]
    rfl
  have h3 : Tryd.prog.types.size = (257 - 1) + 1 := by kernel_rfl
  have wq : (Lit.int .i64 (q : Int)).wf = true := Go.WalkArith.wf_i64 (by omega)
  have wu : ∀ n : Nat, n < 2 ^ 64 → (Lit.int .u64 (n : Int)).wf = true := fun n hn => by
    have : n < 18446744073709551616 := hn
    exact Go.WalkArith.wf_u64 (by omega)
  have h4 : Tryd.prog.keyLits (Tryd.prog.types.size + 1) 143 [.int .i64 q, .int .u64 a, .int .u64 b] = some [.int .i64 q, .int .u64 a, .int .u64 b] := by
    rw [h3]
    have e : ∀ (n : Nat) (x : Int), (Lit.int .i64 x).wf = true → Tryd.prog.keyLits (n + 1) 3 [.int .i64 x] = some [.int .i64 x] := fun n x hx => by
      unfold Program.keyLits
      rw [Tryd.underlying3]
      simp [hx]
    have f : ∀ (n : Nat) (x : Int), (Lit.int .u64 x).wf = true → Tryd.prog.keyLits (n + 1) 86 [.int .u64 x] = some [.int .u64 x] := fun n x hx => by
      unfold Program.keyLits
      rw [Tryd.underlying86]
      simp [hx]
    unfold Program.keyLits
    rw [Tryd.underlying143]
    simp [show Tryd.prog.cellsOf 3 = 1 from by kernel_rfl, show Tryd.prog.cellsOf 86 = 1 from by kernel_rfl, e _ _ wq, f _ _ (wu a ha), f _ _ (wu b hb)]
    exact (show Tryd.prog.cellsOf 143 = 3 from by kernel_rfl).symm
  unfold keyOf
  rw [Tryd.underlying143]
  have h5 : (keyV q a b).cells.toList = [.int .i64 q, .int .u64 a, .int .u64 b] := rfl
  simp only [h1, h2, Bool.and_self, if_true, h5, h4, Option.map_some]
  exact ⟨_, rfl⟩
theorem keyV_inj {q a b q' a' b' : Nat} (h : keyV q a b = keyV q' a' b') : q = q' ∧ a = a' ∧ b = b' := by
  unfold keyV at h
  simp only [Value.agg.injEq, Array.mk.injEq, List.cons.injEq, Value.int.injEq, true_and, and_true] at h
  omega
end Go.Proofs.YtjfiodknjchngaaDoor.Gp

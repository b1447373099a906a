/- Facts: what is kept is of known kinds; the law's comparison of days and people. -/
import Derived.Test.YtcpcejmlnhflpaaDoorFkO2
namespace Go.Proofs.YtcpcejmlnhflpaaDoor.Fk
open Go.RowKit Mem Nest Err App Go.Sort

theorem keep_oks (l : List Fa) : Oks (keepF l) := by
  intro y hy
  obtain ⟨_, k, hk⟩ := keep_code _ l rfl y hy
  have h := code_kind hk
  unfold kindB bodyB at h
  simp only [Bool.and_eq_true, Bool.or_eq_true, decide_eq_true_eq, beq_iff_eq] at h
  obtain ⟨⟨h1, h2⟩, h3⟩ := h
  refine ⟨?_, ?_⟩ <;> rcases h3 with h3 | ⟨⟨_, h3⟩, _⟩ <;> omega
end Go.Proofs.YtcpcejmlnhflpaaDoor.Fk

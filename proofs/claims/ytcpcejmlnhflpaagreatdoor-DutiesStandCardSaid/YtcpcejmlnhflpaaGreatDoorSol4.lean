/- A theory's solver: opposed, bare, beaten. A theory's solver: beaten. -/
import Derived.Test.YtcpcejmlnhflpaaGreatDoorSol2
namespace Go.Proofs.YtcpcejmlnhflpaaGreatDoor.Sol
open Go.RowKit Mem Thy Nest Day Thm MapSet

def OppC (p : SvP) (H : List Int) (q : Int) (i : Nat) (r : Rw) : Prop := r.head = -q ∧ ¬ Fails (stOf H) r.body ∧ ¬ Outd p.th (stOf H) i q
theorem opp_iff {p : SvP} {H : List Int} {q : Int} : Opp p.th (stOf H) q ↔ ∃ (k : Nat) (hk : k < p.rs.length), OppC p H q k p.rs[k] := by
  unfold Opp OppC
  constructor
  · rintro ⟨k, hk, h⟩
    rw [rules_len] at hk
    obtain ⟨hk', e⟩ := rule_at hk
    rw [e] at h
    exact ⟨k, hk, h⟩
  · rintro ⟨k, hk, h⟩
    obtain ⟨hk', e⟩ := rule_at hk
    exact ⟨k, hk', by rw [e]; exact h⟩
def SafeC (p : SvP) (H : List Int) (i : Nat) (q : Int) (k : Nat) (r : Rw) : Prop := r.head = q → r.kind ≠ 2 → Above p.th k i → Fails (stOf H) r.body
theorem safe_iff {p : SvP} {H : List Int} {i : Nat} {q : Int} : SafeR p.th (stOf H) i q ↔ ∀ (k : Nat) (hk : k < p.rs.length), SafeC p H i q k p.rs[k] := by
  unfold SafeR SafeC
  constructor
  · intro h k hk
    obtain ⟨hk', e⟩ := rule_at hk
    have := h k hk'
    rw [e] at this
    exact this
  · intro h k hk
    rw [rules_len] at hk
    obtain ⟨hk', e⟩ := rule_at hk
    rw [e]
    exact h k hk
def BeatC (p : SvP) (H : List Int) (q : Int) (i : Nat) (r : Rw) : Prop := r.head = -q ∧ AllY (stOf H) r.body ∧ SafeR p.th (stOf H) i q
theorem beat_iff {p : SvP} {H : List Int} {q : Int} : Beat p.th (stOf H) q ↔ ∃ (k : Nat) (hk : k < p.rs.length), BeatC p H q k p.rs[k] := by
  unfold Beat BeatC
  constructor
  · rintro ⟨k, hk, h⟩
    rw [rules_len] at hk
    obtain ⟨hk', e⟩ := rule_at hk
    rw [e] at h
    exact ⟨k, hk, h⟩
  · rintro ⟨k, hk, h⟩
    obtain ⟨hk', e⟩ := rule_at hk
    exact ⟨k, hk', by rw [e]; exact h⟩
end Go.Proofs.YtcpcejmlnhflpaaGreatDoor.Sol
namespace Go.Proofs.YtcpcejmlnhflpaaGreatDoor.Sol
open Go.RowKit Mem Thy Nest Day Thm MapSet

end Go.Proofs.YtcpcejmlnhflpaaGreatDoor.Sol

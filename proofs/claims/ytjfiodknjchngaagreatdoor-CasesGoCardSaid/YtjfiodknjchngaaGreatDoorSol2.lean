/- A theory's solver: all, fails, supported, bare. A theory's solver: what is above what; outdone, opposed, bare, beaten. A theory's solver: opposed, bare, beaten. A theory's solver: beaten. A theory's solver: what follows; what is said. A theory's solver: what is said. -/
import Derived.Test.YtjfiodknjchngaaGreatDoorSol
import Derived.DeepKeys4
import Derived.WalkArith
import Derived.Test.YtjfiodknjchngaaGreatDoorThy
namespace Go.Proofs.YtjfiodknjchngaaGreatDoor.Sol
open Go.RowKit Mem Thy Nest Day Thm MapSet

theorem rules_ex {p : SvP} (Q : Rl → Prop) : (∃ x ∈ p.rs, Q x.rl) ↔ ∃ r ∈ p.th.rules, Q r := by
  unfold SvP.th
  constructor
  · rintro ⟨x, h, q⟩; exact ⟨x.rl, List.mem_map.2 ⟨x, h, rfl⟩, q⟩
  · rintro ⟨r, h, q⟩
    obtain ⟨x, hx, rfl⟩ := List.mem_map.1 h
    exact ⟨x, hx, q⟩
end Go.Proofs.YtjfiodknjchngaaGreatDoor.Sol
namespace Go.Proofs.YtjfiodknjchngaaGreatDoor.Sol
open Go.RowKit Mem Thy Nest Day Thm MapSet

instance (t : Th) (k i : Nat) : Decidable (Above t k i) := by unfold Above; infer_instance
theorem zeroB (w : World) : (zeroValue 4).run Tryz.prog w = .ok (.bool false) w := by kernel_rfl
theorem laidOut : laidOutB Tryz.prog = true := by kernel_rfl
theorem rule_at {p : SvP} {k : Nat} (hk : k < p.rs.length) : ∃ h : k < p.th.rules.length, p.th.rules[k] = p.rs[k].rl := ⟨by simpa [SvP.th] using hk, by simp [SvP.th]⟩
theorem rules_len (p : SvP) : p.th.rules.length = p.rs.length := by simp [SvP.th]
def OutC (p : SvP) (H : List Int) (i : Nat) (q : Int) (k : Nat) (r : Rw) : Prop := r.head = q ∧ r.kind ≠ 2 ∧ Above p.th k i ∧ AllY (stOf H) r.body
theorem outd_iff {p : SvP} {H : List Int} {i : Nat} {q : Int} : Outd p.th (stOf H) i q ↔ ∃ (k : Nat) (hk : k < p.rs.length), OutC p H i q k p.rs[k] := by
  unfold Outd OutC
  constructor
  · rintro ⟨k, hk, h⟩
    rw [rules_len] at hk
    obtain ⟨hk', e⟩ := rule_at hk
    rw [e] at h
    exact ⟨k, hk, h⟩
  · rintro ⟨k, hk, h⟩
    obtain ⟨hk', e⟩ := rule_at hk
    exact ⟨k, hk', by rw [e]; exact h⟩
end Go.Proofs.YtjfiodknjchngaaGreatDoor.Sol
namespace Go.Proofs.YtjfiodknjchngaaGreatDoor.Sol
open Go.RowKit Mem Thy Nest Day Thm MapSet

def OppC (p : SvP) (H : List Int) (q : Int) (i : Nat) (r : Rw) : Prop := r.head = -q ∧ ¬ Fails (stOf H) r.body ∧ ¬ Outd p.th (stOf H) i q
theorem opp_iff {p : SvP} {H : List Int} {q : Int} : Opp p.th (stOf H) q ↔ ∃ (k : Nat) (hk : k < p.rs.length), OppC p H q k p.rs[k] := by
  unfold Opp OppC
  constructor
  · rintro ⟨k, hk, h⟩
    rw [rules_len] at hk
    obtain ⟨hk', e⟩ := rule_at hk
    rw [e] at h
    exact ⟨k, hk, h⟩
  · rintro ⟨k, hk, h⟩
    obtain ⟨hk', e⟩ := rule_at hk
    exact ⟨k, hk', by rw [e]; exact h⟩
def SafeC (p : SvP) (H : List Int) (i : Nat) (q : Int) (k : Nat) (r : Rw) : Prop := r.head = q → r.kind ≠ 2 → Above p.th k i → Fails (stOf H) r.body
theorem safe_iff {p : SvP} {H : List Int} {i : Nat} {q : Int} : SafeR p.th (stOf H) i q ↔ ∀ (k : Nat) (hk : k < p.rs.length), SafeC p H i q k p.rs[k] := by
  unfold SafeR SafeC
  constructor
  · intro h k hk
    obtain ⟨hk', e⟩ := rule_at hk
    have := h k hk'
    rw [e] at this
    exact this
  · intro h k hk
    rw [rules_len] at hk
    obtain ⟨hk', e⟩ := rule_at hk
    rw [e]
    exact h k hk
def BeatC (p : SvP) (H : List Int) (q : Int) (i : Nat) (r : Rw) : Prop := r.head = -q ∧ AllY (stOf H) r.body ∧ SafeR p.th (stOf H) i q
theorem beat_iff {p : SvP} {H : List Int} {q : Int} : Beat p.th (stOf H) q ↔ ∃ (k : Nat) (hk : k < p.rs.length), BeatC p H q k p.rs[k] := by
  unfold Beat BeatC
  constructor
  · rintro ⟨k, hk, h⟩
    rw [rules_len] at hk
    obtain ⟨hk', e⟩ := rule_at hk
    rw [e] at h
    exact ⟨k, hk, h⟩
  · rintro ⟨k, hk, h⟩
    obtain ⟨hk', e⟩ := rule_at hk
    exact ⟨k, hk', by rw [e]; exact h⟩
end Go.Proofs.YtjfiodknjchngaaGreatDoor.Sol
namespace Go.Proofs.YtjfiodknjchngaaGreatDoor.Sol
open Go.RowKit Mem Thy Nest Day Thm MapSet

end Go.Proofs.YtjfiodknjchngaaGreatDoor.Sol
namespace Go.Proofs.YtjfiodknjchngaaGreatDoor.Sol
open Go.RowKit Mem Thy Nest Day Thm MapSet

end Go.Proofs.YtjfiodknjchngaaGreatDoor.Sol
namespace Go.Proofs.YtjfiodknjchngaaGreatDoor.Sol
open Go.RowKit Mem Thy Nest Day Thm MapSet

theorem set_keep {n : Nat} {a : Addr} (w : World) (ha : n ≤ a.block) (v : Value) : Below n w (w.setCell a v) := (Below.refl n w).setCell ha v
/-- the world behind Say -/
def sayW (p : SvP) (a b : Bool) (q : Int) (w : World) : World := match a, b with
  | true, true => (w.setCell ⟨p.sb, place q, none⟩ (.int .i64 2)).setCell ⟨p.sb, place q, none⟩ (.int .i64 1)
  | true, false => w.setCell ⟨p.sb, place q, none⟩ (.int .i64 2)
  | false, true => (w.setCell ⟨p.hb, place q, none⟩ (.int .i64 2)).setCell ⟨p.hb, place q, none⟩ (.int .i64 1)
  | false, false => w.setCell ⟨p.hb, place q, none⟩ (.int .i64 2)
end Go.Proofs.YtjfiodknjchngaaGreatDoor.Sol

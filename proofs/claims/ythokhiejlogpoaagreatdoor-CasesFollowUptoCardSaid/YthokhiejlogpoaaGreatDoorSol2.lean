/- A theory's solver: all, fails, supported, bare. A theory's solver: what is above what; outdone, opposed, bare, beaten. A theory's solver: opposed, bare, beaten. A theory's solver: beaten. A theory's solver: what follows; what is said. A theory's solver: what is said. -/
import Derived.Test.YthokhiejlogpoaaGreatDoorSol
import Derived.DeepKeys4
import Derived.WalkArith
import Derived.Test.YthokhiejlogpoaaGreatDoorThy
namespace Go.Proofs.YthokhiejlogpoaaGreatDoor.Sol
open Go.RowKit Mem Thy Nest Day Thm MapSet

theorem rules_ex {p : SvP} (Q : Rl → Prop) : (∃ x ∈ p.rs, Q x.rl) ↔ ∃ r ∈ p.th.rules, Q r := by
  unfold SvP.th
  constructor
  · rintro ⟨x, h, q⟩; exact ⟨x.rl, List.mem_map.2 ⟨x, h, rfl⟩, q⟩
  · rintro ⟨r, h, q⟩
    obtain ⟨x, hx, rfl⟩ := List.mem_map.1 h
    exact ⟨x, hx, q⟩
end Go.Proofs.YthokhiejlogpoaaGreatDoor.Sol
namespace Go.Proofs.YthokhiejlogpoaaGreatDoor.Sol
open Go.RowKit Mem Thy Nest Day Thm MapSet

instance (t : Th) (k i : Nat) : Decidable (Above t k i) := by unfold Above; infer_instance
theorem zeroB (w : World) : (zeroValue 4).run Tryz.prog w = .ok (.bool false) w := by kernel_rfl
theorem laidOut : laidOutB Tryz.prog = true := by kernel_rfl
theorem pair_law : Go.Maps.Keyed Tryz.prog 169 := Go.Maps.Keyed.of_law (deep_law_laid laidOut (m := 2) (by omega) (of_decide_eq_true (by kernel_rfl)) (by kernel_rfl) (by kernel_rfl))
theorem pair_key (a b : Int) (ha : (Lit.int .i64 a).wf = true) (hb : (Lit.int .i64 b).wf = true) : ∃ kl, keyOf Tryz.prog 169 (pairVal (a, b)) = some kl := by
  have h1 : Tryz.prog.keyType 169 = true := by kernel_rfl
  have h2 : (pairVal (a, b)).formed Tryz.prog 169 = true := by
    unfold pairVal Value.formed
    rw [Tryz.underlying169]
    simp only [show Tryz.prog.cellsOf 169 = 2 from by kernel_rfl]
    rfl
  have h3 : Tryz.prog.types.size = (300 - 1) + 1 := by kernel_rfl
  have h4 : Tryz.prog.keyLits (Tryz.prog.types.size + 1) 169 [.int .i64 a, .int .i64 b] = some [.int .i64 a, .int .i64 b] := by
    rw [h3]
    have e : ∀ (n : Nat) (x : Int), (Lit.int .i64 x).wf = true → Tryz.prog.keyLits (n + 1) 3 [.int .i64 x] = some [.int .i64 x] := fun n x hx => by
      unfold Program.keyLits
      rw [Tryz.underlying3]
      simp [hx]
    unfold Program.keyLits
    rw [Tryz.underlying169]
    simp only [show Tryz.prog.cellsOf 169 = 2 from by kernel_rfl, show Tryz.prog.cellsOf 3 = 1 from by kernel_rfl]
    simp [List.range, List.range.loop, e _ _ ha, e _ _ hb]
  unfold keyOf
  rw [Tryz.underlying169]
  have h5 : (pairVal (a, b)).cells.toList = [.int .i64 a, .int .i64 b] := rfl
  simp only [h1, h2, Bool.and_self, if_true, h5, h4, Option.map_some]
  exact ⟨_, rfl⟩
theorem rule_at {p : SvP} {k : Nat} (hk : k < p.rs.length) : ∃ h : k < p.th.rules.length, p.th.rules[k] = p.rs[k].rl := ⟨by simpa [SvP.th] using hk, by simp [SvP.th]⟩
theorem rules_len (p : SvP) : p.th.rules.length = p.rs.length := by simp [SvP.th]
def OutC (p : SvP) (H : List Int) (i : Nat) (q : Int) (k : Nat) (r : Rw) : Prop := r.head = q ∧ r.kind ≠ 2 ∧ Above p.th k i ∧ AllY (stOf H) r.body
theorem outd_iff {p : SvP} {H : List Int} {i : Nat} {q : Int} : Outd p.th (stOf H) i q ↔ ∃ (k : Nat) (hk : k < p.rs.length), OutC p H i q k p.rs[k] := by
  unfold Outd OutC
  constructor
  · rintro ⟨k, hk, h⟩
    rw [rules_len] at hk
    obtain ⟨hk', e⟩ := rule_at hk
    rw [e] at h
    exact ⟨k, hk, h⟩
  · rintro ⟨k, hk, h⟩
    obtain ⟨hk', e⟩ := rule_at hk
    exact ⟨k, hk', by rw [e]; exact h⟩
end Go.Proofs.YthokhiejlogpoaaGreatDoor.Sol
namespace Go.Proofs.YthokhiejlogpoaaGreatDoor.Sol
open Go.RowKit Mem Thy Nest Day Thm MapSet

def OppC (p : SvP) (H : List Int) (q : Int) (i : Nat) (r : Rw) : Prop := r.head = -q ∧ ¬ Fails (stOf H) r.body ∧ ¬ Outd p.th (stOf H) i q
theorem opp_iff {p : SvP} {H : List Int} {q : Int} : Opp p.th (stOf H) q ↔ ∃ (k : Nat) (hk : k < p.rs.length), OppC p H q k p.rs[k] := by
  unfold Opp OppC
  constructor
  · rintro ⟨k, hk, h⟩
    rw [rules_len] at hk
    obtain ⟨hk', e⟩ := rule_at hk
    rw [e] at h
    exact ⟨k, hk, h⟩
  · rintro ⟨k, hk, h⟩
    obtain ⟨hk', e⟩ := rule_at hk
    exact ⟨k, hk', by rw [e]; exact h⟩
def SafeC (p : SvP) (H : List Int) (i : Nat) (q : Int) (k : Nat) (r : Rw) : Prop := r.head = q → r.kind ≠ 2 → Above p.th k i → Fails (stOf H) r.body
theorem safe_iff {p : SvP} {H : List Int} {i : Nat} {q : Int} : SafeR p.th (stOf H) i q ↔ ∀ (k : Nat) (hk : k < p.rs.length), SafeC p H i q k p.rs[k] := by
  unfold SafeR SafeC
  constructor
  · intro h k hk
    obtain ⟨hk', e⟩ := rule_at hk
    have := h k hk'
    rw [e] at this
    exact this
  · intro h k hk
    rw [rules_len] at hk
    obtain ⟨hk', e⟩ := rule_at hk
    rw [e]
    exact h k hk
def BeatC (p : SvP) (H : List Int) (q : Int) (i : Nat) (r : Rw) : Prop := r.head = -q ∧ AllY (stOf H) r.body ∧ SafeR p.th (stOf H) i q
theorem beat_iff {p : SvP} {H : List Int} {q : Int} : Beat p.th (stOf H) q ↔ ∃ (k : Nat) (hk : k < p.rs.length), BeatC p H q k p.rs[k] := by
  unfold Beat BeatC
  constructor
  · rintro ⟨k, hk, h⟩
    rw [rules_len] at hk
    obtain ⟨hk', e⟩ := rule_at hk
    rw [e] at h
    exact ⟨k, hk, h⟩
  · rintro ⟨k, hk, h⟩
    obtain ⟨hk', e⟩ := rule_at hk
    exact ⟨k, hk', by rw [e]; exact h⟩
end Go.Proofs.YthokhiejlogpoaaGreatDoor.Sol
namespace Go.Proofs.YthokhiejlogpoaaGreatDoor.Sol
open Go.RowKit Mem Thy Nest Day Thm MapSet

end Go.Proofs.YthokhiejlogpoaaGreatDoor.Sol
namespace Go.Proofs.YthokhiejlogpoaaGreatDoor.Sol
open Go.RowKit Mem Thy Nest Day Thm MapSet

end Go.Proofs.YthokhiejlogpoaaGreatDoor.Sol
namespace Go.Proofs.YthokhiejlogpoaaGreatDoor.Sol
open Go.RowKit Mem Thy Nest Day Thm MapSet

theorem set_keep {n : Nat} {a : Addr} (w : World) (ha : n ≤ a.block) (v : Value) : Below n w (w.setCell a v) := (Below.refl n w).setCell ha v
/-- the world behind Say -/
def sayW (p : SvP) (a b : Bool) (q : Int) (w : World) : World := match a, b with
  | true, true => (w.setCell ⟨p.sb, place q, none⟩ (.int .i64 2)).setCell ⟨p.sb, place q, none⟩ (.int .i64 1)
  | true, false => w.setCell ⟨p.sb, place q, none⟩ (.int .i64 2)
  | false, true => (w.setCell ⟨p.hb, place q, none⟩ (.int .i64 2)).setCell ⟨p.hb, place q, none⟩ (.int .i64 1)
  | false, false => w.setCell ⟨p.hb, place q, none⟩ (.int .i64 2)
end Go.Proofs.YthokhiejlogpoaaGreatDoor.Sol

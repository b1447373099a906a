/- The program's error and the document's number of a theory that is wrong: one. -/
import Derived.Test.YthokhiejlogpoaaGreatDoorRng
import Derived.Test.YthokhiejlogpoaaGreatDoorCoded1
namespace Go.Proofs.YthokhiejlogpoaaGreatDoor.Agree
open Go.RowKit Mem Thy Nest Day Thm Sol Val Solve LawT Sh Rng Err

def Same (rs rs' : List Rw) : Prop := rs'.map Rw.rl = rs.map Rw.rl
theorem Same.symm {rs rs' : List Rw} (h : Same rs rs') : Same rs' rs := Eq.symm h
theorem Same.len {rs rs' : List Rw} (h : Same rs rs') : rs'.length = rs.length := by
  have := congrArg List.length h
  simpa using this
theorem Same.ex {rs rs' : List Rw} (h : Same rs rs') (P : Rl → Prop) : (∃ r ∈ rs', P r.rl) → ∃ r ∈ rs, P r.rl := fun ⟨r, hr, hp⟩ => by
  have h1 : r.rl ∈ rs.map Rw.rl := by rw [← show rs'.map Rw.rl = rs.map Rw.rl from h]; exact List.mem_map.2 ⟨r, hr, rfl⟩
  obtain ⟨r2, h2, e⟩ := List.mem_map.1 h1
  exact ⟨r2, h2, by rw [e]; exact hp⟩
theorem Same.bd {N : Int} {rs rs' : List Rw} {ov : List (Int × Int)} (h : Same rs rs') : Bd N rs' ov → Bd N rs ov := by
  rintro (hb | hb)
  · left
    unfold Bound0 at hb ⊢
    rw [h.len] at hb
    exact hb
  · exact .inr (h.ex (fun r => 120 < r.body.length) hb)
theorem Same.kd {rs rs' : List Rw} (h : Same rs rs') : Kd rs' → Kd rs := h.ex (fun r => r.kind < 0 ∨ 2 < r.kind)
theorem Same.nm {N : Int} {rs rs' : List Rw} {ov : List (Int × Int)} (h : Same rs rs') : Nm N rs' ov → Nm N rs ov := by
  rintro (hb | hb)
  · exact .inl (h.ex (fun r => ¬ LitW N r.head ∨ ∃ x ∈ r.body, ¬ LitW N x) hb)
  · right
    rw [h.len] at hb
    exact hb
theorem Same.right {N : Int} {rs rs' : List Rw} {ov : List (Int × Int)} (h : Same rs rs') (r : Right N rs' ov) : Right N rs ov :=
  ⟨fun x => r.b (h.symm.bd x), fun x => r.k (h.symm.kd x), fun x => r.n (h.symm.nm x), r.o⟩
theorem four {w : World} {A : Nat → Addr} (h : Errs w A) : E4 w (A 1) (A 8) (A 6) (A 7) := ⟨⟨h.v1, h.v8, h.v6, h.v7⟩⟩
theorem agree {N : Int} {rs rs' : List Rw} {ov : List (Int × Int)} (h : Same rs rs') {A : Nat → Addr} {v : Value} {c : Int} (hv : VOut N rs' ov (errV (A 1)) (errV (A 8)) (errV (A 6)) (errV (A 7)) v) (hc : VCode N rs ov c) :
    (Right N rs ov ∧ v = .nilIface ∧ c = 0) ∨ (¬ Right N rs ov ∧ ∃ k : Nat, k < 11 ∧ v = sentV (A k) ∧ c = (k : Int) + 1) := by
  have b1 := h.bd (N := N) (ov := ov)
  have b2 := h.symm.bd (N := N) (ov := ov)
  have k1 := h.kd
  have k2 := h.symm.kd
  have n1 := h.nm (N := N) (ov := ov)
  have n2 := h.symm.nm (N := N) (ov := ov)
  rcases hc with ⟨h1, rfl⟩ | ⟨h1, h2, rfl⟩ | ⟨h1, h2, h3, rfl⟩ | ⟨h1, h2, h3, h4, rfl⟩ | ⟨h1, h2, h3, h4, rfl⟩
  · refine .inr ⟨fun r => r.b h1, 1, by omega, ?_, rfl⟩
    rcases hv with ⟨_, e⟩ | ⟨g1, _⟩ | ⟨g1, _⟩ | ⟨g1, _⟩ | ⟨g1, _⟩
    · exact e
    all_goals exact absurd (b2 h1) g1
  · refine .inr ⟨fun r => r.k h2, 8, by omega, ?_, rfl⟩
    rcases hv with ⟨g1, _⟩ | ⟨_, _, e⟩ | ⟨_, g2, _⟩ | ⟨_, g2, _⟩ | ⟨_, g2, _⟩
    · exact absurd (b1 g1) h1
    · exact e
    all_goals exact absurd (k2 h2) g2
  · refine .inr ⟨fun r => r.n h3, 6, by omega, ?_, rfl⟩
    rcases hv with ⟨g1, _⟩ | ⟨_, g2, _⟩ | ⟨_, _, _, e⟩ | ⟨_, _, g3, _⟩ | ⟨_, _, g3, _⟩
    · exact absurd (b1 g1) h1
    · exact absurd (k1 g2) h2
    · exact e
    all_goals exact absurd (n2 h3) g3
  · refine .inr ⟨fun r => h4 r.o, 7, by omega, ?_, rfl⟩
    rcases hv with ⟨g1, _⟩ | ⟨_, g2, _⟩ | ⟨_, _, g3, _⟩ | ⟨_, _, _, _, e⟩ | ⟨_, _, _, g4, _⟩
    · exact absurd (b1 g1) h1
    · exact absurd (k1 g2) h2
    · exact absurd (n1 g3) h3
    · exact e
    · exact absurd g4 h4
  · refine .inl ⟨⟨h1, h2, h3, h4⟩, ?_, rfl⟩
    rcases hv with ⟨g1, _⟩ | ⟨_, g2, _⟩ | ⟨_, _, g3, _⟩ | ⟨_, _, _, g4, _⟩ | ⟨_, _, _, _, e⟩
    · exact absurd (b1 g1) h1
    · exact absurd (k1 g2) h2
    · exact absurd (n1 g3) h3
    · exact absurd h4 g4
    · exact e
theorem VCode.right {N : Int} {rs : List Rw} {ov : List (Int × Int)} {c : Int} (h : VCode N rs ov c) : (c = 0 ↔ Right N rs ov) := by
  rcases h with ⟨h1, rfl⟩ | ⟨h1, h2, rfl⟩ | ⟨h1, h2, h3, rfl⟩ | ⟨h1, h2, h3, h4, rfl⟩ | ⟨h1, h2, h3, h4, rfl⟩
  · exact iff_of_false (by omega) fun r => r.b h1
  · exact iff_of_false (by omega) fun r => r.k h2
  · exact iff_of_false (by omega) fun r => r.n h3
  · exact iff_of_false (by omega) fun r => h4 r.o
  · exact iff_of_true rfl ⟨h1, h2, h3, h4⟩
end Go.Proofs.YthokhiejlogpoaaGreatDoor.Agree

/- The law WhySound answers true: the walk. -/
import Derived.Test.YthokhiejlogpoaaGreatDoorCheck
import Derived.Test.YthokhiejlogpoaaGreatDoorLawT
namespace Go.Proofs.YthokhiejlogpoaaGreatDoor.WhySound
open Go.RowKit Mem Thy Nest Day Thm Sol Val Solve LawT ChkW App

def BoolT (w : World) (e : Ending) (w' : World) : Prop := e = .returned (.bool true) ∧ Below w.heap.size w w'
def StepsPost (l : List Sp) (w : World) (e : Ending) (w' : World) : Prop := ∃ (A : Option Addr) (c : Nat), e = .returned (.slice A l.length c) ∧ Rd w' A (l.flatMap spCells) ∧ Below w.heap.size w w'
def strictR : Rw := ⟨0, 1, [], none, 0⟩
theorem strict_right : Right 1 [strictR] [] := by
  refine ⟨?_, ?_, ?_, ⟨fun _ => 0, fun p hp => by cases hp⟩⟩
  · rintro (h | ⟨r, hr, h⟩)
    · unfold Bound0 at h; simp at h
    · simp at hr; subst hr; unfold BodyB strictR at h; simp at h
  · rintro ⟨r, hr, h⟩
    simp at hr; subst hr; unfold KindB strictR at h; simp at h
  · rintro (⟨r, hr, h⟩ | ⟨p, hp, _⟩)
    · simp at hr; subst hr
      rcases h with h | ⟨x, hx, _⟩
      · exact h ((litW_iff (by omega) (by omega)).2 (by simp [strictR]))
      · cases hx
    · cases hp
theorem strict_chk : Chk (thOf 1 [strictR] []) [⟨true, true, 1⟩] (fun _ => 0) (fun _ => 0) :=
  ⟨by simp [Th.Lit, thOf], ⟨⟨0, 1, []⟩, by simp [thOf, strictR, Rw.rl], rfl, rfl, fun x hx => by cases hx⟩, trivial⟩
set_option maxHeartbeats 400000 in
theorem islit_yes (b o n : Nat) (q : Int) (w : World) (h : w.cell? ⟨b, o, none⟩ = some (.int .i64 n)) (hn : n ≤ 120) (q0 : q ≠ 0) (q1 : -(n : Int) ≤ q) (q2 : q ≤ n) :
    Calls Tryz.prog 120 #[.pointer (some ⟨b, o, none⟩), .int .i64 q] w fun e w' => e = .returned (.bool true) ∧ w = w' := by
  have e0 : (q != 0) = true := by simp [q0]
  have e1 : decide (q ≤ (n : Int)) = true := by simp [q2]
  have e2 : decide (-(n : Int) ≤ q) = true := by simp [q1]
  clear q0
  go_enter Tryz.func120, Tryz.ntmps120
  go_wp2_with fail
  go_ret
  exact ⟨rfl, rfl⟩
end Go.Proofs.YthokhiejlogpoaaGreatDoor.WhySound

/- The law WhySound answers true: the walk. -/
import Derived.Test.YtjnkcpeicocjhaaDoorCheck
import Derived.Test.YtjnkcpeicocjhaaDoorLawT
namespace Go.Proofs.YtjnkcpeicocjhaaDoor.WhySound
open Go.RowKit Mem Thy Nest Day Thm Sol Val Solve LawT ChkW App

def BoolT (w : World) (e : Ending) (w' : World) : Prop := e = .returned (.bool true) ∧ Below w.heap.size w w'
theorem step_info : (Tryd.prog.info? 73).map (fun i => (i.zero, i.size, i.bytes)) = some (some (.agg #[.bool false, .bool false, .int .i64 0]), 3, 16) := by kernel_rfl
set_option maxHeartbeats 400000 in
theorem step_any (a b : Bool) (q : Int) (w : World) :
    Calls Tryd.prog 23 #[.agg #[.bool a, .bool b, .int .i64 q]] w fun e w' => e = .returned (.agg #[.bool a, .bool b, .int .i64 q]) ∧ Below w.heap.size w w' := by
  go_enter Tryd.func23, Tryd.ntmps23
  go_wp2_with fail
  refine bodyPost_ret (v := .agg #[.bool a, .bool b, .int .i64 q]) (by simp [results, Tryd.results23, go_sem]) rfl ⟨rfl, ext_trans (ext_alloc _ _) (ext_alloc _ _)⟩
def StepsPost (l : List Sp) (w : World) (e : Ending) (w' : World) : Prop := ∃ (A : Option Addr) (c : Nat), e = .returned (.slice A l.length c) ∧ Rd w' A (l.flatMap spCells) ∧ Below w.heap.size w w'
def strictR : Rw := ⟨0, 1, [], none, 0⟩
theorem strict_right : Right 1 [strictR] [] := by
  refine ⟨?_, ?_, ?_, ⟨fun _ => 0, fun p hp => by cases hp⟩⟩
  · rintro (h | ⟨r, hr, h⟩)
    · unfold Bound0 at h; simp at h
    · simp at hr; subst hr; unfold BodyB strictR at h; simp at h
  · rintro ⟨r, hr, h⟩
    simp at hr; subst hr; unfold KindB strictR at h; simp at h
  · rintro (⟨r, hr, h⟩ | ⟨p, hp, _⟩)
    · simp at hr; subst hr
      rcases h with h | ⟨x, hx, _⟩
      · exact h ((litW_iff (by omega) (by omega)).2 (by simp [strictR]))
      · cases hx
    · cases hp
theorem strict_chk : Chk (thOf 1 [strictR] []) [⟨true, true, 1⟩] (fun _ => 0) (fun _ => 0) :=
  ⟨by simp [Th.Lit, thOf], ⟨⟨0, 1, []⟩, by simp [thOf, strictR, Rw.rl], rfl, rfl, fun x hx => by cases hx⟩, trivial⟩
set_option maxHeartbeats 1000000 in
theorem checks_any (aB aK aN aO : Addr) (w : World) (hE : E4 w aB aK aN aO) :
    Calls Tryd.prog 19 #[] w fun e w' => e = .returned (.bool true) ∧ Below w.heap.size w w' := by
  have hx1 := ext_alloc w (.cells #[.int .i64 0, .int .i64 1, .slice none 0 0] 131)
  have hx2 := ext_alloc (w.alloc (.cells #[.int .i64 0, .int .i64 1, .slice none 0 0] 131)) (.cells #[.int .i64 1, .slice (some ⟨w.heap.size, 0, none⟩) 1 1, .slice none 0 0] 71)
  have hx3 := ext_alloc ((w.alloc (.cells #[.int .i64 0, .int .i64 1, .slice none 0 0] 131)).alloc (.cells #[.int .i64 1, .slice (some ⟨w.heap.size, 0, none⟩) 1 1, .slice none 0 0] 71)) (.cells #[.bool true, .bool true, .int .i64 1] 73)
  have hrd : Rd (w.alloc (.cells #[.int .i64 0, .int .i64 1, .slice none 0 0] 131)) (some ⟨w.heap.size, 0, none⟩) ([strictR].flatMap rwCells) := fun j u hj => by
    refine ⟨w.heap.size, 0, rfl, ?_⟩
    rw [World.cell?_alloc_at _ _ _ _ rfl]
    simpa [rwCells, strictR] using hj
  have hst : Rd (((w.alloc (.cells #[.int .i64 0, .int .i64 1, .slice none 0 0] 131)).alloc (.cells #[.int .i64 1, .slice (some ⟨w.heap.size, 0, none⟩) 1 1, .slice none 0 0] 71)).alloc (.cells #[.bool true, .bool true, .int .i64 1] 73)) (some ⟨w.heap.size + 1 + 1, 0, none⟩) ([(⟨true, true, 1⟩ : Sp)].flatMap spCells) := fun j u hj => by
    refine ⟨w.heap.size + 1 + 1, 0, rfl, ?_⟩
    rw [World.cell?_alloc_at _ _ _ _ (by simp)]
    simpa [spCells] using hj
  have hx23 := ext_trans hx2 hx3
  have HS := Lib.hid (show Calls Tryd.prog 47 #[.agg #[.int .i64 1, .slice (some ⟨w.heap.size, 0, none⟩) 1 1, .slice none 0 0], .slice (some ⟨w.heap.size + 1 + 1, 0, none⟩) 1 1] (((w.alloc (.cells #[.int .i64 0, .int .i64 1, .slice none 0 0] 131)).alloc (.cells #[.int .i64 1, .slice (some ⟨w.heap.size, 0, none⟩) 1 1, .slice none 0 0] 71)).alloc (.cells #[.bool true, .bool true, .int .i64 1] 73)) (CheckPost 1 [strictR] [] [⟨true, true, 1⟩] aB aK aN aO _) from
    check_any 1 [strictR] _ 1 [] (by simp) none 0 [⟨true, true, 1⟩] (by simp) _ 1 aB aK aN aO _ ⟨hrd.ext hx23, fun r hr => by simp at hr; subst hr; exact Rd.nil, fun r hr => by simp at hr; subst hr; simp [strictR, maxLen], by simp [maxLen]⟩ Rd.nil (hE.e.ext (ext_trans hx1 hx23)) hst)
  have HX := Lib.hid (ext_trans hx1 hx23)
  clear hx1 hx2 hx3 hx23 hrd hst hE
  go_enter Tryd.func19, Tryd.ntmps19
  go_wp2_with fail
  refine HS.out.mono ?_
  rintro e w1 ⟨b, ev, rfl, hb, h⟩
  rcases h with ⟨hn, _⟩ | ⟨_, rfl, n, hn, hc⟩
  · exact absurd strict_right hn
  · obtain rfl : n = 1 := by omega
    obtain rfl : b = true := hc.2 strict_chk
    have HB := Lib.hid (ext_trans HX.out hb)
    clear hb hn hc
    go_wp2_with fail
    go_ret
    exact ⟨rfl, HB.out⟩
set_option maxHeartbeats 400000 in
theorem islit_yes (b o n : Nat) (q : Int) (w : World) (h : w.cell? ⟨b, o, none⟩ = some (.int .i64 n)) (hn : n ≤ 120) (q0 : q ≠ 0) (q1 : -(n : Int) ≤ q) (q2 : q ≤ n) :
    Calls Tryd.prog 26 #[.pointer (some ⟨b, o, none⟩), .int .i64 q] w fun e w' => e = .returned (.bool true) ∧ w = w' := by
  have e0 : (q != 0) = true := by simp [q0]
  have e1 : decide (q ≤ (n : Int)) = true := by simp [q2]
  have e2 : decide (-(n : Int) ≤ q) = true := by simp [q1]
  clear q0
  go_enter Tryd.func26, Tryd.ntmps26
  go_wp2_with fail
  go_ret
  exact ⟨rfl, rfl⟩
end Go.Proofs.YtjnkcpeicocjhaaDoor.WhySound

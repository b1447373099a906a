/- The law WhySound answers true: the walk. -/
import Derived.Test.YtnbpdknmbjkfeaaDoorCheck
import Derived.Test.YtnbpdknmbjkfeaaDoorLawT
namespace Go.Proofs.YtnbpdknmbjkfeaaDoor.WhySound
open Go.RowKit Mem Thy Nest Day Thm Sol Val Solve LawT ChkW App

def BoolT (w : World) (e : Ending) (w' : World) : Prop := e = .returned (.bool true) ∧ Below w.heap.size w w'
theorem step_info : (Tryd.prog.info? 118).map (fun i => (i.zero, i.size, i.bytes)) = some (some (.agg #[.bool false, .bool false, .int .i64 0]), 3, 16) := by kernel_rfl
set_option maxHeartbeats 400000 in
theorem step_any (a b : Bool) (q : Int) (w : World) :
    Calls Tryd.prog 54 #[.agg #[.bool a, .bool b, .int .i64 q]] w fun e w' => e = .returned (.agg #[.bool a, .bool b, .int .i64 q]) ∧ Below w.heap.size w w' := by
  go_enter Tryd.func54, Tryd.ntmps54
  go_wp2_with fail
  refine bodyPost_ret (v := .agg #[.bool a, .bool b, .int .i64 q]) (by simp [results, Tryd.results54, go_sem]) rfl ⟨rfl, ext_trans (ext_alloc _ _) (ext_alloc _ _)⟩
def StepsPost (l : List Sp) (w : World) (e : Ending) (w' : World) : Prop := ∃ (A : Option Addr) (c : Nat), e = .returned (.slice A l.length c) ∧ Rd w' A (l.flatMap spCells) ∧ Below w.heap.size w w'
set_option maxHeartbeats 1000000 in
theorem steps_any (l : List Sp) (hl : l.length ≤ 1048576) (LA : Option Addr) (lc : Nat) (w : World) (h : Rd w LA (l.flatMap spCells)) :
    Calls Tryd.prog 44 #[.slice LA l.length lc] w (StepsPost l w) := by
  have H := Lib.hid h
  obtain ⟨i0, hi, hz0, hz1, hz2⟩ := info_parts step_info
  have HI := Lib.hid hi
  have HZ0 := Lib.hid hz0
  have HZ1 := Lib.hid hz1
  have HZ2 := Lib.hid hz2
  clear h hi hz0 hz1 hz2
  go_enter Tryd.func44, Tryd.ntmps44
  go_wp2_with fail
  go_loopw [3, 4] (fun t3 t4 wr => ∃ j : Nat, t4 = .int .i64 j ∧ j ≤ l.length ∧ Hid (Below w.heap.size w wr) ∧ Hid (wr.ownsRow w.heap.size 118 3 t3 j ((l.take j).flatMap spCells))) (fun _ t4 _ => l.length - (intOf t4).toNat)
  case atStart => exact ⟨0, rfl, Nat.zero_le _, Below.refl _ _, World.ownsRow_nil _ _ _ _⟩
  case round =>
    obtain ⟨j, rfl, hj, HB, HO⟩ := hrel
    by_cases hlt : j < l.length
    · obtain ⟨b, o, rfl, r0, r1, r2⟩ := step_at (H.out.ext HB.out) hlt
      obtain ⟨x, hx⟩ : ∃ x, x = l[j] := ⟨_, rfl⟩
      rw [← hx] at r0 r1 r2
      have HX := Lib.hid hx
      clear hx
      obtain ⟨xa, xb, xq⟩ := x
      simp only at r0 r1 r2
      go_wp2_with fail
      refine (step_any xa xb xq _).mono ?_
      rintro e w1 ⟨rfl, hb⟩
      have HB1 := Lib.hid (ext_trans HB.out hb)
      have HO1 := Lib.hid (own_ext HO.out hb)
      clear hb r0 r1 r2
      go_wp2_with (at_builtin; refine wpList_append_own _ rfl _ _ _ rfl w.heap.size 118 i0 _ 3 16 Tryd.underlying102 HI.out HZ0.out HZ1.out HZ2.out rfl (by omega) u3 j _ rfl (World.ownsRow.alloc HO1.out _) ⟨w1.heap.size, 0, none⟩ 1 1 [.bool xa, .bool xb, .int .i64 xq] rfl rfl (new_cells w1 [.bool xa, .bool xb, .int .i64 xq] _ _ rfl) (by intro u hu; simp only [List.mem_cons, List.not_mem_nil, or_false] at hu; rcases hu with rfl | rfl | rfl <;> rfl) (by simp only [maxLen]; omega) (by omega) (Nat.le_trans HB1.out.size (by simp)) ?_; intro v1 w2 hown1 hg1 _; have HO2 := Lib.hid hown1; have HB2 := Lib.hid (grown_ext (HB1.out.trans ((ext_alloc w1 _).mono HB1.out.size)) rfl (World.ownsRow.alloc HO1.out _) hg1); clear hown1 hg1)
      go_roundw
      case rel =>
        refine ⟨j + 1, by go_num, by omega, HB2.out, ?_⟩
        have ho := HO2.out
        show World.ownsRow _ _ _ _ _ _ _
        rw [List.take_succ_eq_append_getElem hlt, List.flatMap_append, ← HX.out]
        simpa [spCells] using ho
      case measure => simp [intOf]; omega
    · obtain rfl : l.length = j := by omega
      obtain ⟨A, c, rfl, _⟩ := own_slice HO.out
      go_wp2_with fail
      go_ret
      have h := Rd.of_own HO.out
      rw [List.take_length] at h
      exact ⟨A, c, rfl, h, HB.out⟩
def strictR : Rw := ⟨0, 1, [], none, 0⟩
theorem strict_right : Right 1 [strictR] [] := by
  refine ⟨?_, ?_, ?_, ⟨fun _ => 0, fun p hp => by cases hp⟩⟩
  · rintro (h | ⟨r, hr, h⟩)
    · unfold Bound0 at h; simp at h
    · simp at hr; subst hr; unfold BodyB strictR at h; simp at h
  · rintro ⟨r, hr, h⟩
    simp at hr; subst hr; unfold KindB strictR at h; simp at h
  · rintro (⟨r, hr, h⟩ | ⟨p, hp, _⟩)
    · simp at hr; subst hr
      rcases h with h | ⟨x, hx, _⟩
      · exact h ((litW_iff (by omega) (by omega)).2 (by simp [strictR]))
      · cases hx
    · cases hp
theorem strict_chk : Chk (thOf 1 [strictR] []) [⟨true, true, 1⟩] (fun _ => 0) (fun _ => 0) :=
  ⟨by simp [Th.Lit, thOf], ⟨⟨0, 1, []⟩, by simp [thOf, strictR, Rw.rl], rfl, rfl, fun x hx => by cases hx⟩, trivial⟩
set_option maxHeartbeats 1000000 in
theorem checks_any (aB aK aN aO : Addr) (w : World) (hE : E4 w aB aK aN aO) :
    Calls Tryd.prog 40 #[] w fun e w' => e = .returned (.bool true) ∧ Below w.heap.size w w' := by
  have hx1 := ext_alloc w (.cells #[.int .i64 0, .int .i64 1, .slice none 0 0] 162)
  have hx2 := ext_alloc (w.alloc (.cells #[.int .i64 0, .int .i64 1, .slice none 0 0] 162)) (.cells #[.int .i64 1, .slice (some ⟨w.heap.size, 0, none⟩) 1 1, .slice none 0 0] 100)
  have hx3 := ext_alloc ((w.alloc (.cells #[.int .i64 0, .int .i64 1, .slice none 0 0] 162)).alloc (.cells #[.int .i64 1, .slice (some ⟨w.heap.size, 0, none⟩) 1 1, .slice none 0 0] 100)) (.cells #[.bool true, .bool true, .int .i64 1] 118)
  have hrd : Rd (w.alloc (.cells #[.int .i64 0, .int .i64 1, .slice none 0 0] 162)) (some ⟨w.heap.size, 0, none⟩) ([strictR].flatMap rwCells) := fun j u hj => by
    refine ⟨w.heap.size, 0, rfl, ?_⟩
    rw [World.cell?_alloc_at _ _ _ _ rfl]
    simpa [rwCells, strictR] using hj
  have hst : Rd (((w.alloc (.cells #[.int .i64 0, .int .i64 1, .slice none 0 0] 162)).alloc (.cells #[.int .i64 1, .slice (some ⟨w.heap.size, 0, none⟩) 1 1, .slice none 0 0] 100)).alloc (.cells #[.bool true, .bool true, .int .i64 1] 118)) (some ⟨w.heap.size + 1 + 1, 0, none⟩) ([(⟨true, true, 1⟩ : Sp)].flatMap spCells) := fun j u hj => by
    refine ⟨w.heap.size + 1 + 1, 0, rfl, ?_⟩
    rw [World.cell?_alloc_at _ _ _ _ (by simp)]
    simpa [spCells] using hj
  have hx23 := ext_trans hx2 hx3
  have HS := Lib.hid (show Calls Tryd.prog 42 #[.agg #[.int .i64 1, .slice (some ⟨w.heap.size, 0, none⟩) 1 1, .slice none 0 0], .slice (some ⟨w.heap.size + 1 + 1, 0, none⟩) 1 1] (((w.alloc (.cells #[.int .i64 0, .int .i64 1, .slice none 0 0] 162)).alloc (.cells #[.int .i64 1, .slice (some ⟨w.heap.size, 0, none⟩) 1 1, .slice none 0 0] 100)).alloc (.cells #[.bool true, .bool true, .int .i64 1] 118)) (CheckPost 1 [strictR] [] [⟨true, true, 1⟩] aB aK aN aO _) from
    check_any 1 [strictR] _ 1 [] (by simp) none 0 [⟨true, true, 1⟩] (by simp) _ 1 aB aK aN aO _ ⟨hrd.ext hx23, fun r hr => by simp at hr; subst hr; exact Rd.nil, fun r hr => by simp at hr; subst hr; simp [strictR, maxLen], by simp [maxLen]⟩ Rd.nil (hE.e.ext (ext_trans hx1 hx23)) hst)
  have HX := Lib.hid (ext_trans hx1 hx23)
  clear hx1 hx2 hx3 hx23 hrd hst hE
  go_enter Tryd.func40, Tryd.ntmps40
  go_wp2_with fail
  refine HS.out.mono ?_
  rintro e w1 ⟨b, ev, rfl, hb, h⟩
  rcases h with ⟨hn, _⟩ | ⟨_, rfl, n, hn, hc⟩
  · exact absurd strict_right hn
  · obtain rfl : n = 1 := by omega
    obtain rfl : b = true := hc.2 strict_chk
    have HB := Lib.hid (ext_trans HX.out hb)
    clear hb hn hc
    go_wp2_with fail
    go_ret
    exact ⟨rfl, HB.out⟩
set_option maxHeartbeats 400000 in
theorem islit_yes (b o n : Nat) (q : Int) (w : World) (h : w.cell? ⟨b, o, none⟩ = some (.int .i64 n)) (hn : n ≤ 120) (q0 : q ≠ 0) (q1 : -(n : Int) ≤ q) (q2 : q ≤ n) :
    Calls Tryd.prog 55 #[.pointer (some ⟨b, o, none⟩), .int .i64 q] w fun e w' => e = .returned (.bool true) ∧ w = w' := by
  have e0 : (q != 0) = true := by simp [q0]
  have e1 : decide (q ≤ (n : Int)) = true := by simp [q2]
  have e2 : decide (-(n : Int) ≤ q) = true := by simp [q1]
  clear q0
  go_enter Tryd.func55, Tryd.ntmps55
  go_wp2_with fail
  go_ret
  exact ⟨rfl, rfl⟩
end Go.Proofs.YtnbpdknmbjkfeaaDoor.WhySound

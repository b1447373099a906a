/- statutelaw4.live: the program answers. -/
import Derived.Test.YtipbmpakdcmdoaaDoorLawT2
namespace Go.Proofs.YtipbmpakdcmdoaaDoor.LawT
open Go.RowKit Mem Thy Nest Day Thm Solve Val

def oneR : Rw := ⟨1, 1, [], none, 0⟩
theorem one_right : Right 1 [oneR] [] := by
  refine ⟨?_, ?_, ?_, ⟨fun _ => 0, fun p hp => by cases hp⟩⟩
  · rintro (h | ⟨r, hr, h⟩)
    · unfold Bound0 at h; simp at h
    · simp at hr; subst hr; unfold BodyB oneR at h; simp at h
  · rintro ⟨r, hr, h⟩
    simp at hr; subst hr; unfold KindB oneR at h; simp at h
  · rintro (⟨r, hr, h⟩ | ⟨p, hp, _⟩)
    · simp at hr; subst hr
      rcases h with h | ⟨x, hx, _⟩
      · exact h ((litW_iff (by omega) (by omega)).2 (by simp [oneR]))
      · cases hx
    · cases hp
theorem one_plain {s h : St} (g : Thy.Good (thOf 1 [oneR] []) s h) (f : Thy.Fin (thOf 1 [oneR] []) s h) : h 1 = 1 ∧ h (-1) = 2 := by
  have hr : ∀ r ∈ (thOf 1 [oneR] []).rules, r = ⟨1, 1, []⟩ := fun r hr => by simpa [thOf, oneR, Rw.rl] using hr
  have l1 : (thOf 1 [oneR] []).Lit 1 := by simp [Th.Lit, thOf]
  have l2 : (thOf 1 [oneR] []).Lit (-1) := by simp [Th.Lit, thOf]
  have n : ∀ q, SureN (thOf 1 [oneR] []) s q := fun q r hr' hk => by rw [hr r hr'] at hk; simp at hk
  have s1 := g.fin f (a := true) (b := false) l1 (n 1)
  have s2 := g.fin f (a := true) (b := false) l2 (n (-1))
  refine ⟨g.fin f (a := false) (b := true) l1 (.inr ⟨s2, ⟨⟨1, 1, []⟩, by simp [thOf, oneR, Rw.rl], by simp, rfl, fun x hx => by cases hx⟩, ?_⟩), g.fin f (a := false) (b := false) l2 ⟨s2, .inr (.inl fun r hr' _ he => ?_)⟩⟩
  · rintro ⟨i, hi, he, _⟩
    have := hr _ (List.getElem_mem hi)
    rw [this] at he
    simp at he
  · rw [hr r hr'] at he
    simp at he
/-- the errors that the road reads -/
structure E4 (w : World) (aB aK aN aO : Addr) : Prop where
  e : ErrR w (errV aB) (errV aK) (errV aN) (errV aO)
theorem E4.ext {w w' : World} {aB aK aN aO : Addr} (h : E4 w aB aK aN aO) (hb : Below w.heap.size w w') : E4 w' aB aK aN aO := ⟨h.e.ext hb⟩
set_option maxHeartbeats 1000000 in
theorem live_any (aB aK aN aO : Addr) (w : World) (hE : E4 w aB aK aN aO) :
    Calls Tryd.prog 27 #[] w fun e w' => e = .returned (.bool true) ∧ Below w.heap.size w w' := by
  have hx := ext_alloc w (.cells #[.int .i64 1, .int .i64 1, .slice none 0 0] 115)
  have hrd : Rd (w.alloc (.cells #[.int .i64 1, .int .i64 1, .slice none 0 0] 115)) (some ⟨w.heap.size, 0, none⟩) ([oneR].flatMap rwCells) := fun j u hj => by
    refine ⟨w.heap.size, 0, rfl, ?_⟩
    rw [World.cell?_alloc_at _ _ _ _ rfl]
    simpa [rwCells, oneR] using hj
  have HS := Lib.hid (show Calls Tryd.prog 29 #[.agg #[.int .i64 1, .slice (some ⟨w.heap.size, 0, none⟩) 1 1, .slice none 0 0]] (w.alloc (.cells #[.int .i64 1, .int .i64 1, .slice none 0 0] 115)) (SolvePost 1 [oneR] [] aB aK aN aO _) from
    solve_any 1 [oneR] _ 1 [] (by simp) none 0 aB aK aN aO _ ⟨hrd, fun r hr => by simp at hr; subst hr; exact Rd.nil, fun r hr => by simp at hr; subst hr; simp [oneR, maxLen], by simp [maxLen]⟩ Rd.nil (hE.e.ext hx))
  have HX := Lib.hid hx
  clear hx hrd hE
  go_enter Tryd.func27, Tryd.ntmps27
  go_wp2_with fail
  refine HS.out.mono ?_
  rintro e w1 ⟨kv, ev, rfl, hb, h⟩
  rcases h with ⟨hn, _⟩ | ⟨_, rfl, n, sb, hbb, S, H, hn, rfl, hS, hH, lS, lH, hg, hf⟩
  · exact absurd one_right hn
  · obtain rfl : n = 1 := by omega
    obtain ⟨p1, p2⟩ := one_plain hg hf
    have e0 : H[0]'(by omega) = 1 := by rw [← stOf_lit H (p := 0) (by omega)]; exact p1
    have e1 : H[1]'(by omega) = 2 := by rw [← stOf_lit H (p := 1) (by omega)]; exact p2
    have HB := Lib.hid (ext_trans HX.out hb)
    have y0 : ∀ o, (w1.alloc o).cell? ⟨hbb, 0, none⟩ = some (.int .i64 1) := fun o => by rw [Sol.ints_at (Sol.blk_ext hH (ext_alloc w1 o)) (j := 0) (by omega), e0]
    have y1 : ∀ o, (w1.alloc o).cell? ⟨hbb, 1, none⟩ = some (.int .i64 2) := fun o => by rw [Sol.ints_at (Sol.blk_ext hH (ext_alloc w1 o)) (j := 1) (by omega), e1]
    clear hb hS hH lS hg hf p1 p2 e0 e1 hn lH
    go_wp2_with fail
    go_ret
    exact ⟨rfl, ext_trans HB.out (ext_alloc _ _)⟩
end Go.Proofs.YtipbmpakdcmdoaaDoor.LawT

/- Gaps: sameInts and coded of the statement's package, the empty table's gap. -/
import Derived.Test.YtjfiodknjchngaaDoorGpU
import Derived.Test.YtjfiodknjchngaaDoorCoded1
namespace Go.Proofs.YtjfiodknjchngaaDoor.Gp
open Go.RowKit Mem Nest Fk Err

theorem vcode_le (qs : List Qn) (rs : List Rw) : vcode qs rs ≤ 11 := by
  unfold vcode codeOf
  repeat' split
  all_goals omega
theorem coded5V_any (A : Nat → Addr) (c : Nat) (hc : c ≤ 11) (w : World) (hE : Errs w A) : Calls Tryd.prog 10 #[errVal A c, .int .i64 c] w (RetA true w) := by
  unfold errVal
  by_cases h0 : c = 0
  · subst h0
    rw [if_pos rfl]
    exact (coded5_nil ((0 : Nat) : Int) w).mono fun e w' h => ⟨by rw [h.1]; simp, by rw [h.2]; exact Below.refl _ _⟩
  · rw [if_neg h0]
    exact (coded5_sent (c - 1) (by omega) (c : Int) A w hE).mono fun e w' h => ⟨by rw [h.1, decide_eq_true (by omega)], h.2⟩
theorem gapped_any (A : Nat → Addr) (w : World) (hE : Errs w A) : Calls Tryd.prog 5 #[] w (RetA true w) := by
  have hQ0 : ∀ w' : World, QsP w' none [] := fun w' => ⟨Rd.nil, fun m hm => by cases hm⟩
  have hR0 : ∀ w' : World, RowsP w' none [] := fun w' => ⟨Rd.nil, fun m hm => by cases hm⟩
  have HG := Lib.hid (gap_any A [] none 0 [] none 0 w (hQ0 w) (hR0 w) (fun w' hb => pvalid_any A [] none 0 [] none 0 ⟨(fun q hq => by cases hq), (fun q hq => by cases hq), (fun q hq => by cases hq), by simp, by simp, (fun q hq => by cases hq), (fun q hq => by cases hq)⟩ (fun q hq => by cases hq) w' (hE.below hb) (hQ0 w') (hR0 w')) (some []) rfl)
  clear hQ0 hR0 hE
  go_enter Tryd.func5, Tryd.ntmps5
  go_wp2_with fail
  refine HG.out.mono ?_
  rintro e w1 ⟨hb, h⟩
  have HB := Lib.hid hb
  clear hb
  rcases h with ⟨h0, _⟩ | ⟨_, h1, _⟩ | ⟨_, cs, A', c', h1, rfl, _⟩
  · exact absurd rfl h0
  · cases h1
  · cases h1
    go_wp2_with fail
    go_ret
    exact retA rfl HB.out
end Go.Proofs.YtjfiodknjchngaaDoor.Gp

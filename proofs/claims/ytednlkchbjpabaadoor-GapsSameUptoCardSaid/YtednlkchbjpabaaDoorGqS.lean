/- Gaps: sameInts and coded of the statement's package, the empty table's gap. -/
import Derived.Test.YtednlkchbjpabaaDoorGpU
import Derived.Test.YtednlkchbjpabaaDoorCoded1
namespace Go.Proofs.YtednlkchbjpabaaDoor.Gp
open Go.RowKit Mem Nest Fk Err

theorem vcode_le (qs : List Qn) (rs : List Rw) : vcode qs rs ≤ 11 := by
  unfold vcode codeOf
  repeat' split
  all_goals omega
theorem coded5V_any (A : Nat → Addr) (c : Nat) (hc : c ≤ 11) (w : World) (hE : Errs w A) : Calls Tryd.prog 15 #[errVal A c, .int .i64 c] w (RetA true w) := by
  unfold errVal
  by_cases h0 : c = 0
  · subst h0
    rw [if_pos rfl]
    exact (coded5_nil ((0 : Nat) : Int) w).mono fun e w' h => ⟨by rw [h.1]; simp, by rw [h.2]; exact Below.refl _ _⟩
  · rw [if_neg h0]
    exact (coded5_sent (c - 1) (by omega) (c : Int) A w hE).mono fun e w' h => ⟨by rw [h.1, decide_eq_true (by omega)], h.2⟩
set_option maxRecDepth 20000 in
theorem same5_any (xs ys : List Int) (A B : Option Addr) (ca cb : Nat) (w : World) (hx : Rd w A (ints xs)) (hy : Rd w B (ints ys)) (hl : xs.length ≤ 1048576) (_hl2 : ys.length ≤ 1048576) :
    Calls Tryd.prog 18 #[.slice A xs.length ca, .slice B ys.length cb] w (RetA (xs == ys) w) := by
  by_cases hlen : xs.length = ys.length
  · have HX := Lib.hid hx
    have HY := Lib.hid hy
    have HL := Lib.hid hlen
    rw [← hlen]
    clear hx hy hlen
    have hqb : ((xs.length : Int) != (xs.length : Int)) = false := by simp
    go_enter Tryd.func18, Tryd.ntmps18
    go_wp2_with fail
    go_loopw [5] (fun t5 wr => ∃ i : Nat, t5 = .int .i64 i ∧ i ≤ xs.length ∧ Hid (∀ j, j < i → xs[j]? = ys[j]?) ∧ Hid (Below w.heap.size w wr)) (fun t5 _ => xs.length - (intOf t5).toNat)
    case atStart => exact ⟨0, rfl, Nat.zero_le _, fun j h => absurd h (by omega), Below.refl _ _⟩
    case round =>
      obtain ⟨i, rfl, hi, HE, HB⟩ := hrel
      by_cases hlt : i < xs.length
      · have hltc : (i : Int) < (xs.length : Int) := by omega
        have hly : i < ys.length := by have := HL.out; omega
        obtain ⟨xb, xo, rfl, r0⟩ := (HX.out.ext HB.out).int hlt
        obtain ⟨yb, yo, rfl, r1⟩ := (HY.out.ext HB.out).int hly
        have HXi := Lib.hid (show xs[i]? = some xs[i] from List.getElem?_eq_getElem hlt)
        have HYi := Lib.hid (show ys[i]? = some ys[i] from List.getElem?_eq_getElem hly)
        generalize xs[i] = x at *
        generalize ys[i] = y at *
        by_cases hxy : x = y
        · subst hxy
          have qb : (x != x) = false := by simp
          go_wp2_with fail
          go_region_held3 (fun w' => w'.cell? ⟨xb, xo + i, none⟩ = some (.int .i64 x) ∧ w'.cell? ⟨yb, yo + i, none⟩ = some (.int .i64 x)) ((first | exact ⟨r0, r1⟩ | exact ⟨cell_ext (ext_drewN wr 1) r0, cell_ext (ext_drewN wr 1) r1⟩ | go_keep)) (fail)
          go_wp2_with fail
          go_roundw
          case rel => exact ⟨i + 1, by go_num, by omega, (show ∀ j, j < i + 1 → xs[j]? = ys[j]? from fun j h => by
            rcases Nat.lt_succ_iff_lt_or_eq.1 h with h | rfl
            · exact HE.out j h
            · rw [HXi.out, HYi.out]), ext_trans HB.out (ext_drewN wr 1)⟩
          case measure => simp [intOf]; omega
        · have qb : (x != y) = true := by simp [hxy]
          have HNe := Lib.hid hxy
          clear hxy
          go_wp2_with fail
          go_region_held3 (fun w' => w'.cell? ⟨xb, xo + i, none⟩ = some (.int .i64 x) ∧ w'.cell? ⟨yb, yo + i, none⟩ = some (.int .i64 y)) ((first | exact ⟨r0, r1⟩ | exact ⟨cell_ext (ext_drewN wr 1) r0, cell_ext (ext_drewN wr 1) r1⟩ | go_keep)) (fail)
          go_wp2_with fail
          go_ret
          refine retA (Eq.symm ?_) (ext_trans HB.out (ext_drewN wr 1))
          rw [beq_eq_false_iff_ne]
          intro e
          have := HXi.out
          rw [e, HYi.out] at this
          exact HNe.out (by simpa using this.symm)
      · obtain rfl : xs.length = i := by omega
        have hlc : ¬ (xs.length : Int) < (xs.length : Int) := by omega
        go_wp2_with fail
        go_ret
        refine retA (Eq.symm ?_) HB.out
        rw [beq_iff_eq]
        apply List.ext_getElem?
        intro j
        by_cases hj : j < xs.length
        · exact HE.out j hj
        · rw [List.getElem?_eq_none (by omega), List.getElem?_eq_none (by have := HL.out; omega)]
  · have hqb : ((xs.length : Int) != (ys.length : Int)) = true := by simp; omega
    have HE := Lib.hid (show (xs == ys) = false by
      rw [beq_eq_false_iff_ne]
      intro e
      exact hlen (by rw [e]))
    clear hx hy hlen
    go_enter Tryd.func18, Tryd.ntmps18
    go_wp2_with fail
    go_ret
    exact retA HE.out.symm (Below.refl _ _)
theorem gapped_any (A : Nat → Addr) (w : World) (hE : Errs w A) : Calls Tryd.prog 7 #[] w (RetA true w) := by
  have hQ0 : ∀ w' : World, QsP w' none [] := fun w' => ⟨Rd.nil, fun m hm => by cases hm⟩
  have hR0 : ∀ w' : World, RowsP w' none [] := fun w' => ⟨Rd.nil, fun m hm => by cases hm⟩
  have HG := Lib.hid (gap_any A [] none 0 [] none 0 w (hQ0 w) (hR0 w) (fun w' hb => pvalid_any A [] none 0 [] none 0 ⟨(fun q hq => by cases hq), (fun q hq => by cases hq), (fun q hq => by cases hq), by simp, by simp, (fun q hq => by cases hq), (fun q hq => by cases hq)⟩ (fun q hq => by cases hq) w' (hE.below hb) (hQ0 w') (hR0 w')) (some []) rfl)
  clear hQ0 hR0 hE
  go_enter Tryd.func7, Tryd.ntmps7
  go_wp2_with fail
  refine HG.out.mono ?_
  rintro e w1 ⟨hb, h⟩
  have HB := Lib.hid hb
  clear hb
  rcases h with ⟨h0, _⟩ | ⟨_, h1, _⟩ | ⟨_, cs, A', c', h1, rfl, _⟩
  · exact absurd rfl h0
  · cases h1
  · cases h1
    go_wp2_with fail
    go_ret
    exact retA rfl HB.out
end Go.Proofs.YtednlkchbjpabaaDoor.Gp

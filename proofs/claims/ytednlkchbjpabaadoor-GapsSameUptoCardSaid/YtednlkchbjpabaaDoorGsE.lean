/- Gaps: lists of texts compared; the questions of two tables compared. -/
import Derived.Test.YtednlkchbjpabaaDoorGpN
import Derived.Test.YtednlkchbjpabaaDoorGpM
import Derived.BigQuiet
namespace Go.Proofs.YtednlkchbjpabaaDoor.Gp
open Go.RowKit Mem Nest Fk

/-- a call that at most draws tells this -/
def RetD (b : Bool) (w : World) (e : Ending) (w' : World) : Prop := e = .returned (.bool b) ∧ ∃ n, w' = w.drewN n
theorem retD {a b : Bool} {w w' : World} (h : a = b) (hb : ∃ n, w' = w.drewN n) : RetD b w (.returned (.bool a)) w' := ⟨by rw [h], hb⟩
theorem RetD.a {b : Bool} {w w' : World} {e : Ending} (h : RetD b w e w') : RetA b w e w' := by
  obtain ⟨h1, n, rfl⟩ := h
  exact ⟨h1, ext_drewN w n⟩
set_option maxRecDepth 20000 in
set_option maxHeartbeats 1000000 in
theorem eqs_any (xs ys : List (List UInt8)) (A B : Option Addr) (ca cb : Nat) (w : World) (hx : Rd w A (strsV xs)) (hy : Rd w B (strsV ys)) (hl : xs.length ≤ 1048576) (_hl2 : ys.length ≤ 1048576) :
    Calls Tryd.prog 77 #[.slice A xs.length ca, .slice B ys.length cb] w (RetD (xs == ys) w) := by
  by_cases hlen : xs.length = ys.length
  · have HX := Lib.hid hx
    have HY := Lib.hid hy
    have HL := Lib.hid hlen
    rw [← hlen]
    clear hx hy hlen
    have hqb : ((xs.length : Int) != (xs.length : Int)) = false := by simp
    go_enter Tryd.func77, Tryd.ntmps77
    go_wp2_with fail
    go_loopw [13] (fun t wr => ∃ i : Nat, t = .int .i64 i ∧ i ≤ xs.length ∧ Hid (∀ j, j < i → xs[j]? = ys[j]?) ∧ Hid (∃ n, wr = w.drewN n)) (fun t _ => xs.length - (intOf t).toNat)
    case atStart => exact ⟨0, rfl, Nat.zero_le _, (fun j h => absurd h (by omega)), 0, rfl⟩
    case round =>
      obtain ⟨i, rfl, hi, HE, HB⟩ := hrel
      have hxt : Below w.heap.size w wr := by obtain ⟨n, hn⟩ := HB.out; rw [hn]; exact ext_drewN w n
      by_cases hlt : i < xs.length
      · have hltc : (i : Int) < (xs.length : Int) := by omega
        have hly : i < ys.length := by have := HL.out; omega
        obtain ⟨xb, xo, rfl, r0⟩ := str_at (HX.out.ext hxt) hlt
        obtain ⟨yb, yo, rfl, r1⟩ := str_at (HY.out.ext hxt) hly
        have HXi := Lib.hid (show xs[i]? = some xs[i] from List.getElem?_eq_getElem hlt)
        have HYi := Lib.hid (show ys[i]? = some ys[i] from List.getElem?_eq_getElem hly)
        generalize xs[i] = x at *
        generalize ys[i] = y at *
        obtain ⟨b, hb⟩ : ∃ b, (x == y) = b := ⟨_, rfl⟩
        have HXy := Lib.hid hb
        have HDr := Lib.hid (show ∀ m, ∃ n, wr.drewN m = w.drewN n from fun m => by obtain ⟨n, hn⟩ := HB.out; exact ⟨n + m, by rw [hn, World.drewN_drewN]⟩)
        clear hxt
        go_upto_region 6 with fail
        go_quiet (fail)
        clear r0 r1
        cases b with
        | true =>
          go_wp2_with fail
          go_roundw
          case rel => exact ⟨i + 1, by go_num, by omega, (show ∀ j, j < i + 1 → xs[j]? = ys[j]? from fun j h => by
            rcases Nat.lt_succ_iff_lt_or_eq.1 h with h | rfl
            · exact HE.out j h
            · rw [HXi.out, HYi.out, beq_iff_eq.1 HXy.out]), HDr.out nq⟩
          case measure => simp [intOf]; omega
        | false =>
          clear hb
          go_wp2_with fail
          go_ret
          refine retD (Eq.symm ?_) (HDr.out nq)
          rw [beq_eq_false_iff_ne]
          intro e
          have := HXi.out
          rw [e, HYi.out] at this
          have h2 := HXy.out
          rw [beq_eq_false_iff_ne] at h2
          exact h2 (by simpa using this.symm)
      · obtain rfl : xs.length = i := by omega
        have hlc : ¬ (xs.length : Int) < (xs.length : Int) := by omega
        clear hxt
        go_wp2_with fail
        go_ret
        refine retD (Eq.symm ?_) HB.out
        rw [beq_iff_eq]
        apply List.ext_getElem?
        intro j
        by_cases hj : j < xs.length
        · exact HE.out j hj
        · rw [List.getElem?_eq_none (by omega), List.getElem?_eq_none (by have := HL.out; omega)]
  · have hqb : ((xs.length : Int) != (ys.length : Int)) = true := by simp; omega
    have HE := Lib.hid (show (xs == ys) = false by
      rw [beq_eq_false_iff_ne]
      intro e
      exact hlen (by rw [e]))
    clear hx hy hlen
    go_enter Tryd.func77, Tryd.ntmps77
    go_wp2_with fail
    go_ret
    exact retD HE.out.symm ⟨0, rfl⟩
set_option maxRecDepth 20000 in
set_option maxHeartbeats 1000000 in
theorem sameTexts_any (xs ys : List (List UInt8)) (A B : Option Addr) (ca cb : Nat) (w : World) (hx : Rd w A (strsV xs)) (hy : Rd w B (strsV ys)) (hl : xs.length ≤ 1048576) (_hl2 : ys.length ≤ 1048576) :
    Calls Tryd.prog 24 #[.slice A xs.length ca, .slice B ys.length cb] w (RetD (xs == ys) w) := by
  by_cases hlen : xs.length = ys.length
  · have HX := Lib.hid hx
    have HY := Lib.hid hy
    have HL := Lib.hid hlen
    rw [← hlen]
    clear hx hy hlen
    have hqb : ((xs.length : Int) != (xs.length : Int)) = false := by simp
    go_enter Tryd.func24, Tryd.ntmps24
    go_wp2_with fail
    go_loopw [5] (fun t wr => ∃ i : Nat, t = .int .i64 i ∧ i ≤ xs.length ∧ Hid (∀ j, j < i → xs[j]? = ys[j]?) ∧ Hid (∃ n, wr = w.drewN n)) (fun t _ => xs.length - (intOf t).toNat)
    case atStart => exact ⟨0, rfl, Nat.zero_le _, (fun j h => absurd h (by omega)), 0, rfl⟩
    case round =>
      obtain ⟨i, rfl, hi, HE, HB⟩ := hrel
      have hxt : Below w.heap.size w wr := by obtain ⟨n, hn⟩ := HB.out; rw [hn]; exact ext_drewN w n
      by_cases hlt : i < xs.length
      · have hltc : (i : Int) < (xs.length : Int) := by omega
        have hly : i < ys.length := by have := HL.out; omega
        obtain ⟨xb, xo, rfl, r0⟩ := str_at (HX.out.ext hxt) hlt
        obtain ⟨yb, yo, rfl, r1⟩ := str_at (HY.out.ext hxt) hly
        have HXi := Lib.hid (show xs[i]? = some xs[i] from List.getElem?_eq_getElem hlt)
        have HYi := Lib.hid (show ys[i]? = some ys[i] from List.getElem?_eq_getElem hly)
        generalize xs[i] = x at *
        generalize ys[i] = y at *
        obtain ⟨b, hb⟩ : ∃ b, (x == y) = b := ⟨_, rfl⟩
        have HXy := Lib.hid hb
        have HDr := Lib.hid (show ∀ m, ∃ n, wr.drewN m = w.drewN n from fun m => by obtain ⟨n, hn⟩ := HB.out; exact ⟨n + m, by rw [hn, World.drewN_drewN]⟩)
        clear hxt
        go_upto_region 6 with fail
        go_quiet (fail)
        clear r0 r1
        cases b with
        | true =>
          go_wp2_with fail
          go_roundw
          case rel => exact ⟨i + 1, by go_num, by omega, (show ∀ j, j < i + 1 → xs[j]? = ys[j]? from fun j h => by
            rcases Nat.lt_succ_iff_lt_or_eq.1 h with h | rfl
            · exact HE.out j h
            · rw [HXi.out, HYi.out, beq_iff_eq.1 HXy.out]), HDr.out nq⟩
          case measure => simp [intOf]; omega
        | false =>
          clear hb
          go_wp2_with fail
          go_ret
          refine retD (Eq.symm ?_) (HDr.out nq)
          rw [beq_eq_false_iff_ne]
          intro e
          have := HXi.out
          rw [e, HYi.out] at this
          have h2 := HXy.out
          rw [beq_eq_false_iff_ne] at h2
          exact h2 (by simpa using this.symm)
      · obtain rfl : xs.length = i := by omega
        have hlc : ¬ (xs.length : Int) < (xs.length : Int) := by omega
        clear hxt
        go_wp2_with fail
        go_ret
        refine retD (Eq.symm ?_) HB.out
        rw [beq_iff_eq]
        apply List.ext_getElem?
        intro j
        by_cases hj : j < xs.length
        · exact HE.out j hj
        · rw [List.getElem?_eq_none (by omega), List.getElem?_eq_none (by have := HL.out; omega)]
  · have hqb : ((xs.length : Int) != (ys.length : Int)) = true := by simp; omega
    have HE := Lib.hid (show (xs == ys) = false by
      rw [beq_eq_false_iff_ne]
      intro e
      exact hlen (by rw [e]))
    clear hx hy hlen
    go_enter Tryd.func24, Tryd.ntmps24
    go_wp2_with fail
    go_ret
    exact retD HE.out.symm ⟨0, rfl⟩

def eqQ (a b : Qn) : Bool := (a.name == b.name) && (a.ans == b.ans)
def diffQ (qa qb : List Qn) (i : Nat) : Bool := anyTo (fun i => !eqQ (qAt qa i) (qAt qb i)) i
def sameQ (qa qb : List Qn) : Bool := (qa.length == qb.length) && !diffQ qa qb qa.length
theorem diffQ_true {qa qb : List Qn} {i n : Nat} (hi : i < n) (h : eqQ (qAt qa i) (qAt qb i) = false) : diffQ qa qb n = true := by
  cases hd : diffQ qa qb n with
  | true => rfl
  | false =>
    have := anyTo_no hd hi
    rw [h] at this
    cases this
set_option maxRecDepth 20000 in
set_option maxHeartbeats 1000000 in
theorem eqq_any (xn : List UInt8) (xa : List (List UInt8)) (A : Option Addr) (ca : Nat) (yn : List UInt8) (ya : List (List UInt8)) (B : Option Addr) (cb : Nat) (hl : xa.length ≤ 1048576) (hl2 : ya.length ≤ 1048576) (w : World) (hx : Rd w A (strsV xa)) (hy : Rd w B (strsV ya)) :
    Calls Tryd.prog 76 #[.agg #[.string ⟨xn.toArray⟩, .slice A xa.length ca], .agg #[.string ⟨yn.toArray⟩, .slice B ya.length cb]] w (RetA ((xn == yn) && (xa == ya)) w) := by
  have hx1 := ext_alloc w (.cells (List.toArray [.string ⟨xn.toArray⟩, .slice A xa.length ca]) 93)
  obtain ⟨W1, hW1⟩ : ∃ W, W = w.alloc (.cells (List.toArray [.string ⟨xn.toArray⟩, .slice A xa.length ca]) 93) := ⟨_, rfl⟩
  have hb1 : Blk W1 w.heap.size 93 [.string ⟨xn.toArray⟩, .slice A xa.length ca] := by rw [hW1]; exact Blk.new _ _ _
  rw [← hW1] at hx1
  have hx2 := ext_alloc W1 (.cells (List.toArray [.string ⟨yn.toArray⟩, .slice B ya.length cb]) 93)
  obtain ⟨W2, hW2⟩ : ∃ W, W = W1.alloc (.cells (List.toArray [.string ⟨yn.toArray⟩, .slice B ya.length cb]) 93) := ⟨_, rfl⟩
  have hb2 : Blk W2 W1.heap.size 93 [.string ⟨yn.toArray⟩, .slice B ya.length cb] := by rw [hW2]; exact Blk.new _ _ _
  rw [← hW2] at hx2
  have hs1 : W1.heap.size = w.heap.size + 1 := by rw [hW1, World.size_alloc]
  rw [hs1] at hb2
  have y0 := cell_ext hx2 (hb1.cell 0 rfl)
  have y1 := cell_ext hx2 (hb1.cell 1 rfl)
  have z0 := hb2.cell 0 rfl
  have z1 := hb2.cell 1 rfl
  have HX := Lib.hid (ext_trans hx1 hx2)
  have HC := Lib.hid (eqs_any xa ya A B ca cb W2 (hx.ext HX.out) (hy.ext HX.out) hl hl2)
  have HW1 := Lib.hid hW1
  have HW2 := Lib.hid hW2
  obtain ⟨b, hb⟩ : ∃ b, (xn == yn) = b := ⟨_, rfl⟩
  have HBb := Lib.hid hb
  obtain ⟨d, hd⟩ : ∃ d, (xa == ya) = d := ⟨_, rfl⟩
  rw [hd] at HC
  rw [hb, hd]
  clear hx1 hx2 hb1 hb2 hs1 hW1 hW2 hx hy hd
  go_enter Tryd.func76, Tryd.ntmps76
  go_upto_region 1 with fail
  rw [show w.alloc (.cells #[.string ⟨xn.toArray⟩, .slice A xa.length ca] 93) = W1 from HW1.out.symm]
  rw [show W1.alloc (.cells #[.string ⟨yn.toArray⟩, .slice B ya.length cb] 93) = W2 from HW2.out.symm]
  clear HW1 HW2
  cases b with
  | false =>
    go_wp2_with fail
    go_ret
    exact retA rfl HX.out
  | true =>
    go_wp2_with fail
    refine HC.out.mono ?_
    rintro e w' ⟨rfl, n, rfl⟩
    have HB2 := Lib.hid (ext_drewN W2 n)
    go_wp2_with fail
    go_ret
    exact retA rfl (ext_trans HX.out HB2.out)
set_option maxRecDepth 20000 in
set_option maxHeartbeats 2000000 in
theorem eqfunc_any (qa : List QnM) (A : Option Addr) (ca : Nat) (qb : List QnM) (B : Option Addr) (cb : Nat) (hl : qa.length ≤ 1048576) (_hl2 : qb.length ≤ 1048576) (hla : ∀ q ∈ qa, q.ans.length ≤ 1048576) (hlb : ∀ q ∈ qb, q.ans.length ≤ 1048576) (w : World) (hx : QsP w A qa) (hy : QsP w B qb) :
    Calls Tryd.prog 75 #[.slice A qa.length ca, .slice B qb.length cb, .func (.func 76) #[] #[]] w (RetA (sameQ (qa.map QnM.qn) (qb.map QnM.qn)) w) := by
  have hcf : ∀ (vs : Array Value) (w : World), (callFunc 76 vs).run Tryd.prog w = .ok (.enter 76 vs) w := fun _ _ => by kernel_rfl
  by_cases hlen : qa.length = qb.length
  · have HX := Lib.hid hx
    have HY := Lib.hid hy
    have HL := Lib.hid hlen
    have HLa := Lib.hid hla
    have HLb := Lib.hid hlb
    obtain ⟨res, hres⟩ : ∃ res, res = sameQ (qa.map QnM.qn) (qb.map QnM.qn) := ⟨_, rfl⟩
    have HRes := Lib.hid (show res = !diffQ (qa.map QnM.qn) (qb.map QnM.qn) qa.length by
      rw [hres]
      unfold sameQ
      rw [List.length_map, List.length_map, hlen]
      simp)
    rw [← hlen, ← hres]
    clear hx hy hlen hres hla hlb
    have hqb : ((qa.length : Int) != (qa.length : Int)) = false := by simp
    go_enter Tryd.func75, Tryd.ntmps75
    go_wp2_with fail
    go_loopw [17] (fun t wr => ∃ i : Nat, t = .int .i64 i ∧ i ≤ qa.length ∧ Hid (diffQ (qa.map QnM.qn) (qb.map QnM.qn) i = false) ∧ Hid (Below w.heap.size w wr)) (fun t _ => qa.length - (intOf t).toNat)
    case atStart => exact ⟨0, rfl, Nat.zero_le _, rfl, Below.refl _ _⟩
    case round =>
      obtain ⟨i, rfl, hi, HD, HB⟩ := hrel
      by_cases hlt : i < qa.length
      · have hltc : (i : Int) < (qa.length : Int) := by omega
        have hly : i < qb.length := by have := HL.out; omega
        obtain ⟨xb, xo, hA, x0, x1⟩ := (HX.out.ext HB.out).row hlt
        subst hA
        obtain ⟨yb, yo, hB, y0, y1⟩ := (HY.out.ext HB.out).row hly
        subst hB
        have HAx := Lib.hid ((HX.out.ext HB.out).ans _ (List.getElem_mem hlt))
        have HAy := Lib.hid ((HY.out.ext HB.out).ans _ (List.getElem_mem hly))
        have hxl := HLa.out _ (List.getElem_mem hlt)
        have hyl := HLb.out _ (List.getElem_mem hly)
        have HQx := Lib.hid (show qAt (qa.map QnM.qn) i = qa[i].qn from qAt_m hlt)
        have HQy := Lib.hid (show qAt (qb.map QnM.qn) i = qb[i].qn from qAt_m hly)
        generalize qa[i] = X at *
        generalize qb[i] = Y at *
        obtain ⟨xn, xa, xA, xc⟩ := X
        obtain ⟨yn, ya, yA, yc⟩ := Y
        simp only [QnM.qn] at x0 x1 y0 y1 HAx HAy hxl hyl HQx HQy
        have HC := Lib.hid (fun (w' : World) (hb : Below wr.heap.size wr w') => eqq_any xn xa xA xc yn ya yA yc hxl hyl w' (HAx.out.ext hb) (HAy.out.ext hb))
        obtain ⟨b, hb⟩ : ∃ b, ((xn == yn) && (xa == ya)) = b := ⟨_, rfl⟩
        rw [hb] at HC
        have HE := Lib.hid (show eqQ (qAt (qa.map QnM.qn) i) (qAt (qb.map QnM.qn) i) = b by rw [HQx.out, HQy.out]; exact hb)
        generalize xa.length = nx at *
        generalize ya.length = ny at *
        obtain ⟨W1, hW1⟩ : ∃ W, W = wr.alloc (.cells (List.toArray [.string ⟨xn.toArray⟩, .slice xA nx xc]) 93) := ⟨_, rfl⟩
        obtain ⟨W2, hW2⟩ : ∃ W, W = W1.alloc (.cells (List.toArray [.string ⟨yn.toArray⟩, .slice yA ny yc]) 93) := ⟨_, rfl⟩
        obtain ⟨K1, hK1⟩ : ∃ K, K = wr.heap.size := ⟨_, rfl⟩
        have hx1 : Below wr.heap.size wr W1 := by rw [hW1]; exact ext_alloc _ _
        have hx2 : Below W1.heap.size W1 W2 := by rw [hW2]; exact ext_alloc _ _
        have hb1 : Blk W1 K1 93 [.string ⟨xn.toArray⟩, .slice xA nx xc] := by rw [hW1, hK1]; exact Blk.new _ _ _
        have hs1 : W1.heap.size = K1 + 1 := by rw [hW1, hK1, World.size_alloc]
        have hb2 : Blk W2 (K1 + 1) 93 [.string ⟨yn.toArray⟩, .slice yA ny yc] := by rw [hW2, ← hs1]; exact Blk.new _ _ _
        have u0 := cell_ext hx2 (hb1.cell 0 rfl)
        have u1 := cell_ext hx2 (hb1.cell 1 rfl)
        have v0 := hb2.cell 0 rfl
        have v1 := hb2.cell 1 rfl
        have y0 := cell_ext hx1 y0
        have y1 := cell_ext hx1 y1
        have HX2 := Lib.hid (ext_trans hx1 hx2)
        have HW1 := Lib.hid hW1
        have HW2 := Lib.hid hW2
        have HK1 := Lib.hid hK1
        have HS1 := Lib.hid hs1
        clear hW1 hW2 hK1 hx1 hx2 hb1 hb2 hs1 hb
        go_upto_region 6 with fail
        rw [show wr.alloc (.cells #[.string ⟨xn.toArray⟩, .slice xA nx xc] 93) = W1 from HW1.out.symm, ← HK1.out]
        go_upto_region 7 with fail
        rw [show W1.alloc (.cells #[.string ⟨yn.toArray⟩, .slice yA ny yc] 93) = W2 from HW2.out.symm, HS1.out]
        clear HW1 HW2 HK1 HS1 x0 x1 y0 y1
        go_wp2_with fail
        refine (HC.out W2 HX2.out).mono ?_
        rintro e w' ⟨rfl, hb2⟩
        have HB2 := Lib.hid (ext_trans HX2.out hb2)
        clear hb2 u0 u1 v0 v1 HC
        cases b with
        | true =>
          go_wp2_with fail
          go_roundw
          case rel => exact ⟨i + 1, by go_num, by omega, (show diffQ (qa.map QnM.qn) (qb.map QnM.qn) (i + 1) = false by
            unfold diffQ
            rw [anyTo_succ, HE.out]
            have := HD.out
            unfold diffQ at this
            rw [this]
            rfl), ext_trans HB.out HB2.out⟩
          case measure => simp [intOf]; omega
        | false =>
          have HF := Lib.hid (show res = false by rw [HRes.out, diffQ_true hlt HE.out]; rfl)
          go_wp2_with fail
          go_ret
          exact retA HF.out.symm (ext_trans HB.out HB2.out)
      · obtain rfl : qa.length = i := by omega
        have hlc : ¬ (qa.length : Int) < (qa.length : Int) := by omega
        have HF := Lib.hid (show res = true by rw [HRes.out, HD.out]; rfl)
        go_wp2_with fail
        go_ret
        exact retA HF.out.symm HB.out
  · have hqb : ((qa.length : Int) != (qb.length : Int)) = true := by simp; omega
    have HE := Lib.hid (show sameQ (qa.map QnM.qn) (qb.map QnM.qn) = false by
      unfold sameQ
      rw [List.length_map, List.length_map, show (qa.length == qb.length) = false by simp [hlen]]
      rfl)
    clear hx hy hlen
    go_enter Tryd.func75, Tryd.ntmps75
    go_wp2_with fail
    go_ret
    exact retA HE.out.symm (Below.refl _ _)
set_option maxRecDepth 20000 in
theorem samequestions_any (qa : List QnM) (A : Option Addr) (ca : Nat) (va : Value) (qb : List QnM) (B : Option Addr) (cb : Nat) (vb : Value) (hl : qa.length ≤ 1048576) (hl2 : qb.length ≤ 1048576) (hla : ∀ q ∈ qa, q.ans.length ≤ 1048576) (hlb : ∀ q ∈ qb, q.ans.length ≤ 1048576) (w : World) (hx : QsP w A qa) (hy : QsP w B qb) :
    Calls Tryd.prog 50 #[.agg #[.slice A qa.length ca, va], .agg #[.slice B qb.length cb, vb]] w (RetA (sameQ (qa.map QnM.qn) (qb.map QnM.qn)) w) := by
  have hx1 := ext_alloc w (.cells (List.toArray [.slice A qa.length ca, va]) 31)
  obtain ⟨W1, hW1⟩ : ∃ W, W = w.alloc (.cells (List.toArray [.slice A qa.length ca, va]) 31) := ⟨_, rfl⟩
  have hb1 : Blk W1 w.heap.size 31 [.slice A qa.length ca, va] := by rw [hW1]; exact Blk.new _ _ _
  rw [← hW1] at hx1
  have hx2 := ext_alloc W1 (.cells (List.toArray [.slice B qb.length cb, vb]) 31)
  obtain ⟨W2, hW2⟩ : ∃ W, W = W1.alloc (.cells (List.toArray [.slice B qb.length cb, vb]) 31) := ⟨_, rfl⟩
  have hb2 : Blk W2 W1.heap.size 31 [.slice B qb.length cb, vb] := by rw [hW2]; exact Blk.new _ _ _
  rw [← hW2] at hx2
  have hs1 : W1.heap.size = w.heap.size + 1 := by rw [hW1, World.size_alloc]
  rw [hs1] at hb2
  have y0 := cell_ext hx2 (hb1.cell 0 rfl)
  have z0 := hb2.cell 0 rfl
  have HX := Lib.hid (ext_trans hx1 hx2)
  have HC := Lib.hid (eqfunc_any qa A ca qb B cb hl hl2 hla hlb W2 (hx.ext HX.out) (hy.ext HX.out))
  have HW1 := Lib.hid hW1
  have HW2 := Lib.hid hW2
  obtain ⟨d, hd⟩ : ∃ d, d = sameQ (qa.map QnM.qn) (qb.map QnM.qn) := ⟨_, rfl⟩
  rw [← hd] at HC ⊢
  clear hx1 hx2 hb1 hb2 hs1 hW1 hW2 hx hy hd hla hlb
  go_enter Tryd.func50, Tryd.ntmps50
  go_upto_region 1 with fail
  rw [show w.alloc (.cells #[.slice A qa.length ca, va] 31) = W1 from HW1.out.symm]
  rw [show W1.alloc (.cells #[.slice B qb.length cb, vb] 31) = W2 from HW2.out.symm]
  clear HW1 HW2
  go_wp2_with fail
  refine HC.out.mono ?_
  rintro e w' ⟨rfl, hb2⟩
  have HB2 := Lib.hid hb2
  clear hb2
  go_wp2_with fail
  go_ret
  exact retA rfl (ext_trans HX.out HB2.out)
end Go.Proofs.YtednlkchbjpabaaDoor.Gp

/- why.Check: whether each step follows from those ahead of it. -/
import Derived.Test.YtjnkcpeicocjhaaDoorSolve
namespace Go.Proofs.YtjnkcpeicocjhaaDoor.ChkW
open Go.RowKit Mem Thy Nest Day Thm Sol Val Solve

structure Sp where
  a : Bool
  b : Bool
  q : Int
def spCells (x : Sp) : List Value := [.bool x.a, .bool x.b, .int .i64 x.q]
theorem spCells_len (x : Sp) : (spCells x).length = 3 := rfl
theorem step_at {w : World} {A : Option Addr} {l : List Sp} (h : Rd w A (l.flatMap spCells)) {k : Nat} (hk : k < l.length) :
    ∃ b o, A = some ⟨b, o, none⟩ ∧ w.cell? ⟨b, o + k * 3, none⟩ = some (.bool l[k].a) ∧ w.cell? ⟨b, o + k * 3 + 1, none⟩ = some (.bool l[k].b) ∧ w.cell? ⟨b, o + k * 3 + 2, none⟩ = some (.int .i64 l[k].q) := by
  obtain ⟨b, o, e, hc⟩ := h.row spCells_len hk (by omega)
  exact ⟨b, o, e, by simpa using hc 0 _ rfl, by simpa [Nat.add_assoc] using hc 1 _ rfl, by simpa [Nat.add_assoc] using hc 2 _ rfl⟩
/-- each step follows from those ahead of it -/
def Chk (t : Th) : List Sp → St → St → Prop
  | [], _, _ => True
  | x :: l, s, h => t.Lit x.q ∧ Fol t s h x.a x.b x.q ∧ Chk t l (nextS x.a x.b x.q s) (nextH x.a x.b x.q h)
theorem chk_sound {t : Th} {S H : St} (g : Thy.Good t S H) (fi : Thy.Fin t S H) : ∀ {l : List Sp} {s h : St}, Le s S → Le h H → Chk t l s h → ∀ x ∈ l, t.Lit x.q ∧ pick x.a S H x.q = val x.b
  | [], _, _, _, _, _, x, hx => by cases hx
  | y :: l, s, h, ls, lh, hc, x, hx => by
    obtain ⟨h1, h2, h3⟩ := hc
    have hv := sound g fi ls lh h1 h2
    rcases List.mem_cons.1 hx with rfl | hx
    · exact ⟨h1, hv⟩
    · refine chk_sound g fi ?_ ?_ h3 x hx
      · obtain ⟨a, b, q⟩ := y
        cases a
        · exact ls
        · exact le_upd_of ls hv
      · obtain ⟨a, b, q⟩ := y
        cases a
        · exact le_upd_of lh hv
        · exact lh
theorem nextS_set {S : List Int} {a b : Bool} {q : Int} (hq : q ≠ 0) (h : place q < S.length) : stOf (setS a b q S) = nextS a b q (stOf S) := by
  cases a
  · rfl
  · exact stOf_set hq h
theorem nextH_set {H : List Int} {a b : Bool} {q : Int} (hq : q ≠ 0) (h : place q < H.length) : stOf (setH a b q H) = nextH a b q (stOf H) := by
  cases a
  · exact stOf_set hq h
  · rfl
/-- what Check gives -/
def CheckPost (N : Int) (rs : List Rw) (ov : List (Int × Int)) (l : List Sp) (aB aK aN aO : Addr) (w : World) (e : Ending) (w' : World) : Prop :=
  ∃ (b : Bool) (ev : Value), e = .returned (.tuple #[.bool b, ev]) ∧ Below w.heap.size w w' ∧
    ((¬ Right N rs ov ∧ VOut N rs ov (errV aB) (errV aK) (errV aN) (errV aO) ev ∧ (∃ a, ev = errV a) ∧ b = false) ∨
     (Right N rs ov ∧ ev = .nilIface ∧ ∃ n : Nat, N = n ∧ (b = true ↔ Chk (thOf n rs ov) l (fun _ => 0) (fun _ => 0))))
set_option maxRecDepth 100000 in
set_option maxHeartbeats 2000000 in
theorem check_any (N : Int) (rs : List Rw) (RA : Option Addr) (rc : Nat) (ov : List (Int × Int)) (hov : ov.length ≤ 9223372036854775807) (OA : Option Addr) (oc : Nat) (l : List Sp) (hl : l.length ≤ 9223372036854775807) (LA : Option Addr) (lc : Nat) (aB aK aN aO : Addr) (w : World) (hR : Rws w RA rs) (hO : Rd w OA (ov.flatMap prCells)) (hE : ErrR w (errV aB) (errV aK) (errV aN) (errV aO)) (hLr : Rd w LA (l.flatMap spCells)) :
    Calls Tryd.prog 47 #[.agg #[.int .i64 N, .slice RA rs.length rc, .slice OA ov.length oc], .slice LA l.length lc] w (CheckPost N rs ov l aB aK aN aO w) := by
  have HR := Lib.hid hR
  have HO := Lib.hid hO
  have HLr := Lib.hid hLr
  have x1 := ext_alloc w (.cells (thCells N rs RA rc ov OA oc).toArray 71)
  have HX := Lib.hid x1
  have HT := Lib.hid (Blk.new w 71 (thCells N rs RA rc ov OA oc))
  have HV := Lib.hid (valid_any N rs RA rc ov hov OA oc _ _ _ _ _ (hR.ext x1) (hO.ext x1) (hE.ext x1))
  clear hR hO hE x1 hLr
  go_enter Tryd.func47, Tryd.ntmps47
  go_wp2_with fail
  refine HV.out.mono ?_
  rintro e w1 ⟨ev, rfl, hv, hb⟩
  have HVO := Lib.hid hv
  have HB1 := Lib.hid (ext_trans HX.out hb)
  rcases vout_err hv with ⟨hn, a, rfl⟩ | ⟨hr, rfl⟩
  · have HN := Lib.hid hn
    unfold errV
    clear hv hb hn
    go_wp2_with fail
    go_ret2
    exact ⟨false, _, rfl, HB1.out, .inl ⟨HN.out, HVO.out, ⟨a, rfl⟩, rfl⟩⟩
  · have HRt := Lib.hid hr
    obtain ⟨n, hn⟩ : ∃ n : Nat, N = n := ⟨N.toNat, by have := hr.names; omega⟩
    subst hn
    have hn2 := hr.names
    have hR1 := HR.out.ext (ext_trans HX.out hb)
    have hO1 := HO.out.ext (ext_trans HX.out hb)
    have HR1 := Lib.hid hR1
    have hpre := rings_pre hr.b hr.n
    have HNew := Lib.hid (newsol_any n (by omega) rs RA rc ov hpre.2.1 (fun x hx => by have := hpre.2.2 x hx; exact ⟨Go.WalkArith.wf_i64 (by omega), Go.WalkArith.wf_i64 (by omega)⟩) OA oc w1 hO1)
    have HT1 := Lib.hid (blk_ext HT.out hb)
    have t0 := HT1.out.cell 0 rfl
    have t1 := HT1.out.cell 1 rfl
    have t2 := HT1.out.cell 2 rfl
    have hn3 : n ≤ 120 := by omega
    clear hv hb hr hR1 hO1 hpre hn2
    go_wp2_with fail
    refine HNew.out.mono ?_
    rintro e w2 ⟨sb, hb, rfl, hns⟩
    obtain ⟨p, hp⟩ : ∃ p, p = mkP w1 n rs RA rc ov OA oc sb hb := ⟨_, rfl⟩
    have HP := Lib.hid (hp ▸ mkP_ok HRt.out HR1.out hns : p.Ok)
    have HSv := Lib.hid (hp ▸ mkP_sv HR1.out hns : Sv w2 p (List.replicate (2 * n) 0) (List.replicate (2 * n) 0))
    have hpB : p.B = w1.heap.size + 2 := by rw [hp]; rfl
    have hpT : p.th = thOf n rs ov := by rw [hp]; rfl
    have HPl := Lib.hid (show w1.heap.size ≤ p.sb ∧ w1.heap.size ≤ p.hb by
      have h1 := HP.out.d2
      have h2 := HP.out.d3
      have h3 : p.lo = w1.heap.size + 3 := by rw [hp]; rfl
      omega)
    have HPB := Lib.hid hpB
    have HPT := Lib.hid hpT
    have HB2 := Lib.hid (HB1.out.trans (hns.below.mono HB1.out.size))
    have HT2 := Lib.hid (show Blk w2 w.heap.size 71 (thCells n rs RA rc ov OA oc) from blk_ext HT1.out hns.below)
    have HW12 := Lib.hid hns.below
    have HLo := Lib.hid HT1.out.lt
    clear hns t0 t1 t2 hp hpT
    go_wp2_with fail
    rw [← hpB]
    clear hpB
    go_loopw [19] (fun t19 wr => ∃ (j : Nat) (S H : List Int), t19 = .int .i64 j ∧ j ≤ l.length ∧ Hid (Sv wr p S H) ∧ Hid (Below w1.heap.size w2 wr) ∧ Hid (Chk p.th l (fun _ => 0) (fun _ => 0) ↔ Chk p.th (l.drop j) (stOf S) (stOf H))) (fun t19 _ => l.length - (intOf t19).toNat)
    case atStart => exact ⟨0, _, _, rfl, Nat.zero_le _, HSv.out, Below.refl _ _, by show _ ↔ _; rw [stOf_zeros]; rfl⟩
    case round =>
      clear HSv
      obtain ⟨j, S, H, rfl, hj, HS, HB, HC⟩ := hrel
      have HTr := Lib.hid (HT2.out.ext (HB.out.mono HLo.out))
      by_cases hlt : j < l.length
      · obtain ⟨b, o, rfl, r0, r1, r2⟩ := step_at (HLr.out.ext (HB2.out.trans (HB.out.mono HB1.out.size))) hlt
        obtain ⟨x, hx⟩ : ∃ x, x = l[j] := ⟨_, rfl⟩
        rw [← hx] at r0 r1 r2
        have HCx := Lib.hid (show Chk p.th l (fun _ => 0) (fun _ => 0) ↔ p.th.Lit x.q ∧ Fol p.th (stOf S) (stOf H) x.a x.b x.q ∧ Chk p.th (l.drop (j + 1)) (nextS x.a x.b x.q (stOf S)) (nextH x.a x.b x.q (stOf H)) by
          rw [HC.out, List.drop_eq_getElem_cons hlt, ← hx]
          rfl)
        clear hx
        obtain ⟨xa, xb, xq⟩ := x
        simp only at r0 r1 r2 HCx
        have y0 : ∀ ob, (wr.alloc ob).cell? ⟨w.heap.size, 0, none⟩ = some (.int .i64 n) := fun ob => (blk_ext HTr.out (ext_alloc wr ob)).cell 0 rfl
        have y1 : ∀ ob, (wr.alloc ob).cell? ⟨w.heap.size, 1, none⟩ = some (.slice RA rs.length rc) := fun ob => (blk_ext HTr.out (ext_alloc wr ob)).cell 1 rfl
        have y2 : ∀ ob, (wr.alloc ob).cell? ⟨w.heap.size, 2, none⟩ = some (.slice OA ov.length oc) := fun ob => (blk_ext HTr.out (ext_alloc wr ob)).cell 2 rfl
        have HXb := Lib.hid (Blk.new wr 73 [.bool xa, .bool xb, .int .i64 xq])
        have HSx := Lib.hid (HS.out.ext (ext_alloc wr (.cells #[.bool xa, .bool xb, .int .i64 xq] 73)))
        have HBx := Lib.hid (HB.out.trans ((ext_alloc wr (.cells #[.bool xa, .bool xb, .int .i64 xq] 73)).mono (Nat.le_trans HW12.out.size HB.out.size)))
        go_wp2_with fail
        refine (literal_any n xq RA OA rs.length rc ov.length oc _).mono ?_
        rintro e w3 ⟨bl, rfl, hb1, hb2⟩
        have HL1 := Lib.hid (show bl = true ↔ p.th.Lit xq by rw [hb1, litW_iff (by omega) (by omega), HPT.out]; rfl)
        have HS3 := Lib.hid (HSx.out.ext hb2)
        have HB3 := Lib.hid (HBx.out.trans (hb2.mono (Nat.le_trans (Nat.le_trans HW12.out.size HB.out.size) (by simp))))
        have HX3 := Lib.hid (blk_ext HXb.out hb2)
        have z0 := HX3.out.cell 0 rfl
        have z1 := HX3.out.cell 1 rfl
        have z2 := HX3.out.cell 2 rfl
        have hs3 : w1.heap.size ≤ w3.heap.size := Nat.le_trans HW12.out.size HB3.out.size
        clear hb1 hb2 r0 r1 r2 y0 y1 y2
        cases bl
        · go_wp2_with fail
          go_ret2
          refine ⟨false, _, rfl, HB2.out.trans (HB3.out.mono HB1.out.size), .inr ⟨HRt.out, rfl, n, rfl, ?_⟩⟩
          rw [← HPT.out, HCx.out]
          have h : ¬ p.th.Lit xq := fun h => by simpa using HL1.out.2 h
          simp [h]
        · have HLq := Lib.hid (HL1.out.1 (by simp))
          go_wp2_with fail
          refine (fol_any p S H HP.out xa xb xq HLq.out _ HS3.out).mono ?_
          rintro e w4 ⟨bf, rfl, hb1, hb2⟩
          have HF := Lib.hid hb1
          have HS4 := Lib.hid (HS3.out.ext hb2)
          have HB4 := Lib.hid (HB3.out.trans (hb2.mono hs3))
          have HX4 := Lib.hid (blk_ext HX3.out hb2)
          have u0 := HX4.out.cell 0 rfl
          have u1 := HX4.out.cell 1 rfl
          have u2 := HX4.out.cell 2 rfl
          clear hb1 hb2 z0 z1 z2
          cases bf
          · go_wp2_with fail
            go_ret2
            refine ⟨false, _, rfl, HB2.out.trans (HB4.out.mono HB1.out.size), .inr ⟨HRt.out, rfl, n, rfl, ?_⟩⟩
            rw [← HPT.out, HCx.out]
            have h : ¬ Fol p.th (stOf S) (stOf H) xa xb xq := fun h => by simpa using HF.out.2 h
            simp [h]
          · go_wp2_with fail
            refine (say_any p S H HP.out xa xb xq HLq.out _ HS4.out).mono ?_
            rintro e w5 ⟨⟨v5, rfl⟩, rfl⟩
            have HS5 := Lib.hid (HS4.out.said HP.out xa xb xq)
            have HB5 := Lib.hid (HB4.out.trans (sayW_below (p := p) (a := xa) (b := xb) (q := xq) (w := w4) HPl.out.1 HPl.out.2))
            have HLn := Lib.hid (sv_len HS4.out HLq.out)
            clear u0 u1 u2
            go_wp2_with fail
            go_roundw
            case rel =>
              refine ⟨j + 1, _, _, by go_num, by omega, HS5.out, HB5.out, ?_⟩
              show _ ↔ _
              rw [HCx.out, nextS_set HLq.out.1 HLn.out.1, nextH_set HLq.out.1 HLn.out.2]
              have h := HF.out.1 (by simp)
              simp [HLq.out, h]
            case measure => simp [intOf]; omega
      · obtain rfl : l.length = j := by omega
        go_wp2_with fail
        go_ret2
        refine ⟨true, _, rfl, HB2.out.trans (HB.out.mono HB1.out.size), .inr ⟨HRt.out, rfl, n, rfl, ?_⟩⟩
        rw [← HPT.out, HC.out, List.drop_length]
        simp [Chk]
end Go.Proofs.YtjnkcpeicocjhaaDoor.ChkW

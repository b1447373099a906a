/- Cases: whether a move can be done: the walk of can. -/
import Derived.Test.YtjfiodknjchngaaDoorCeD
import Derived.Deep.RegionHeld3
namespace Go.Proofs.YtjfiodknjchngaaDoor.Ce
open Go.RowKit Mem Nest Srs Cf Fk Msi CdP CdM Err Solve Sol

set_option maxRecDepth 100000 in
set_option maxHeartbeats 4000000 in
theorem ccan (B : World) (d : Kd) (s : Sd) (w : World) (A : Nat → Addr) (h : Cs B d s w) (hE : E6 w A) (i : Nat) (m : Mv) (u : Nat) (hm : d.ms[i]? = some m) (hu : s.used[i]? = some u) (on : Int) :
    Calls Tryd.prog 42 #[.pointer (some ⟨B.heap.size + 1, 0, none⟩), .int .i64 (i : Int), .int .i64 on] w (CPost A (CanP d s m u on) w) := by
  obtain ⟨SA, sc, hk, ho⟩ := h.case_
  have hi : i < d.ms.length := (List.getElem?_eq_some_iff.1 hm).1
  have hfx := h.fx.ext h.below
  obtain ⟨b, o, hMA, hx⟩ := mv_at hfx.m.rd hi
  rw [(List.getElem?_eq_some_iff.1 hm).2] at hx
  have hus := h.used.cell i (u := .int .i64 u) (by simp [nats, hu])
  have HOk := Lib.hid hfx.ok
  have HCa := Lib.hid hfx.c
  have HE := Lib.hid hE
  have HBl := Lib.hid h.below
  have hil : (i : Int) < (d.ms.length : Int) := by omega
  obtain ⟨U, hU⟩ : ∃ U, U = B.heap.size := ⟨_, rfl⟩
  obtain ⟨K, hK⟩ : ∃ K, K = U + 1 := ⟨_, rfl⟩
  rw [← hU, ← hK] at hk
  rw [← hU] at hus
  rw [← hU, ← hK]
  have HKd := Lib.hid hk
  have hKne : K ≠ U := by omega
  clear h ho hm hu hE hfx hk hU hK
  obtain ⟨st, fin, ms, FA, fc, MA, mc, cb, cd, H, hc, first⟩ := d
  obtain ⟨stage, since, steps, used⟩ := s
  obtain ⟨xn, xf, xt, xw, x1, x2, x3, x4⟩ := m
  simp only at *
  subst hMA
  obtain ⟨c0, c1, c2, c3, c4, c5, c6, c7⟩ := hx
  simp only at c0 c1 c2 c3 c4 c5 c6 c7
  have k2 := HKd.out.cell 2 rfl
  have hXa := ext_alloc w (.cells (List.toArray [.string ⟨xn.toArray⟩, .string ⟨xf.toArray⟩, .string ⟨xt.toArray⟩, .string ⟨xw.toArray⟩, .int .i64 x1, .int .i64 x2, .int .i64 x3, .int .i64 x4]) 107)
  have hBn := Blk.new w 107 [.string ⟨xn.toArray⟩, .string ⟨xf.toArray⟩, .string ⟨xt.toArray⟩, .string ⟨xw.toArray⟩, .int .i64 x1, .int .i64 x2, .int .i64 x3, .int .i64 x4]
  obtain ⟨V, hV⟩ : ∃ V, V = w.alloc (.cells (List.toArray [.string ⟨xn.toArray⟩, .string ⟨xf.toArray⟩, .string ⟨xt.toArray⟩, .string ⟨xw.toArray⟩, .int .i64 x1, .int .i64 x2, .int .i64 x3, .int .i64 x4]) 107) := ⟨_, rfl⟩
  obtain ⟨R, hR⟩ : ∃ R, R = w.heap.size := ⟨_, rfl⟩
  rw [← hV] at hXa hBn
  rw [← hR] at hBn
  have hw : w.heap.size ≤ V.heap.size := hXa.size
  have k3 := cell_ext hXa (HKd.out.cell 3 rfl)
  have k5 := cell_ext hXa (HKd.out.cell 5 rfl)
  have k8 := cell_ext hXa (HKd.out.cell 8 rfl)
  have hus := cell_ext hXa hus
  have m4 := hBn.cell 4 rfl
  have m5 := hBn.cell 5 rfl
  have m6 := hBn.cell 6 rfl
  have m7 := hBn.cell 7 rfl
  have HX := Lib.hid hXa
  have HCv := Lib.hid (HCa.out.ext hXa)
  have HEv := Lib.hid (HE.out.below hXa)
  have e7 := HEv.out.v7
  unfold sentV at e7
  clear hXa hBn HCa HE HKd hw
  go_enter Tryd.func42, Tryd.ntmps42
  go_upto_region 2 with fail
  rw [← hV, ← hR]
  clear hV hR c0 c1 c2 c3 c4 c5 c6 c7 k2
  obtain ⟨q, hq⟩ : ∃ q : Bool, q = decide (0 < x4 ∧ x4 ≤ (u : Int)) := ⟨_, rfl⟩
  have HQ := Lib.hid hq
  clear hq
  go_cut [32] (fun t w9 => t = .bool q ∧ Hid (∃ n, w9 = V.drewN n))
  case first =>
    by_cases g1 : 0 < x4
    · by_cases g2 : x4 ≤ (u : Int)
      · have hq := HQ.out
        rw [show decide (0 < x4 ∧ x4 ≤ (u : Int)) = true by simp [g1, g2]] at hq
        subst hq
        go_quiet (fail)
        go_wp2_with fail
        go_meet
        exact ⟨rfl, _, rfl⟩
      · have hq := HQ.out
        rw [show decide (0 < x4 ∧ x4 ≤ (u : Int)) = false by simp [g2]] at hq
        subst hq
        go_quiet (fail)
        go_wp2_with fail
        go_meet
        exact ⟨rfl, _, rfl⟩
    · have hq := HQ.out
      rw [show decide (0 < x4 ∧ x4 ≤ (u : Int)) = false by simp [g1]] at hq
      subst hq
      go_quiet (fail)
      go_wp2_with fail
      go_meet
      exact ⟨rfl, _, rfl⟩
  case rest =>
    obtain ⟨rfl, HW⟩ := hcut
    have HBw := Lib.hid (show Below V.heap.size V wc by obtain ⟨n, e⟩ := HW.out; rw [e]; exact ext_drewN V n)
    have e7 := cell_ext HBw.out e7
    have k3 := cell_ext HBw.out k3
    have k5 := cell_ext HBw.out k5
    have m4 := cell_ext HBw.out m4
    have m5 := cell_ext HBw.out m5
    have m6 := cell_ext HBw.out m6
    have HCw := Lib.hid (HCv.out.ext HBw.out)
    have HEw := Lib.hid (HEv.out.below HBw.out)
    have HXw := Lib.hid (ext_trans HX.out HBw.out)
    clear HCv HEv HX HW
    cases q with
    | true =>
      have HQt := Lib.hid (show 0 < x4 ∧ x4 ≤ (u : Int) from of_decide_eq_true HQ.out.symm)
      go_wp2_with fail
      go_ret
      exact ⟨8, .inl ⟨HQt.out, rfl⟩, rfl, HXw.out⟩
    | false =>
      have HQf := Lib.hid (show ¬ (0 < x4 ∧ x4 ≤ (u : Int)) from of_decide_eq_false HQ.out.symm)
      have hte := fun w => term_eql x1 x2 x3 w
      have htg := fun a b x y w => term_guard a b x y w
      obtain ⟨z, hz⟩ : ∃ z, z = (decide (x1 = 0) && decide (x2 = 0) && decide (x3 = 0)) := ⟨_, rfl⟩
      rw [← hz] at hte
      have HZ := Lib.hid (show zeroT ⟨xn, xf, xt, xw, x1, x2, x3, x4⟩ = z from hz.symm)
      clear hz e7
      cases z with
      | true =>
        go_wp2_with fail
        go_ret
        exact ⟨0, .inr ⟨HQf.out, .inl ⟨HZ.out, rfl⟩⟩, rfl, HXw.out⟩
      | false =>
        go_upto_region 6 with fail
        have hdr : Below wc.heap.size wc wc.drew := ext_drewN wc 1
        have HDr := Lib.hid hdr
        have q3 := cell_ext hdr k3
        have q5 := cell_ext hdr k5
        have r4 := cell_ext hdr m4
        have r5 := cell_ext hdr m5
        have r6 := cell_ext hdr m6
        clear hte htg hdr
        go_region_held3 (fun w' => w'.cell? ⟨K, 3, none⟩ = some (.pointer (some ⟨cb, 0, none⟩)) ∧ w'.cell? ⟨K, 5, none⟩ = some (.int .i64 since) ∧ w'.cell? ⟨R, 4, none⟩ = some (.int .i64 x1) ∧ w'.cell? ⟨R, 5, none⟩ = some (.int .i64 x2) ∧ w'.cell? ⟨R, 6, none⟩ = some (.int .i64 x3))
          ((first | exact ⟨q3, q5, r4, r5, r6⟩ | exact ⟨cell_ext hb5 q3, cell_ext hb5 q5, cell_ext hb5 r4, cell_ext hb5 r5, cell_ext hb5 r6⟩))
          ((first
            | (go_at_call 63; refine (pdue_any cd HOk.out cb 0 H hc since x1 x2 x3 A _ (HCw.out.ext HDr.out) (HEw.out.below HDr.out).e3).mono ?_; rintro e w5 ⟨⟨r1, r2⟩, hD, rfl, hb5⟩; have HDd := Lib.hid hD; clear hD)))
        have HW5 := Lib.hid (ext_trans HXw.out (ext_trans HDr.out hb5))
        have e3 := ((HEw.out.below HDr.out).below hb5).v3
        unfold sentV at e3
        clear hb5 q3 q5 r4 r5 r6 k3 k5 m4 m5 m6
        by_cases hr : r2 = 0
        · subst hr
          simp only [errC_zero]
          by_cases hg : r1 < on
          · have HG := Lib.hid hg
            go_wp2_with fail
            go_ret
            exact ⟨4, .inr ⟨HQf.out, .inr ⟨HZ.out, _, HDd.out, .inl ⟨.inr HG.out, rfl⟩⟩⟩, rfl, HW5.out⟩
          · have HG := Lib.hid (show on ≤ r1 by omega)
            go_wp2_with fail
            go_ret
            exact ⟨0, .inr ⟨HQf.out, .inr ⟨HZ.out, _, HDd.out, .inr ⟨⟨rfl, HG.out⟩, rfl⟩⟩⟩, rfl, HW5.out⟩
        · have HG := Lib.hid hr
          have HEc := Lib.hid (show errC A r2 = errV (A (r2 - 1).toNat) from if_neg hr)
          obtain ⟨ad, had⟩ : ∃ ad, ad = A (r2 - 1).toNat := ⟨_, rfl⟩
          rw [← had] at HEc
          rw [HEc.out]
          unfold errV
          clear had hr HEc
          go_wp2_with fail
          go_ret
          exact ⟨4, .inr ⟨HQf.out, .inr ⟨HZ.out, _, HDd.out, .inl ⟨.inl HG.out, rfl⟩⟩⟩, rfl, HW5.out⟩
end Go.Proofs.YtjfiodknjchngaaDoor.Ce

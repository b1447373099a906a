/- The law WhyExplains answers true: the walk of the law. -/
import Derived.Test.YtjnkcpeicocjhaaDoorAgree
import Derived.Test.YtjnkcpeicocjhaaDoorExE
import Derived.Test.YtjnkcpeicocjhaaDoorExB
import Derived.Test.YtjnkcpeicocjhaaDoorSh4
import Derived.Test.YtjnkcpeicocjhaaDoorOpenTh
import Derived.Deep.Quiet
import Derived.Deep.QuietTactic
import Derived.BigQuiet
namespace Go.Proofs.YtjnkcpeicocjhaaDoor.WhyExplains
open Go.RowKit Mem Thy Nest Day Thm Sol Val Solve LawT ChkW App Sh Rng Err Agree WhySound Exp

set_option maxRecDepth 100000 in
set_option maxHeartbeats 1000000 in
theorem walk_nil (g : Sp) (A : Nat → Addr) (w : World) (hE : Errs w A) : Calls Tryd.prog 5 #[.pointer none, .agg #[.bool g.a, .bool g.b, .int .i64 g.q]] w (BoolT w) := by
  have hx := ext_alloc w (.cells #[.bool g.a, .bool g.b, .int .i64 g.q] 63)
  have HX := Lib.hid hx
  have HL := Lib.hid (checks_any _ _ _ _ _ (four (hE.below hx)))
  clear hE hx
  go_enter Tryd.func5, Tryd.ntmps5
  go_wp2_with fail
  refine HL.out.mono ?_
  rintro e w1 ⟨rfl, hb⟩
  have HB := Lib.hid (ext_trans HX.out hb)
  clear hb
  go_wp2_with fail
  go_ret
  exact ⟨rfl, HB.out⟩
set_option maxRecDepth 100000 in
set_option maxHeartbeats 4000000 in
theorem walk_ptr (b o : Nat) (N : Int) (rs : List Rw) (RA : Option Addr) (rc : Nat) (ov : List (Int × Int)) (OA : Option Addr) (oc : Nat) (g : Sp) (A : Nat → Addr) (w : World) (h : ThA w b o N rs RA rc ov OA oc) (hE : Errs w A) :
    Calls Tryd.prog 5 #[.pointer (some ⟨b, o, none⟩), .agg #[.bool g.a, .bool g.b, .int .i64 g.q]] w (BoolT w) := by
  have hx := ext_alloc w (.cells #[.bool g.a, .bool g.b, .int .i64 g.q] 63)
  have HX := Lib.hid hx
  have HG := Lib.hid (Blk.new w 63 [.bool g.a, .bool g.b, .int .i64 g.q])
  have HL := Lib.hid (checks_any _ _ _ _ _ (four (hE.below hx)))
  have HA := Lib.hid h
  have HE := Lib.hid hE
  have hl3 := h.l3
  clear h hE hx
  go_enter Tryd.func5, Tryd.ntmps5
  go_wp2_with fail
  refine HL.out.mono ?_
  rintro e w1 ⟨rfl, hb1⟩
  have HB1 := Lib.hid (ext_trans HX.out hb1)
  have HG1 := Lib.hid (Sol.blk_ext HG.out hb1)
  clear hb1 HG HX
  go_wp2_with fail
  refine (few_any b o N rs RA rc ov OA oc _ (HA.out.ext HB1.out)).mono ?_
  rintro e w' ⟨⟨bf, rfl⟩, rfl⟩
  cases bf
  · go_wp2_with fail
    go_ret
    exact ⟨rfl, HB1.out⟩
  · have d0 := HG1.out.cell 0 rfl
    have d1 := HG1.out.cell 1 rfl
    have d2 := HG1.out.cell 2 rfl
    have HK1 := Lib.hid (fun (wq : World) (hq : Below w1.heap.size w1 wq) => theory_any b o N rs RA rc ov OA oc wq (HA.out.ext (ext_trans HB1.out hq)))
    go_wp2_with fail
    go_region_held3 (fun w' => w'.cell? ⟨w.heap.size, 0, none⟩ = some (.bool g.a) ∧ w'.cell? ⟨w.heap.size, 1, none⟩ = some (.bool g.b) ∧ w'.cell? ⟨w.heap.size, 2, none⟩ = some (.int .i64 g.q))
      ((first | exact ⟨cell_ext (ext_drewN w1 1) d0, cell_ext (ext_drewN w1 1) d1, cell_ext (ext_drewN w1 1) d2⟩ | exact ⟨cell_ext HBt.out d0, cell_ext HBt.out d1, cell_ext HBt.out d2⟩ | exact ⟨cell_ext HBs.out d0, cell_ext HBs.out d1, cell_ext HBs.out d2⟩ | exact ⟨cell_ext HBx.out d0, cell_ext HBx.out d1, cell_ext HBx.out d2⟩))
      ((first
        | (go_at_call 22; refine (HK1.out _ (ext_drewN w1 1)).mono ?_; rintro e w2 ⟨rs', RA', rc', OA', oc', rfl, hrl, hR, hO, hb2⟩; have HBt := Lib.hid (ext_trans (ext_drewN w1 1) hb2); have HSm := Lib.hid (show Agree.Same rs rs' from hrl); have HR := Lib.hid hR; have HO := Lib.hid hO; clear hrl hR hO hb2)
        | (go_at_call 23; refine (step_any g.a g.b g.q _).mono ?_; rintro e w3 ⟨rfl, hb3⟩; have HBs := Lib.hid (ext_trans HBt.out hb3); have HB23 := Lib.hid hb3; clear hb3)
        | (go_at_call 21; refine (explain_any N rs' RA' rc' ov (by omega) OA' oc' g _ _ _ _ _ (HR.out.ext HB23.out) (HO.out.ext HB23.out) (four (HE.out.below (ext_trans HB1.out HBs.out))).e).mono ?_; rintro e w4 ⟨EA, ec, l, has, ev, rfl, hb4, hc⟩; have HBx := Lib.hid (ext_trans HBs.out hb4); have HC := Lib.hid hc; clear hb4 hc)))
    have HB4 := Lib.hid (ext_trans HB1.out HBx.out)
    have HG4 := Lib.hid (Sol.blk_ext HG1.out HBx.out)
    clear d0 d1 d2
    go_wp2_with fail
    refine (vth_any b o N rs RA rc ov OA oc _ (HA.out.ext HB4.out)).mono ?_
    rintro e w5 ⟨c, rfl, hc, hb5⟩
    have HB5 := Lib.hid (ext_trans HB4.out hb5)
    have HB45 := Lib.hid hb5
    have HG5 := Lib.hid (Sol.blk_ext HG4.out hb5)
    have HVC := Lib.hid hc
    clear hb5 hc
    rcases HC.out with ⟨_, hv, _, rfl, rfl⟩ | ⟨hr, rfl, n, hn0, hcs⟩
    · rcases agree HSm.out hv HVC.out with ⟨hr, rfl, _⟩ | ⟨_, k, hk, rfl, rfl⟩
      · exact absurd (HSm.out.symm.right hr) (by assumption)
      · have hpos : decide (0 < (k : Int) + 1) = true := by simp
        have HCd := Lib.hid (coded4_sent k hk ((k : Int) + 1) A _ (HE.out.below HB5.out))
        generalize (k : Int) + 1 = c at *
        unfold sentV at HCd ⊢
        clear hv
        go_wp2_with fail
        refine HCd.out.mono ?_
        rintro e w6 ⟨rfl, hb6⟩
        have HB6 := Lib.hid (ext_trans HB5.out hb6)
        clear hb6
        go_wp2_with fail
        go_ret
        exact ⟨ret_bool (by simp), HB6.out⟩
    · have hrr := HSm.out.right hr
      obtain rfl := (VCode.right HVC.out).2 hrr
      subst hn0
      have HRr := Lib.hid hrr
      have hn2 := hrr.names
      have hn3 : n ≤ 120 := by omega
      rw [ReasonTotal.thOf_congr HSm.out] at hcs
      have d2 := HG5.out.cell 2 rfl
      clear hr hrr hn2
      go_wp2_with fail
      refine (islit_any b o n g.q _ (HA.out.ext HB5.out).c0 hn3).mono ?_
      rintro e w' ⟨bl, rfl, hbl, rfl⟩
      have HBl := Lib.hid (show bl = true ↔ (thOf n rs ov).Lit g.q from hbl)
      clear hbl
      rcases hcs with ⟨hnl, rfl, rfl⟩ | ⟨hlit, S, H, hg, hf, hcs⟩
      · obtain rfl : bl = false := by
          cases bl
          · rfl
          · exact absurd (HBl.out.1 rfl) hnl
        clear hnl
        go_wp2_with fail
        go_ret
        exact ⟨rfl, HB5.out⟩
      · obtain rfl : bl = true := HBl.out.2 hlit
        have HGd := Lib.hid hg
        have HFi := Lib.hid hf
        have HLt := Lib.hid hlit
        obtain ⟨q0, q1, q2⟩ : g.q ≠ 0 ∧ -(n : Int) ≤ g.q ∧ g.q ≤ n := hlit
        have HPl := Lib.hid (fun w => ReasonTotal.place4_any g.q q0 (by omega) (by omega) w)
        have HCS := Lib.hid hcs
        clear hg hf hcs q0 q1 q2
        have hdr := ext_drewN w5 1
        have d0 := cell_ext hdr (HG5.out.cell 0 rfl)
        have d1 := cell_ext hdr (HG5.out.cell 1 rfl)
        have d2 := cell_ext hdr (HG5.out.cell 2 rfl)
        have HAd := Lib.hid (HA.out.ext (ext_trans HB5.out hdr))
        have HSd := Lib.hid (solved_any _ b o n rs RA rc ov OA oc HAd.out HRr.out)
        obtain ⟨p, hp⟩ : ∃ p, p = mkSh (w5.drewN 1) b o n rs RA rc ov OA oc := ⟨_, rfl⟩
        rw [← hp] at HSd
        have HPn := Lib.hid (show p.n = n by rw [hp]; rfl)
        have HPt := Lib.hid (show p.th = thOf n rs ov by rw [hp]; rfl)
        have HLp := Lib.hid (show p.th.Lit g.q from HPt.out.symm ▸ HLt.out)
        obtain ⟨px, hpx⟩ : ∃ px, px = place g.q := ⟨_, rfl⟩
        have hpxb : px < 2 * n := by rw [hpx, ← HPn.out]; exact lit_place HLp.out
        obtain ⟨kx, hkx⟩ : ∃ kx, kx = kind g.a g.b := ⟨_, rfl⟩
        have hkx4 : (kx : Int) < 4 := by have : kx < 4 := hkx ▸ kind_lt g.a g.b
                                         omega
        have hkx0 : (0 : Int) ≤ (kx : Int) := by omega
        have hpx0 : (0 : Int) ≤ (px : Int) := by omega
        have hpx1 : (px : Int) < 2 * (n : Int) := by omega
        have HKd := Lib.hid (fun w => hkx ▸ kindof_any g.a g.b g.q w)
        have HPx := Lib.hid hpx
        have HKx := Lib.hid hkx
        rw [← hpx] at HPl
        clear hp hpx hkx hdr
        go_upto_region 14 with fail
        go_cut [12] (fun s12 wx => s12 = .bool (pick g.a (stOf S) (stOf H) g.q == val g.b) ∧ Hid (Below w5.heap.size w5 wx))
        case first =>
          refine wp_region_held_drew (S := (fun w' => w'.cell? ⟨w.heap.size, 0, none⟩ = some (.bool g.a) ∧ w'.cell? ⟨w.heap.size, 1, none⟩ = some (.bool g.b) ∧ w'.cell? ⟨w.heap.size, 2, none⟩ = some (.int .i64 g.q))) (by kernel_rfl) ?_ (fun hHeld => ?_)
          · exact ⟨d0, d1, d2⟩
          refine wpAnyH_take (i := 0) (v := ?_) rfl (by kernel_rfl) (by kernel_rfl) (by kernel_rfl) (fun _ _ _ h => h) (Or.inl ⟨by rfl, ?_⟩) (by assumption) ?_
          rotate_left
          · intro w hSw; (try dsimp only at hSw); go_simp; try with_reducible rfl
          (try dsimp only [Act.put, List.setIfInBounds_toArray, List.set_cons_zero, List.set_cons_succ])
          refine wpAnyH_take (i := 5) (v := ?_) rfl (by kernel_rfl) (by kernel_rfl) (by kernel_rfl) (fun _ _ _ h => h) (Or.inl ⟨by rfl, ?_⟩) (by assumption) ?_
          rotate_left
          · intro w hSw; (try dsimp only at hSw); go_simp; try with_reducible rfl
          (try dsimp only [Act.put, List.setIfInBounds_toArray, List.set_cons_zero, List.set_cons_succ])
          refine wpAnyH_take (i := 6) (v := ?_) rfl (by kernel_rfl) (by kernel_rfl) (by kernel_rfl) (fun _ _ _ h => h) (Or.inl ⟨by rfl, ?_⟩) (by assumption) ?_
          rotate_left
          · intro w hSw; (try dsimp only at hSw); go_simp; try with_reducible rfl
          (try dsimp only [Act.put, List.setIfInBounds_toArray, List.set_cons_zero, List.set_cons_succ])
          refine wpAnyH_take (i := 8) (v := ?_) rfl (by kernel_rfl) (by kernel_rfl) (by kernel_rfl) (fun _ _ _ h => h) (Or.inl ⟨by rfl, ?_⟩) (by assumption) ?_
          rotate_left
          · intro w hSw; (try dsimp only at hSw); go_simp; try with_reducible rfl
          (try dsimp only [Act.put, List.setIfInBounds_toArray, List.set_cons_zero, List.set_cons_succ])
          refine wpAnyH_ready (rs := [1]) (by kernel_rfl) (by simp) ?_
          refine AllReadyH.cons rfl (fun K hK => ?_) ?_
          · go_simp
            go_at_call 27
            refine HSd.out.mono ?_
            rintro e w8 ⟨hb8, rfl, S2, H2, hSh, g2, f2⟩
            have HB8 := Lib.hid hb8
            have HSh := Lib.hid hSh
            have HWt := Lib.hid (Thy.Good.same (HPt.out ▸ g2) (HPt.out ▸ f2) HGd.out HFi.out)
            have s1 := hSh.blk.cell 1 rfl
            rw [HPn.out] at s1
            clear hb8 hSh g2 f2
            go_wp2_with fail
            refine hK.out _ _ ?_ (fun hHeld => ?_)
            · exact ⟨cell_ext HB8.out d0, cell_ext HB8.out d1, cell_ext HB8.out d2⟩
            clear hK K
            (try dsimp only [Act.put, List.setIfInBounds_toArray, List.set_cons_zero, List.set_cons_succ])
            refine wpAnyH_take (i := 2) (v := ?_) rfl (by kernel_rfl) (by kernel_rfl) (by kernel_rfl) (fun _ _ _ h => h) (Or.inl ⟨by rfl, ?_⟩) (by assumption) ?_
            rotate_left
            · intro w hSw; (try dsimp only at hSw); go_simp; try with_reducible rfl
            (try dsimp only [Act.put, List.setIfInBounds_toArray, List.set_cons_zero, List.set_cons_succ])
            refine wpAnyH_take (i := 3) (v := ?_) rfl (by kernel_rfl) (by kernel_rfl) (by kernel_rfl) (fun _ _ _ h => h) (Or.inl ⟨by rfl, ?_⟩) (by assumption) ?_
            rotate_left
            · intro w hSw; (try dsimp only at hSw); go_simp; try with_reducible rfl
            (try dsimp only [Act.put, List.setIfInBounds_toArray, List.set_cons_zero, List.set_cons_succ])
            refine wpAnyH_ready (rs := [4, 7]) (by kernel_rfl) (by simp) ?_
            refine AllReadyH.cons rfl (fun K hK => ?_) ?_
            · go_simp
              refine hK.out _ _ ?_ (fun hHeld => ?_)
              · exact ⟨cell_ext HB8.out d0, cell_ext HB8.out d1, cell_ext HB8.out d2⟩
              clear hK K
              (try dsimp only [Act.put, List.setIfInBounds_toArray, List.set_cons_zero, List.set_cons_succ])
              refine wpAnyH_ready (rs := [7]) (by kernel_rfl) (by simp) ?_
              refine AllReadyH.cons rfl (fun K hK => ?_) ?_
              · go_simp
                go_at_call 28
                refine (HPl.out _).mono ?_
                rintro e w9 ⟨rfl, rfl⟩
                go_wp2_with fail
                refine hK.out _ _ ?_ (fun hHeld => ?_)
                · exact ⟨cell_ext HB8.out d0, cell_ext HB8.out d1, cell_ext HB8.out d2⟩
                clear hK K
                (try dsimp only [Act.put, List.setIfInBounds_toArray, List.set_cons_zero, List.set_cons_succ])
                refine wpAnyH_take (i := 10) (v := ?_) rfl (by kernel_rfl) (by kernel_rfl) (by kernel_rfl) (fun _ _ _ h => h) (Or.inl ⟨by rfl, ?_⟩) (by assumption) ?_
                rotate_left
                · intro w hSw; (try dsimp only at hSw); go_simp; try with_reducible rfl
                (try dsimp only [Act.put, List.setIfInBounds_toArray, List.set_cons_zero, List.set_cons_succ])
                refine wpAnyH_ready (rs := [9]) (by kernel_rfl) (by simp) ?_
                refine AllReadyH.cons rfl (fun K hK => ?_) ?_
                · go_simp
                  go_at_call 29
                  refine (HKd.out _).mono ?_
                  rintro e w10 ⟨rfl, hb10⟩
                  have HB10 := Lib.hid hb10
                  have s2 := cell_ext hb10 s1
                  have s3 := cell_ext hb10 (HSh.out.at_ g.a g.b HLp.out)
                  rw [HWt.out.1, HWt.out.2, ← HPx.out, ← HKx.out] at s3
                  clear hb10
                  go_wp2_with fail
                  refine hK.out _ _ ?_ (fun hHeld => ?_)
                  · exact ⟨cell_ext HB10.out (cell_ext HB8.out d0), cell_ext HB10.out (cell_ext HB8.out d1), cell_ext HB10.out (cell_ext HB8.out d2)⟩
                  clear hK K
                  (try dsimp only [Act.put, List.setIfInBounds_toArray, List.set_cons_zero, List.set_cons_succ])
                  refine wpAnyH_ready (rs := [11]) (by kernel_rfl) (by simp) ?_
                  refine AllReadyH.cons rfl (fun K hK => ?_) ?_
                  · go_simp
                    refine hK.out _ _ ?_ (fun hHeld => ?_)
                    · exact ⟨cell_ext HB10.out (cell_ext HB8.out d0), cell_ext HB10.out (cell_ext HB8.out d1), cell_ext HB10.out (cell_ext HB8.out d2)⟩
                    clear hK K
                    (try dsimp only [Act.put, List.setIfInBounds_toArray, List.set_cons_zero, List.set_cons_succ])
                    refine wpAnyH_ready (rs := [12]) (by kernel_rfl) (by simp) ?_
                    refine AllReadyH.cons rfl (fun K hK => ?_) ?_
                    · go_simp
                      refine hK.out _ _ ?_ (fun hHeld => ?_)
                      · exact ⟨cell_ext HB10.out (cell_ext HB8.out d0), cell_ext HB10.out (cell_ext HB8.out d1), cell_ext HB10.out (cell_ext HB8.out d2)⟩
                      clear hK K
                      (try dsimp only [Act.put, List.setIfInBounds_toArray, List.set_cons_zero, List.set_cons_succ])
                      refine wpAnyH_ready (rs := [13]) (by kernel_rfl) (by simp) ?_
                      refine AllReadyH.cons rfl (fun K hK => ?_) ?_
                      · go_simp
                        refine hK.out _ _ ?_ (fun hHeld => ?_)
                        · exact ⟨cell_ext HB10.out (cell_ext HB8.out d0), cell_ext HB10.out (cell_ext HB8.out d1), cell_ext HB10.out (cell_ext HB8.out d2)⟩
                        clear hK K
                        (try dsimp only [Act.put, List.setIfInBounds_toArray, List.set_cons_zero, List.set_cons_succ])
                        refine wpAnyH_done (by kernel_rfl) ?_ _
                        go_wp2_with fail
                        go_meet
                        exact ⟨rfl, ext_trans (ext_trans (ext_drewN w5 1) HB8.out) HB10.out⟩
                      exact AllReadyH.nil
                    exact AllReadyH.nil
                  exact AllReadyH.nil
                exact AllReadyH.nil
              exact AllReadyH.nil
            refine AllReadyH.cons rfl (fun K hK => ?_) ?_
            · go_simp
              go_at_call 28
              refine (HPl.out _).mono ?_
              rintro e w9 ⟨rfl, rfl⟩
              go_wp2_with fail
              refine hK.out _ _ ?_ (fun hHeld => ?_)
              · exact ⟨cell_ext HB8.out d0, cell_ext HB8.out d1, cell_ext HB8.out d2⟩
              clear hK K
              (try dsimp only [Act.put, List.setIfInBounds_toArray, List.set_cons_zero, List.set_cons_succ])
              refine wpAnyH_ready (rs := [4, 9]) (by kernel_rfl) (by simp) ?_
              refine AllReadyH.cons rfl (fun K hK => ?_) ?_
              · go_simp
                refine hK.out _ _ ?_ (fun hHeld => ?_)
                · exact ⟨cell_ext HB8.out d0, cell_ext HB8.out d1, cell_ext HB8.out d2⟩
                clear hK K
                (try dsimp only [Act.put, List.setIfInBounds_toArray, List.set_cons_zero, List.set_cons_succ])
                refine wpAnyH_take (i := 10) (v := ?_) rfl (by kernel_rfl) (by kernel_rfl) (by kernel_rfl) (fun _ _ _ h => h) (Or.inl ⟨by rfl, ?_⟩) (by assumption) ?_
                rotate_left
                · intro w hSw; (try dsimp only at hSw); go_simp; try with_reducible rfl
                (try dsimp only [Act.put, List.setIfInBounds_toArray, List.set_cons_zero, List.set_cons_succ])
                refine wpAnyH_ready (rs := [9]) (by kernel_rfl) (by simp) ?_
                refine AllReadyH.cons rfl (fun K hK => ?_) ?_
                · go_simp
                  go_at_call 29
                  refine (HKd.out _).mono ?_
                  rintro e w10 ⟨rfl, hb10⟩
                  have HB10 := Lib.hid hb10
                  have s2 := cell_ext hb10 s1
                  have s3 := cell_ext hb10 (HSh.out.at_ g.a g.b HLp.out)
                  rw [HWt.out.1, HWt.out.2, ← HPx.out, ← HKx.out] at s3
                  clear hb10
                  go_wp2_with fail
                  refine hK.out _ _ ?_ (fun hHeld => ?_)
                  · exact ⟨cell_ext HB10.out (cell_ext HB8.out d0), cell_ext HB10.out (cell_ext HB8.out d1), cell_ext HB10.out (cell_ext HB8.out d2)⟩
                  clear hK K
                  (try dsimp only [Act.put, List.setIfInBounds_toArray, List.set_cons_zero, List.set_cons_succ])
                  refine wpAnyH_ready (rs := [11]) (by kernel_rfl) (by simp) ?_
                  refine AllReadyH.cons rfl (fun K hK => ?_) ?_
                  · go_simp
                    refine hK.out _ _ ?_ (fun hHeld => ?_)
                    · exact ⟨cell_ext HB10.out (cell_ext HB8.out d0), cell_ext HB10.out (cell_ext HB8.out d1), cell_ext HB10.out (cell_ext HB8.out d2)⟩
                    clear hK K
                    (try dsimp only [Act.put, List.setIfInBounds_toArray, List.set_cons_zero, List.set_cons_succ])
                    refine wpAnyH_ready (rs := [12]) (by kernel_rfl) (by simp) ?_
                    refine AllReadyH.cons rfl (fun K hK => ?_) ?_
                    · go_simp
                      refine hK.out _ _ ?_ (fun hHeld => ?_)
                      · exact ⟨cell_ext HB10.out (cell_ext HB8.out d0), cell_ext HB10.out (cell_ext HB8.out d1), cell_ext HB10.out (cell_ext HB8.out d2)⟩
                      clear hK K
                      (try dsimp only [Act.put, List.setIfInBounds_toArray, List.set_cons_zero, List.set_cons_succ])
                      refine wpAnyH_ready (rs := [13]) (by kernel_rfl) (by simp) ?_
                      refine AllReadyH.cons rfl (fun K hK => ?_) ?_
                      · go_simp
                        refine hK.out _ _ ?_ (fun hHeld => ?_)
                        · exact ⟨cell_ext HB10.out (cell_ext HB8.out d0), cell_ext HB10.out (cell_ext HB8.out d1), cell_ext HB10.out (cell_ext HB8.out d2)⟩
                        clear hK K
                        (try dsimp only [Act.put, List.setIfInBounds_toArray, List.set_cons_zero, List.set_cons_succ])
                        refine wpAnyH_done (by kernel_rfl) ?_ _
                        go_wp2_with fail
                        go_meet
                        exact ⟨rfl, ext_trans (ext_trans (ext_drewN w5 1) HB8.out) HB10.out⟩
                      exact AllReadyH.nil
                    exact AllReadyH.nil
                  exact AllReadyH.nil
                exact AllReadyH.nil
              refine AllReadyH.cons rfl (fun K hK => ?_) ?_
              · go_simp
                go_at_call 29
                refine (HKd.out _).mono ?_
                rintro e w10 ⟨rfl, hb10⟩
                have HB10 := Lib.hid hb10
                have s2 := cell_ext hb10 s1
                have s3 := cell_ext hb10 (HSh.out.at_ g.a g.b HLp.out)
                rw [HWt.out.1, HWt.out.2, ← HPx.out, ← HKx.out] at s3
                clear hb10
                go_wp2_with fail
                refine hK.out _ _ ?_ (fun hHeld => ?_)
                · exact ⟨cell_ext HB10.out (cell_ext HB8.out d0), cell_ext HB10.out (cell_ext HB8.out d1), cell_ext HB10.out (cell_ext HB8.out d2)⟩
                clear hK K
                (try dsimp only [Act.put, List.setIfInBounds_toArray, List.set_cons_zero, List.set_cons_succ])
                refine wpAnyH_ready (rs := [4]) (by kernel_rfl) (by simp) ?_
                refine AllReadyH.cons rfl (fun K hK => ?_) ?_
                · go_simp
                  refine hK.out _ _ ?_ (fun hHeld => ?_)
                  · exact ⟨cell_ext HB10.out (cell_ext HB8.out d0), cell_ext HB10.out (cell_ext HB8.out d1), cell_ext HB10.out (cell_ext HB8.out d2)⟩
                  clear hK K
                  (try dsimp only [Act.put, List.setIfInBounds_toArray, List.set_cons_zero, List.set_cons_succ])
                  refine wpAnyH_take (i := 10) (v := ?_) rfl (by kernel_rfl) (by kernel_rfl) (by kernel_rfl) (fun _ _ _ h => h) (Or.inl ⟨by rfl, ?_⟩) (by assumption) ?_
                  rotate_left
                  · intro w hSw; (try dsimp only at hSw); go_simp; try with_reducible rfl
                  (try dsimp only [Act.put, List.setIfInBounds_toArray, List.set_cons_zero, List.set_cons_succ])
                  refine wpAnyH_ready (rs := [11]) (by kernel_rfl) (by simp) ?_
                  refine AllReadyH.cons rfl (fun K hK => ?_) ?_
                  · go_simp
                    refine hK.out _ _ ?_ (fun hHeld => ?_)
                    · exact ⟨cell_ext HB10.out (cell_ext HB8.out d0), cell_ext HB10.out (cell_ext HB8.out d1), cell_ext HB10.out (cell_ext HB8.out d2)⟩
                    clear hK K
                    (try dsimp only [Act.put, List.setIfInBounds_toArray, List.set_cons_zero, List.set_cons_succ])
                    refine wpAnyH_ready (rs := [12]) (by kernel_rfl) (by simp) ?_
                    refine AllReadyH.cons rfl (fun K hK => ?_) ?_
                    · go_simp
                      refine hK.out _ _ ?_ (fun hHeld => ?_)
                      · exact ⟨cell_ext HB10.out (cell_ext HB8.out d0), cell_ext HB10.out (cell_ext HB8.out d1), cell_ext HB10.out (cell_ext HB8.out d2)⟩
                      clear hK K
                      (try dsimp only [Act.put, List.setIfInBounds_toArray, List.set_cons_zero, List.set_cons_succ])
                      refine wpAnyH_ready (rs := [13]) (by kernel_rfl) (by simp) ?_
                      refine AllReadyH.cons rfl (fun K hK => ?_) ?_
                      · go_simp
                        refine hK.out _ _ ?_ (fun hHeld => ?_)
                        · exact ⟨cell_ext HB10.out (cell_ext HB8.out d0), cell_ext HB10.out (cell_ext HB8.out d1), cell_ext HB10.out (cell_ext HB8.out d2)⟩
                        clear hK K
                        (try dsimp only [Act.put, List.setIfInBounds_toArray, List.set_cons_zero, List.set_cons_succ])
                        refine wpAnyH_done (by kernel_rfl) ?_ _
                        go_wp2_with fail
                        go_meet
                        exact ⟨rfl, ext_trans (ext_trans (ext_drewN w5 1) HB8.out) HB10.out⟩
                      exact AllReadyH.nil
                    exact AllReadyH.nil
                  exact AllReadyH.nil
                exact AllReadyH.nil
              exact AllReadyH.nil
            exact AllReadyH.nil
          exact AllReadyH.nil
        case rest =>
          obtain ⟨rfl, HBC⟩ := hcut
          have HB6 := Lib.hid (ext_trans HB5.out HBC.out)
          have HG6 := Lib.hid (Sol.blk_ext HG5.out HBC.out)
          clear hpxb hkx4 hkx0 hpx0 hpx1 d0 d1 d2 HSd HKd HPl HPx HKx HLp HPn HPt HAd
          rcases HCS.out with ⟨rfl, rfl, hne⟩ | ⟨rfl, heq, hfine, hlen, hrd⟩
          · have hwt : (pick g.a (stOf S) (stOf H) g.q == val g.b) = false := by simp [hne]
            rw [hwt]
            clear hwt hne
            go_wp2_with fail
            go_ret
            exact ⟨rfl, HB6.out⟩
          · have hwt : (pick g.a (stOf S) (stOf H) g.q == val g.b) = true := by simp [heq]
            rw [hwt]
            have HF := Lib.hid hfine
            have HRd := Lib.hid ((hrd.ext HB45.out).ext HBC.out)
            clear hwt heq hfine hrd
            go_wp2_with fail
            refine (back_any l (by omega) EA ec _ HRd.out).mono ?_
            rintro e w7 ⟨BA, bcap, rfl, hBr, hb7⟩
            have HB7 := Lib.hid (ext_trans HB6.out hb7)
            have HBr := Lib.hid hBr
            have HRd7 := Lib.hid (HRd.out.ext hb7)
            have HG7 := Lib.hid (Sol.blk_ext HG6.out hb7)
            clear hBr hb7
            go_wp2_with fail
            refine (checked_any _ b o n rs RA rc ov OA oc (HA.out.ext HB7.out) HRr.out l (by omega) BA bcap HBr.out).mono ?_
            rintro e w8 ⟨bl, rfl, hb1, hb8⟩
            obtain rfl : bl = true := hb1.2 HF.out.chk
            have HB8 := Lib.hid (ext_trans HB7.out hb8)
            have HRd8 := Lib.hid (HRd7.out.ext hb8)
            have HG8 := Lib.hid (Sol.blk_ext HG7.out hb8)
            clear hb1 hb8
            obtain ⟨m, hm⟩ : ∃ m, l.length = m + 1 := ⟨l.length - 1, by have := HF.out.ne; omega⟩
            have hml : m < l.length := by omega
            obtain ⟨lb, lo, rfl, p0, p1, p2⟩ := step_at HRd8.out hml
            rw [HF.out.at_last hml hm.symm] at p0 p1 p2
            have d0 := HG8.out.cell 0 rfl
            have d1 := HG8.out.cell 1 rfl
            have d2 := HG8.out.cell 2 rfl
            have hmm : (m : Int) < (m : Int) + 1 := by omega
            have hm0 : (0 : Int) ≤ (m : Int) := by omega
            have hmb : (m : Int) ≤ 1000 := by omega
            have hnq := step_neq_self g.a g.b g.q
            have hgd := step_guard
            have hdr := ext_drewN w8 1
            have HM := Lib.hid hm
            have hb1 : (0 : Int) ≤ (l.length : Int) - 1 := by omega
            have hb2 : (l.length : Int) - 1 < (l.length : Int) := by omega
            have hb3 : (1 : Int) ≤ (l.length : Int) := by omega
            have hb4 : (l.length : Int) ≤ 1000 := by omega
            have htn : ((l.length : Int) - 1).toNat = m := by omega
            have hwr : IntKind.i64.wrap ((l.length : Int) - 1) = (l.length : Int) - 1 := IntWalk.i64_in _ (by omega)
            have hz0 : ((l.length : Int) == 0) = false := by rw [beq_eq_false_iff_ne]; omega
            clear hm hml hlen hmm hm0 hmb
            go_wp2_with fail
            go_region_held3 (fun w' => w'.cell? ⟨lb, lo + m * 3, none⟩ = some (.bool g.a) ∧ w'.cell? ⟨lb, lo + m * 3 + 1, none⟩ = some (.bool g.b) ∧ w'.cell? ⟨lb, lo + m * 3 + 2, none⟩ = some (.int .i64 g.q) ∧ w'.cell? ⟨w.heap.size, 0, none⟩ = some (.bool g.a) ∧ w'.cell? ⟨w.heap.size, 1, none⟩ = some (.bool g.b) ∧ w'.cell? ⟨w.heap.size, 2, none⟩ = some (.int .i64 g.q))
              ((first | exact ⟨cell_ext hdr p0, cell_ext hdr p1, cell_ext hdr p2, cell_ext hdr d0, cell_ext hdr d1, cell_ext hdr d2⟩ | exact ⟨cell_ext HBs.out p0, cell_ext HBs.out p1, cell_ext HBs.out p2, cell_ext HBs.out d0, cell_ext HBs.out d1, cell_ext HBs.out d2⟩))
              ((go_at_call 23; refine (step_any g.a g.b g.q _).mono ?_; rintro e w9 ⟨rfl, hb9⟩; have HBs := Lib.hid (ext_trans hdr hb9); clear hb9))
            have HB9 := Lib.hid (ext_trans HB8.out HBs.out)
            have HRd9 := Lib.hid (HRd8.out.ext HBs.out)
            clear d0 d1 d2 p0 p1 p2 hnq hdr
            go_wp2_with fail
            clear hwr htn hb1 hb2 hb3 hz0
            have HNd := Lib.hid (fun (k i : Nat) (hk : k < l.length) (hi : i < l.length) (hki : k < i) => List.pairwise_iff_getElem.1 HF.out.once k i hk hi hki)
            go_loopw [14] (fun s14 wr => Hid (Below w9.heap.size w9 wr) ∧ ∃ i : Nat, s14 = .int .i64 i ∧ i ≤ l.length) (fun s14 _ => (l.length - intOf s14).toNat)
            case atStart => exact ⟨Below.refl _ _, 0, rfl, by omega⟩
            case round =>
              obtain ⟨HW, i, rfl, hi⟩ := hrel
              by_cases hlt : i < l.length
              · have hcl : (i : Int) < l.length := by omega
                obtain ⟨b1, o1, hbo, q0, q1, q2⟩ := step_at (HRd9.out.ext HW.out) hlt
                cases hbo
                have HQ0 := Lib.hid q0
                have HQ1 := Lib.hid q1
                have HQ2 := Lib.hid q2
                clear q0 q1 q2
                obtain ⟨wo, rfl⟩ : ∃ wo, wo = wr := ⟨_, rfl⟩
                go_wp2_with fail
                go_loopw [15] (fun s15 wz => Hid (Below wo.heap.size wo wz) ∧ ∃ k : Nat, s15 = .int .i64 k ∧ k ≤ i) (fun s15 _ => (i - intOf s15).toNat)
                case atStart => exact ⟨Below.refl _ _, 0, rfl, by omega⟩
                case round =>
                  obtain ⟨HZ, k, rfl, hk⟩ := hrel
                  by_cases hlk : k < i
                  · have hck : (k : Int) < i := by omega
                    have hcl2 : (k : Int) < l.length := by omega
                    have hkl : k < l.length := by omega
                    obtain ⟨b2, o2, hbo, r0, r1, r2⟩ := step_at (HRd9.out.ext (ext_trans HW.out HZ.out)) hkl
                    cases hbo
                    have q0 := cell_ext HZ.out HQ0.out
                    have q1 := cell_ext HZ.out HQ1.out
                    have q2 := cell_ext HZ.out HQ2.out
                    have hq : ∀ w, Sem.run Tryd.prog (binOp .eql 73 (.agg #[.bool l[i].a, .bool l[i].b, .int .i64 l[i].q]) (.agg #[.bool l[k].a, .bool l[k].b, .int .i64 l[k].q])) w = .ok (.bool false) w := fun w => by
                      rw [step_eql]
                      have h : ¬ spEq ⟨l[i].a, l[i].b, l[i].q⟩ ⟨l[k].a, l[k].b, l[k].q⟩ = true := fun h => HNd.out k i hkl hlt hlk ((spEq_iff l[i] l[k]).1 h).symm
                      simp only [Bool.not_eq_true] at h
                      rw [h]
                    generalize l[i].a = ia at *
                    generalize l[i].b = ib at *
                    generalize l[i].q = iq at *
                    generalize l[k].a = ka at *
                    generalize l[k].b = kb at *
                    generalize l[k].q = kq at *
                    go_wp2_with fail
                    go_quiet (fail)
                    go_wp2_with fail
                    go_roundw
                    case rel => exact ⟨ext_trans HZ.out (ext_drewN wr nq), k + 1, by simp, by omega⟩
                    case measure => simp [intOf] <;> omega
                  · have hck : ¬ (k : Int) < i := by omega
                    go_wp2_with fail
                    go_roundw
                    case rel => exact ⟨ext_trans HW.out HZ.out, i + 1, by simp, by omega⟩
                    case measure => simp [intOf] <;> omega
              · have hcl : ¬ (i : Int) < l.length := by omega
                go_wp2_with fail
                go_ret
                exact ⟨rfl, ext_trans HB9.out HW.out⟩
end Go.Proofs.YtjnkcpeicocjhaaDoor.WhyExplains

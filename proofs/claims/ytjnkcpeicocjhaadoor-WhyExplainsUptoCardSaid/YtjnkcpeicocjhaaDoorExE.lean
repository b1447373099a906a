/- why.Explain: an explanation of what is so, and of nothing else. -/
import Derived.Test.YtjnkcpeicocjhaaDoorExW
import Derived.Test.YtjnkcpeicocjhaaDoorExT
import Derived.Deep.RegionHeld3
namespace Go.Proofs.YtjnkcpeicocjhaaDoor.Exp
open Go.RowKit Mem Thy Nest Day Thm MapSet Sol Val Solve ChkW WhySound

theorem gatherer (p : SvP) (L B2 : Nat) (ap : Apart p L B2) : Teller p L 52 #[.pointer (some ⟨L, 0, none⟩)] (fun w l => Gather L B2 w l ∧ B2 ≤ w.heap.size) where
  hg := fun _ _ => by kernel_rfl
  ext := fun _ _ _ h hb => ⟨h.1.ext hb, Nat.le_trans h.2 hb.size⟩
  say := fun _ _ a b q h => ⟨h.1.say ap a b q, Nat.le_trans h.2 (sayW_below (n := 0) (Nat.zero_le _) (Nat.zero_le _)).size⟩
  tell := fun w l S H a b q g1 g2 hS hI h1 h2 _ hT => by
    obtain ⟨s, h, hT⟩ := hT
    have hlen := told_short (n := p.N) rfl hT
    rw [List.length_append, List.length_singleton] at hlen
    have := ap.n
    exact (told_any p L B2 ap w l S H a b q g1 g2 hS hI.1 hI.2 h1 h2 (by omega)).mono fun e w' ⟨hv, k1, k2, k3, k4, k5⟩ => ⟨hv, k1, ⟨k2, Nat.le_trans hI.2 k5.size⟩, k3, k4, k5⟩
theorem rd_take {w : World} {A : Option Addr} {l : List Sp} (h : Rd w A (l.flatMap spCells)) (k : Nat) : Rd w A ((l.take k).flatMap spCells) := fun j u hj => h j u (by
  rw [← List.take_append_drop k l, sps_app, List.getElem?_append_left (List.getElem?_eq_some_iff.1 hj).1]
  exact hj)
/-- what Explain gives -/
def ExplainPost (N : Int) (rs : List Rw) (ov : List (Int × Int)) (g : Sp) (aB aK aN aO : Addr) (w : World) (e : Ending) (w' : World) : Prop :=
  ∃ (A : Option Addr) (c : Nat) (l : List Sp) (has : Bool) (ev : Value), e = .returned (.tuple #[.slice A l.length c, .bool has, ev]) ∧ Below w.heap.size w w' ∧
    ((¬ Right N rs ov ∧ VOut N rs ov (errV aB) (errV aK) (errV aN) (errV aO) ev ∧ (∃ a, ev = errV a) ∧ has = false ∧ l = []) ∨
     (Right N rs ov ∧ ev = .nilIface ∧ ∃ n : Nat, N = n ∧
       ((¬ (thOf n rs ov).Lit g.q ∧ has = false ∧ l = []) ∨
        ((thOf n rs ov).Lit g.q ∧ ∃ S H : List Int, Thy.Good (thOf n rs ov) (stOf S) (stOf H) ∧ Thy.Fin (thOf n rs ov) (stOf S) (stOf H) ∧
          ((has = false ∧ l = [] ∧ pick g.a (stOf S) (stOf H) g.q ≠ val g.b) ∨
           (has = true ∧ pick g.a (stOf S) (stOf H) g.q = val g.b ∧ Fine (thOf n rs ov) g l ∧ l.length ≤ 1000 ∧ Rd w' A (l.flatMap spCells)))))))
set_option maxRecDepth 100000 in
set_option maxHeartbeats 2000000 in
theorem explain_any (N : Int) (rs : List Rw) (RA : Option Addr) (rc : Nat) (ov : List (Int × Int)) (hov : ov.length ≤ 9223372036854775807) (OA : Option Addr) (oc : Nat) (g : Sp) (aB aK aN aO : Addr) (w : World) (hR : Rws w RA rs) (hO : Rd w OA (ov.flatMap prCells)) (hE : ErrR w (errV aB) (errV aK) (errV aN) (errV aO)) :
    Calls Tryd.prog 21 #[.agg #[.int .i64 N, .slice RA rs.length rc, .slice OA ov.length oc], .agg #[.bool g.a, .bool g.b, .int .i64 g.q]] w (ExplainPost N rs ov g aB aK aN aO w) := by
  have HR := Lib.hid hR
  have HO := Lib.hid hO
  have HE := Lib.hid hE
  have x1 := ext_alloc w (.cells (thCells N rs RA rc ov OA oc).toArray 71)
  have x2 := ext_alloc (w.alloc (.cells (thCells N rs RA rc ov OA oc).toArray 71)) (.cells #[.bool g.a, .bool g.b, .int .i64 g.q] 73)
  have HX := Lib.hid (ext_trans x1 x2)
  have HT := Lib.hid (blk_ext (Blk.new w 71 (thCells N rs RA rc ov OA oc)) x2)
  have HG := Lib.hid (show Blk ((w.alloc (.cells (thCells N rs RA rc ov OA oc).toArray 71)).alloc (.cells #[.bool g.a, .bool g.b, .int .i64 g.q] 73)) (w.heap.size + 1) 73 [.bool g.a, .bool g.b, .int .i64 g.q] by simpa using Blk.new (w.alloc (.cells (thCells N rs RA rc ov OA oc).toArray 71)) 73 [.bool g.a, .bool g.b, .int .i64 g.q])
  have HV := Lib.hid (valid_any N rs RA rc ov hov OA oc _ _ _ _ _ (hR.ext (ext_trans x1 x2)) (hO.ext (ext_trans x1 x2)) (hE.ext (ext_trans x1 x2)))
  clear hR hO hE x1 x2
  go_enter Tryd.func21, Tryd.ntmps21
  go_wp2_with fail
  refine HV.out.mono ?_
  rintro e w1 ⟨ev, rfl, hv, hb⟩
  have HVO := Lib.hid hv
  have HB1 := Lib.hid (ext_trans HX.out hb)
  have HT1 := Lib.hid (blk_ext HT.out hb)
  have HG1 := Lib.hid (blk_ext HG.out hb)
  clear HX HT HG
  rcases vout_err hv with ⟨hn, a, rfl⟩ | ⟨hr, rfl⟩
  · have HN := Lib.hid hn
    unfold errV
    clear hv hb hn
    go_wp2_with fail
    go_ret3
    exact ⟨none, 0, [], false, _, rfl, HB1.out, .inl ⟨HN.out, HVO.out, ⟨a, rfl⟩, rfl, rfl⟩⟩
  · have HRt := Lib.hid hr
    obtain ⟨n, hn⟩ : ∃ n : Nat, N = n := ⟨N.toNat, by have := hr.names; omega⟩
    subst hn
    have hn2 := hr.names
    have hn3 : n ≤ 120 := by omega
    have HPre := Lib.hid (rings_pre hr.b hr.n)
    have t0 := HT1.out.cell 0 rfl
    have t1 := HT1.out.cell 1 rfl
    have t2 := HT1.out.cell 2 rfl
    have z2 := HG1.out.cell 2 rfl
    clear hv hb hr hn2
    go_wp2_with fail
    refine (literal_any n g.q RA OA rs.length rc ov.length oc _).mono ?_
    rintro e w2 ⟨bl, rfl, hbl, hb2⟩
    have HL1 := Lib.hid (show bl = true ↔ (thOf n rs ov).Lit g.q by rw [hbl, litW_iff (by omega) (by omega)]; rfl)
    have HB2 := Lib.hid (ext_trans HB1.out hb2)
    have HT2 := Lib.hid (blk_ext HT1.out hb2)
    have HG2 := Lib.hid (blk_ext HG1.out hb2)
    clear hbl hb2 t0 t1 t2 z2 HT1 HG1
    cases bl
    · go_wp2_with fail
      go_ret3
      exact ⟨none, 0, [], false, _, rfl, HB2.out, .inr ⟨HRt.out, rfl, n, rfl, .inl ⟨fun h => by simpa using HL1.out.2 h, rfl, rfl⟩⟩⟩
    · have HLit := Lib.hid (HL1.out.1 (by simp))
      have hal := ext_alloc w2 (.cells #[.slice none 0 0] 65)
      have HR3 := Lib.hid ((HR.out.ext HB2.out).ext hal)
      have HT3 := Lib.hid (blk_ext HT2.out hal)
      have HNew := Lib.hid (newsol_any n (by omega) rs RA rc ov HPre.out.2.1 (fun x hx => by have := HPre.out.1; have := HPre.out.2.2 x hx; exact ⟨Go.WalkArith.wf_i64 (by omega), Go.WalkArith.wf_i64 (by omega)⟩) OA oc (w2.alloc (.cells #[.slice none 0 0] 65)) ((HO.out.ext HB2.out).ext hal))
      have t0 := HT3.out.cell 0 rfl
      have t1 := HT3.out.cell 1 rfl
      have t2 := HT3.out.cell 2 rfl
      have HAL := Lib.hid hal
      have HL0 := Lib.hid (Blk.new w2 65 [.slice none 0 0])
      clear hal
      go_wp2_with fail
      refine HNew.out.mono ?_
      rintro e w4 ⟨sb, hb, rfl, hns⟩
      obtain ⟨p, hp⟩ : ∃ p, p = mkP (w2.alloc (.cells #[.slice none 0 0] 65)) n rs RA rc ov OA oc sb hb := ⟨_, rfl⟩
      have HP := Lib.hid (hp ▸ mkP_ok HRt.out HR3.out hns : p.Ok)
      have HSv := Lib.hid (hp ▸ mkP_sv HR3.out hns : Sv w4 p (List.replicate (2 * n) 0) (List.replicate (2 * n) 0))
      have hpB : p.B = w2.heap.size + 3 := by rw [hp]; simp [mkP]
      have HPT := Lib.hid (show p.th = thOf n rs ov by rw [hp]; rfl)
      have HAp := Lib.hid (show Apart p w2.heap.size w4.heap.size from
        ⟨by omega, by rw [hp]; simp [mkP]; omega, by rw [hp]; simp [mkP]; omega, HSv.out.blk.lt, HSv.out.abv.lt, HSv.out.sure.lt, HSv.out.holds.lt, HP.out.n, HP.out,
          by rw [hp]; exact LowA.of_rd (HR.out.ext HB2.out).rows, by rw [hp]; exact fun r hr => LowA.of_rd ((HR.out.ext HB2.out).bods r hr)⟩)
      have HB4 := Lib.hid (ext_trans (ext_trans HB2.out HAL.out) hns.below)
      have HB24 := Lib.hid (ext_trans HAL.out hns.below)
      have HLo := Lib.hid (show w2.heap.size ≤ p.lo by have := HAp.out.lo; omega)
      have HRun := Lib.hid (run_any p HP.out w2.heap.size HLo.out 52 #[.pointer (some ⟨w2.heap.size, 0, none⟩)] _ (gatherer p w2.heap.size w4.heap.size HAp.out) _ _ w4 HB24.out.size
        ⟨HSv.out, ⟨[], ⟨⟨.slice none 0 0, blk_ext HL0.out hns.below, ⟨rfl, .inl ⟨rfl, rfl⟩⟩⟩, Nat.le_refl _⟩, by rw [stOf_zeros]; exact Told.nil⟩, Below.refl _ _⟩)
      rw [hpB] at HRun
      clear hns t0 t1 t2 hp hpB HNew HT3
      go_wp2_with fail
      refine HRun.out.mono ?_
      rintro e w5 ⟨⟨v5, rfl⟩, S, H, hrs, hfin⟩
      obtain ⟨lt, ⟨⟨v, hLb, hown⟩, _⟩, hT⟩ := hrs.told
      rw [HPT.out] at hT hfin
      have HTo := Lib.hid hT
      have HFi := Lib.hid hfin
      have hB25 : Below w2.heap.size w2 w5 := HB24.out.trans hrs.below
      have HB5 := Lib.hid (ext_trans HB2.out hB25)
      have HT5 := Lib.hid (blk_ext HT2.out hB25)
      have HG5 := Lib.hid (blk_ext HG2.out hB25)
      have hsh := told_short (n := n) rfl hT
      obtain ⟨ls, hls⟩ : ∃ ls, ls = lt.map toSp := ⟨_, rfl⟩
      have HLS := Lib.hid hls
      have hown2 : w5.ownsRow w4.heap.size 73 3 v ls.length (ls.flatMap spCells) := by rw [hls, List.length_map]; exact hown
      have hll : ls.length ≤ 480 := by rw [hls, List.length_map]; omega
      obtain ⟨A, c, rfl, hc1, hc2⟩ := own_slice hown2
      have HRd := Lib.hid (RdK.of_own hown2).rd
      have HLb := Lib.hid hLb
      have l0 := hLb.cell 0 rfl
      have z0 := HG5.out.cell 0 rfl
      have z1 := HG5.out.cell 1 rfl
      have z2 := HG5.out.cell 2 rfl
      clear hrs hLb hown hT hfin hB25 hls hown2 hsh HRun
      go_wp2_with fail
      refine (idx_any ls g A c (by omega) _ HRd.out).mono ?_
      rintro e w6 ⟨r, rfl, hb6, hr6⟩
      have HB6 := Lib.hid (ext_trans HB5.out hb6)
      have HT6 := Lib.hid (blk_ext HT5.out hb6)
      have HL6 := Lib.hid (blk_ext HLb.out hb6)
      have HRd6 := Lib.hid (HRd.out.ext hb6)
      clear hb6 l0 z0 z1 z2 HT5 HG5 HRd HLb
      rcases hr6 with ⟨rfl, hni⟩ | ⟨k, hk, rfl, hkg⟩
      · have HNi := Lib.hid hni
        clear hni
        go_wp2_with fail
        go_ret3
        refine ⟨none, 0, [], false, _, rfl, HB6.out, .inr ⟨HRt.out, rfl, n, rfl, .inr ⟨HLit.out, S, H, HTo.out.good, HFi.out, .inl ⟨rfl, rfl, fun hp => ?_⟩⟩⟩⟩
        have := told_all HTo.out _ _ _ hp
        exact HNi.out (by rw [HLS.out]; exact mem_toSp.2 this)
      · have HF := Lib.hid (show Fine (thOf n rs ov) g (ls.take (k + 1)) by
          have e := HLS.out
          subst e
          exact fine_start HTo.out hk hkg)
        have HMem := Lib.hid (show pick g.a (stOf S) (stOf H) g.q = val g.b by
          have h1 : (⟨g.a, g.b, g.q⟩ : Sp) ∈ lt.map toSp := by
            rw [← HLS.out]
            exact hkg ▸ List.getElem_mem hk
          exact told_val HTo.out _ (mem_toSp.1 h1))
        have hpl : (ls.take (k + 1)).length = k + 1 := by rw [List.length_take]; omega
        obtain ⟨b, o, rfl, _⟩ := step_at HRd6.out hk
        have HPr := Lib.hid (fun (wq : World) (hq : Below w6.heap.size w6 wq) => pruned_any n rs RA rc ov HRt.out hov OA oc g (ls.take (k + 1)) HF.out (by omega) b o c aB aK aN aO wq (HR.out.ext (ext_trans HB6.out hq)) (HO.out.ext (ext_trans HB6.out hq)) (HE.out.ext (ext_trans HB6.out hq)) (rd_take (HRd6.out.ext hq) (k + 1)))
        rw [hpl] at HPr
        have t0 := HT6.out.cell 0 rfl
        have t1 := HT6.out.cell 1 rfl
        have t2 := HT6.out.cell 2 rfl
        have l0 := HL6.out.cell 0 rfl
        have hkc : k + 1 ≤ c := by omega
        have hkc2 : (k : Int) + 1 ≤ (c : Int) := by omega
        have hk1 : (0 : Int) ≤ (k : Int) + 1 := by omega
        have hw : IntKind.i64.wrap ((k : Int) + 1) = (k : Int) + 1 := IntWalk.i64_in _ (by omega)
        have hk2 : (k : Int) ≤ 480 := by omega
        have hk0 : ¬ (k : Int) < 0 := by omega
        clear hpl hkg HRd6 HF
        go_wp2_with fail
        go_region_held3 (fun w' => w'.cell? ⟨w.heap.size, 0, none⟩ = some (.int .i64 n) ∧ w'.cell? ⟨w.heap.size, 1, none⟩ = some (.slice RA rs.length rc) ∧ w'.cell? ⟨w.heap.size, 2, none⟩ = some (.slice OA ov.length oc) ∧ w'.cell? ⟨w2.heap.size, 0, none⟩ = some (.slice (some ⟨b, o, none⟩) ls.length c))
          ((first | exact ⟨cell_ext (ext_drewN w6 1) t0, cell_ext (ext_drewN w6 1) t1, cell_ext (ext_drewN w6 1) t2, cell_ext (ext_drewN w6 1) l0⟩ | exact ⟨cell_ext HBs.out (cell_ext (ext_drewN w6 1) t0), cell_ext HBs.out (cell_ext (ext_drewN w6 1) t1), cell_ext HBs.out (cell_ext (ext_drewN w6 1) t2), cell_ext HBs.out (cell_ext (ext_drewN w6 1) l0)⟩))
          ((go_at_call 54; refine (HPr.out _ (ext_drewN w6 1)).mono ?_; rintro e w7 ⟨b7, o7, c7, l7, rfl, hrd7, hf7, hl7, hb7⟩; have HRd7 := Lib.hid hrd7; have HF7 := Lib.hid hf7; have HL7 := Lib.hid hl7; have HBs := Lib.hid hb7; clear hrd7 hf7 hl7 hb7))
        go_wp2_with fail
        go_ret3
        exact ⟨_, _, l7, true, _, rfl, ext_trans HB6.out (ext_trans (ext_drewN w6 1) HBs.out), .inr ⟨HRt.out, rfl, n, rfl, .inr ⟨HLit.out, S, H, HTo.out.good, HFi.out, .inr ⟨rfl, HMem.out, HF7.out, HL7.out, HRd7.out⟩⟩⟩⟩
end Go.Proofs.YtjnkcpeicocjhaaDoor.Exp

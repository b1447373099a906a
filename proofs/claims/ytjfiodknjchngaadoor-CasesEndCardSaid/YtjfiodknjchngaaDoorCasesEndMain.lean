/- Cases: how far a case may have come: what is kept by each step. The law CasesEnd: the walk. -/
import Derived.Test.YtjfiodknjchngaaDoorCeF
import Derived.Test.YtjfiodknjchngaaDoorCeM
namespace Go.Proofs.YtjfiodknjchngaaDoor.Ce
open Go.RowKit Mem Nest Srs Cf Fk Msi CdP CdM Err Solve Sol

def mosts (ms : List Mv) : List Int := ms.map (·.most)
structure EInv (d : Kd) (L : List (List UInt8)) (N : Nat) (s : Sd) : Prop where
  fit : Fit (mosts d.ms) s.used
  st : s.stage ∈ L
  pot : Pot N s.steps.length (limF (mosts d.ms) s.used) (rk L s.stage)
  ub : ∀ u ∈ s.used, u ≤ s.steps.length
theorem einv_start {d : Kd} {L : List (List UInt8)} {N : Nat} (st : List UInt8) (on : Int) (hs : st ∈ L) (hL : L.length ≤ N + 1) : EInv d L N ⟨st, on, [], List.replicate d.ms.length 0⟩ := by
  have hl : (mosts d.ms).length = d.ms.length := by simp [mosts]
  refine ⟨?_, hs, ?_, ?_⟩
  · have := fit_zero (mosts d.ms)
    rwa [hl] at this
  · show Pot N 0 (limF _ (List.replicate _ 0)) (rk L st)
    rw [lim_zero]
    have := rk_lt L hs
    exact ⟨by omega, by omega⟩
  · intro u hu
    have := List.eq_of_mem_replicate hu
    omega
theorem einv_step {d : Kd} {L : List (List UInt8)} {N : Nat} {s : Sd} {m : Mv} {i u : Nat} {x : St} (h : EInv d L N s) (hT : Topo (edge d.ms) L) (hL : L.length ≤ N + 1) (ha : ∀ m ∈ d.ms, m.to_ ∈ L) (hp : 0 ≤ m.most)
    (hm : d.ms[i]? = some m) (hu : s.used[i]? = some u) (hf : m.frm = s.stage) (hc : ¬ (0 < m.most ∧ m.most ≤ (u : Int))) : EInv d L N (nxt s m i u x) := by
  have hmem := List.mem_of_getElem? hm
  have hmo : (mosts d.ms)[i]? = some m.most := by simp [mosts, hm]
  have hto := ha m hmem
  refine ⟨fit_set _ _ _ _ _ h.fit hmo hu (fun h0 => by omega), hto, ?_, ?_⟩
  · show Pot N (s.steps ++ [x]).length (limF _ (s.used.set i (u + 1))) (rk L m.to_)
    rw [lim_set _ _ _ _ _ hmo hu, List.length_append]
    have hr := rk_lt L hto
    by_cases c : 0 < m.most
    · rw [if_pos c]
      exact pot_limited h.pot (by omega)
    · rw [if_neg c]
      have e : edge d.ms s.stage m.to_ := ⟨m, hmem, hf, by omega, rfl⟩
      exact pot_free h.pot (topo_rk L hT h.st e).2
  · intro v hv
    show v ≤ (s.steps ++ [x]).length
    rw [List.length_append]
    rcases List.mem_or_eq_of_mem_set hv with hv | hv
    · have := h.ub v hv
      simp; omega
    · have := h.ub u (List.mem_of_getElem? hu)
      simp; omega
/-- what a step that was tried comes to -/
theorem dop_bad {d : Kd} {s s' : Sd} {x : St} {c : Int} (h : DoP d s x c s') (hc : c ≠ 0) : s' = s := by
  rcases h with ⟨_, _, e⟩ | ⟨_, ⟨_, _, e⟩ | ⟨_, i, m, u, _, _, _, _, ⟨_, _, e⟩ | ⟨_, ⟨_, _, e⟩ | ⟨e, _, _⟩⟩⟩⟩
  · exact e
  · exact e
  · exact e
  · exact e
  · exact absurd e hc
theorem dop_good {d : Kd} {s s' : Sd} {x : St} {c : Int} (h : DoP d s x c s') (hc : c = 0) : doneB d s = false ∧ ∃ (i : Nat) (m : Mv) (u : Nat), d.ms[i]? = some m ∧ s.used[i]? = some u ∧ m.frm = s.stage ∧ ¬ (0 < m.most ∧ m.most ≤ (u : Int)) ∧ s' = nxt s m i u x := by
  subst hc
  rcases h with ⟨_, e, _⟩ | ⟨_, ⟨_, e, _⟩ | ⟨hd, i, m, u, h1, h2, _, h4, ⟨_, e, _⟩ | ⟨_, ⟨e, _, _⟩ | ⟨_, hcan, e⟩⟩⟩⟩
  · omega
  · omega
  · omega
  · exact absurd rfl e
  · refine ⟨hd, i, m, u, h1, h2, ?_, ?_, e⟩
    · unfold hitB at h4
      simp only [Bool.and_eq_true, beq_iff_eq] at h4
      exact h4.2
    · rcases hcan with ⟨_, e2⟩ | ⟨h5, _⟩
      · omega
      · exact h5
theorem sum_take (ms : List Mv) (k : Nat) (h : k < ms.length) : sumM (mosts (ms.take (k + 1))) = sumM (mosts (ms.take k)) + ms[k].most := by
  have hs : ∀ (a b : List Int), sumM (a ++ b) = sumM a + sumM b := by
    intro a b
    induction a with
    | nil => simp [sumM]
    | cons x a ih => simp only [List.cons_append, sumM, ih]; omega
  rw [List.take_succ_eq_append_getElem h]
  unfold mosts
  rw [List.map_append, hs]
  simp [sumM]
theorem sum_bd (l : List Int) (h : ∀ x ∈ l, 0 ≤ x ∧ x ≤ 100) : 0 ≤ sumM l ∧ sumM l ≤ 100 * l.length := by
  induction l with
  | nil => simp [sumM]
  | cons x l ih =>
    have h1 := h x List.mem_cons_self
    have h2 := ih fun y hy => h y (List.mem_cons_of_mem _ hy)
    simp only [sumM, List.length_cons]
    omega
/-- how many there may be -/
theorem einv_end {d : Kd} {L : List (List UInt8)} {N : Nat} {s : Sd} (h : EInv d L N s) (hp : ∀ m ∈ d.ms, 0 ≤ m.most) (M : Nat) (hM : sumM (mosts d.ms) = (M : Int)) : s.steps.length ≤ M + (M + 1) * N := by
  have h1 := lim_le _ _ h.fit (by intro x hx; obtain ⟨m, hm, rfl⟩ := List.mem_map.1 hx; exact hp m hm)
  exact pot_end h.pot (by omega)
end Go.Proofs.YtjfiodknjchngaaDoor.Ce
namespace Go.Proofs.YtjfiodknjchngaaDoor.Ce
open Go.RowKit Mem Nest Srs Cf Fk Msi CdP CdM Err Solve Sol

theorem vp_zero {st : List UInt8} {fin : List (List UInt8)} {ms : List Mv} (h : VP st fin ms 0) : (∀ m ∈ ms, 0 ≤ m.most) ∧ ranked ms (stagesF st fin ms) := by
  rcases h with ⟨_, e⟩ | ⟨_, ⟨_, e⟩ | ⟨_, ⟨_, e⟩ | ⟨hk, ⟨_, e⟩ | ⟨hr, _⟩⟩⟩⟩
  · omega
  · omega
  · omega
  · omega
  · refine ⟨fun m hm => ?_, hr⟩
    have h1 := List.any_eq_false.1 hk m hm
    unfold kindB at h1
    simp only [Bool.or_eq_true, decide_eq_true_eq, not_or] at h1
    omega
set_option maxRecDepth 100000 in
set_option maxHeartbeats 1000000 in
theorem ce_nil (on : Int) (names : List (List UInt8)) (NA : Option Addr) (nc : Nat) (w : World) : Calls Tryd.prog 4 #[.pointer none, .int .i64 on, .slice NA names.length nc] w fun e w' => e = .returned (.bool true) ∧ Below w.heap.size w w' := by
  go_enter Tryd.func4, Tryd.ntmps4
  go_wp2_with fail
  refine (opens_any _).mono ?_
  rintro e w1 ⟨rfl, hb1⟩
  have HB1 := Lib.hid hb1
  clear hb1
  go_wp2_with fail
  go_ret
  exact ⟨rfl, HB1.out⟩
set_option maxRecDepth 100000 in
set_option maxHeartbeats 8000000 in
theorem ce_walk (b o : Nat) (st : List UInt8) (fin : List (List UInt8)) (ms : List Mv) (FA : Option Addr) (fc : Nat) (MA : Option Addr) (mc : Nat) (on : Int) (names : List (List UInt8)) (NA : Option Addr) (nc : Nat) (w : World) (A : Nat → Addr) (hnl : names.length ≤ 9223372036854775807)
    (hlen : ∀ s ∈ stagesF st fin ms, s.length ≤ 9223372036854775807) (hmn : ∀ m ∈ ms, m.name.length ≤ 9223372036854775807 ∧ m.who.length ≤ 9223372036854775807)
    (hP : PIn w b o st fin ms FA fc MA mc) (hN : Rd w NA (Srs.strs names)) (hE : E6 w A) :
    Calls Tryd.prog 4 #[.pointer (some ⟨b, o, none⟩), .int .i64 on, .slice NA names.length nc] w fun e w' => e = .returned (.bool true) ∧ Below w.heap.size w w' := by
  have HP := Lib.hid hP
  have HN := Lib.hid hN
  have HE := Lib.hid hE
  have HL := Lib.hid hlen
  have HMn := Lib.hid hmn
  clear hP hN hE hlen hmn
  go_enter Tryd.func4, Tryd.ntmps4
  go_wp2_with fail
  refine (opens_any _).mono ?_
  rintro e w1 ⟨rfl, hb1⟩
  have HB1 := Lib.hid hb1
  clear hb1
  go_wp2_with fail
  refine (cfew b o st fin ms FA fc MA mc _ (HP.out.ext HB1.out)).mono ?_
  rintro e w2 ⟨q, rfl, hq, hb2⟩
  have HB2 := Lib.hid (ext_trans HB1.out hb2)
  have HQ := Lib.hid hq
  clear hq hb2
  cases q with
  | false =>
    go_wp2_with fail
    go_ret
    exact ⟨rfl, HB2.out⟩
  | true =>
  by_cases gn : 80 < names.length
  · have gn' : (80 : Int) < names.length := by omega
    clear gn
    go_wp2_with fail
    go_ret
    exact ⟨rfl, HB2.out⟩
  have gn' : ¬ (80 : Int) < names.length := by omega
  have hm1 : ms.length ≤ 125 := (HQ.out rfl).1
  have hf1 : fin.length ≤ 125 := (HQ.out rfl).2
  clear HQ
  go_wp2_with fail
  refine (plan_of b o st fin ms (by omega) (by omega) FA fc MA mc _ (HP.out.ext HB2.out)).mono ?_
  rintro e w3 ⟨F2, fc2, M2, mc2, rfl, hF, hM, hn, hmc, hb3⟩
  have HB3 := Lib.hid (ext_trans HB2.out hb3)
  have HOp := Lib.hid (copen st fin ms (by omega) (by omega) HL.out HMn.out F2 M2 fc2 mc2 hn hmc on w3 A (HE.out.below (ext_trans HB2.out hb3)) hF hM)
  clear hF hM hn hmc hb3
  unfold planW at *
  go_wp2_with fail
  refine HOp.out.mono ?_
  rintro e w4 ⟨c, hv, hb4, ⟨hc, rfl⟩ | ⟨hc, hg, rfl⟩ | ⟨hc, hg, B, d, e1, e2, e3, _, e5, hBb, hCs, rfl⟩⟩
  · have HB4 := Lib.hid (ext_trans HB3.out hb4)
    have HEc := Lib.hid (show errC A c = errV (A (c - 1).toNat) from if_neg hc)
    obtain ⟨ad, had⟩ : ∃ ad, ad = A (c - 1).toNat := ⟨_, rfl⟩
    rw [← had] at HEc
    rw [HEc.out]
    unfold errV
    clear hv hb4 hc had HEc HOp
    go_wp2_with fail
    go_ret
    exact ⟨rfl, HB4.out⟩
  · have HB4 := Lib.hid (ext_trans HB3.out hb4)
    rw [errC_four]
    obtain ⟨ad, had⟩ : ∃ ad, ad = A 3 := ⟨_, rfl⟩
    rw [← had]
    unfold errV
    clear hv hb4 hc hg had HOp
    go_wp2_with fail
    go_ret
    exact ⟨rfl, HB4.out⟩
  subst hc e1 e2 e3 e5
  have HV := Lib.hid (vp_zero hv)
  have HBB := Lib.hid (ext_trans HB3.out hBb)
  have HC4 := Lib.hid hCs
  have HPB := Lib.hid (HP.out.ext (ext_trans HB3.out hBb))
  have HNB := Lib.hid (HN.out.ext (ext_trans HB3.out hBb))
  have HEB := Lib.hid (HE.out.below (ext_trans HB3.out hBb))
  clear hv hb4 hg hBb hCs HOp
  go_wp2_with fail
  refine (rstages b o d.st d.fin d.ms (by omega) (by omega) FA fc MA mc _ (HPB.out.ext HC4.out.below)).mono ?_
  rintro e w5 ⟨SA, sc, rfl, hr, hb5⟩
  have HC5 := Lib.hid (HC4.out.ext hb5)
  have hp2 := (HPB.out.ext HC5.out.below).c2
  obtain ⟨L, hTo, hLa, hLs⟩ := HV.out.2
  have HTo := Lib.hid hTo
  have hall : ∀ v ∈ L, v ∈ dd (allF d.st d.fin d.ms) := fun v hv => (dd_mem _ v).2 (all_mem.1 (hLs v hv))
  have hL1 : L.length ≤ (dd (allF d.st d.fin d.ms)).length := nodup_le _ _ (topo_nodup _ hTo) hall
  have hst : d.st ∈ L := hLa _ (all_mem.2 (by simp [allF]))
  have hdl := dd_len (allF d.st d.fin d.ms)
  rw [all_len] at hdl
  have hd0 : 0 < (dd (allF d.st d.fin d.ms)).length := List.length_pos_of_mem (hall _ hst)
  obtain ⟨N, hN⟩ : ∃ N, (dd (allF d.st d.fin d.ms)).length = N + 1 := ⟨_, (Nat.sub_add_cancel hd0).symm⟩
  rw [hN] at hL1 hdl ⊢
  have HI0 := Lib.hid (einv_start (d := d) (N := N) d.st d.first hst hL1)
  have HL1 := Lib.hid hL1
  have HTm := Lib.hid (show ∀ m ∈ d.ms, m.to_ ∈ L from fun m hm => hLa _ (all_ends d.st d.fin d.ms m hm).2)
  have hN1 : N ≤ 400 := by omega
  clear hr hb5 hTo hLa hLs hall hL1 hst hdl hd0 hN HC4
  go_wp2_with fail
  go_loopw [12, 13] (fun s12 s13 wr => ∃ (M : Int) (i : Nat), s12 = .int .i64 M ∧ s13 = .int .i64 i ∧ i ≤ d.ms.length ∧ 0 ≤ M ∧ M ≤ 100 * i ∧ Hid (M = sumM (mosts (d.ms.take i))) ∧ wr = w5) (fun _ s13 _ => d.ms.length - (intOf s13).toNat)
  case atStart => exact ⟨0, 0, rfl, rfl, Nat.zero_le _, Int.le_refl _, by omega, by show _ = _; simp [mosts, sumM], rfl⟩
  case round =>
    obtain ⟨M, i, rfl, rfl, hi, hM0, hM1, HM, rfl⟩ := hrel
    by_cases hlt : i < d.ms.length
    · have hcl : (i : Int) < (d.ms.length : Int) := by omega
      have HS := Lib.hid (sum_take d.ms i hlt)
      have h0 := HV.out.1 d.ms[i] (List.getElem_mem hlt)
      obtain ⟨bb, oo, e0, hx⟩ := mv_at (HPB.out.ext HC5.out.below).m hlt
      subst e0
      generalize d.ms[i] = x at hx HS h0
      have c7 := hx.c7
      obtain ⟨mx, hmx⟩ : ∃ mx, mx = x.most := ⟨_, rfl⟩
      rw [← hmx] at c7 HS h0
      clear hx hmx
      by_cases g : 100 < mx
      · have HB := Lib.hid (ext_trans HBB.out HC5.out.below)
        go_wp2_with fail
        go_ret
        exact ⟨rfl, HB.out⟩
      · have hg : mx ≤ 100 := by omega
        have hi2 : (i : Int) ≤ 125 := by omega
        go_wp2_with fail
        go_roundw
        case rel => exact ⟨M + mx, i + 1, rfl, by go_num, by omega, by omega, by omega, by show _ = _; rw [HS.out, HM.out], by trivial⟩
        case measure => show d.ms.length - (i + 1) < d.ms.length - i; omega
    · have hcl : ¬ (i : Int) < (d.ms.length : Int) := by omega
      have HMs := Lib.hid (show sumM (mosts d.ms) = M from by have h := HM.out; rw [List.take_of_length_le (by omega)] at h; exact h.symm)
      obtain ⟨Mn, rfl⟩ : ∃ Mn : Nat, M = Mn := ⟨M.toNat, by omega⟩
      have hMb : Mn ≤ 12500 := by omega
      clear hM0 hM1 HM hi hlt
      go_wp2_with fail
      go_loopw [14, 15] (fun s14 s15 wr => ∃ (n j : Nat), s14 = .int .i64 n ∧ s15 = .int .i64 j ∧ j ≤ names.length ∧ n ≤ 125 * j ∧ Hid (∃ s, Cs B d s wr ∧ EInv d L N s ∧ s.steps.length = n)) (fun _ s15 _ => names.length - (intOf s15).toNat)
      case atStart => exact ⟨0, 0, rfl, rfl, Nat.zero_le _, Nat.zero_le _, _, HC5.out, HI0.out, rfl⟩
      case round =>
        obtain ⟨n, j, rfl, rfl, hj, hnj, HS⟩ := hrel
        by_cases hjl : j < names.length
        · have hjc : (j : Int) < (names.length : Int) := by omega
          go_wp2_with fail
          go_loopw [14, 16] (fun s14 s16 wr => ∃ (n k : Nat), s14 = .int .i64 n ∧ s16 = .int .i64 k ∧ k ≤ d.ms.length ∧ n ≤ 125 * j + k ∧ Hid (∃ s, Cs B d s wr ∧ EInv d L N s ∧ s.steps.length = n)) (fun _ s16 _ => d.ms.length - (intOf s16).toNat)
          case atStart => exact ⟨n, 0, rfl, rfl, Nat.zero_le _, by omega, HS.out⟩
          case round =>
            clear hnj HS
            obtain ⟨n, k, rfl, rfl, hk, hnk, HS⟩ := hrel
            obtain ⟨s, hC, hI, hsn⟩ := HS.out
            have HC := Lib.hid hC
            have HI := Lib.hid hI
            have HPr := Lib.hid (HPB.out.ext hC.below)
            have p2 := HPr.out.c2
            by_cases hkl : k < d.ms.length
            · have hkc : (k : Int) < (d.ms.length : Int) := by omega
              obtain ⟨bn, on_, hNA, hy⟩ := str_row HNB.out hjl
              obtain ⟨bb, oo, e0, hx⟩ := mv_at HPB.out.m hkl
              subst e0 hNA
              have HNm := Lib.hid hy
              have HWh := Lib.hid hx.c3
              have HP2 := Lib.hid HPB.out.c2
              have y0 := cell_ext hC.below hy
              have y3 := cell_ext hC.below hx.c3
              have HDn := Lib.hid (cdone B d s _ hC)
              have hst2 : s.steps.length ≤ 100000 := by omega
              have hub2 : ∀ u ∈ s.used, u ≤ 1000000 := fun u hu => by have := hI.ub u hu; omega
              have HSl := Lib.hid hst2
              have HUb := Lib.hid hub2
              have HSn := Lib.hid hsn
              obtain ⟨ov, hov⟩ : ∃ ov, ov = doneB d s := ⟨_, rfl⟩
              rw [← hov] at HDn
              have HOv := Lib.hid hov
              clear hC hI hsn hst2 hub2 hy hx hov
              generalize names[j] = nm at *
              generalize d.ms[k] = mk at *
              go_wp2_with fail
              refine HDn.out.mono ?_
              rintro e wa ⟨rfl, hba⟩
              have HCa := Lib.hid (HC.out.ext hba)
              have p2 := cell_ext hba p2
              have y0 := cell_ext hba y0
              have y3 := cell_ext hba y3
              clear hba HDn
              go_wp2_with fail
              refine (cstage B d s _ HCa.out).mono ?_
              rintro e wz ⟨rfl, rfl⟩
              go_upto_region 27 with fail
              have hdr : Below wa.heap.size wa wa.drew := ext_drewN wa 1
              have HCd := Lib.hid (HCa.out.ext hdr)
              have HEd := Lib.hid (HEB.out.below HCd.out.below)
              have q2 := cell_ext hdr p2
              have z0 := cell_ext hdr y0
              have z3 := cell_ext hdr y3
              clear hdr
              go_region_held3 (fun w' => w'.cell? ⟨b, o + 2, none⟩ = some (.slice (some ⟨bb, oo, none⟩) d.ms.length mc) ∧ w'.cell? ⟨bn, on_ + j, none⟩ = some (.string ⟨nm.toArray⟩) ∧ w'.cell? ⟨bb, oo + k * 8 + 3, none⟩ = some (.string ⟨mk.who.toArray⟩))
                ((first | exact ⟨q2, z0, z3⟩ | exact ⟨cell_ext hC2.below HP2.out, cell_ext hC2.below HNm.out, cell_ext hC2.below HWh.out⟩))
                ((go_at_call 22; refine (cdo B d s ⟨nm, mk.who, d.first⟩ _ A HCd.out HEd.out HSl.out HUb.out).mono ?_; rintro e wd ⟨c, s', hD, rfl, hC2⟩))
              have HD := Lib.hid hD
              have HC2 := Lib.hid hC2
              clear hD hC2 q2 z0 z3 p2 y0 y3
              by_cases hz : c = 0
              · obtain ⟨hdn, i2, m2, u2, g1, g2, g3, g4, g5⟩ := dop_good HD.out hz
                have hov : ov = false := HOv.out.trans hdn
                subst hov
                have HS2 := Lib.hid (show ∃ s, Cs B d s wd ∧ EInv d L N s ∧ s.steps.length = n + 1 from ⟨s', HC2.out, g5 ▸ einv_step HI.out HTo.out HL1.out HTm.out (HV.out.1 _ (List.mem_of_getElem? g1)) g1 g2 g3 g4, by rw [g5]; simp [nxt, HSn.out]⟩)
                subst hz
                simp only [errC_zero]
                clear g1 g2 g3 g4 g5 hdn
                have hn0 : (n : Int) ≤ 20000 := by omega
                go_wp2_with fail
                go_roundw
                case rel => exact ⟨n + 1, k + 1, by go_num, by go_num, by omega, by omega, HS2.out⟩
                case measure => show d.ms.length - (k + 1) < d.ms.length - k; omega
              · have e := dop_bad HD.out hz
                subst e
                have HS2 := Lib.hid (show ∃ s, Cs B d s wd ∧ EInv d L N s ∧ s.steps.length = n from ⟨s', HC2.out, HI.out, HSn.out⟩)
                have HEc := Lib.hid (show errC A c = errV (A (c - 1).toNat) from if_neg hz)
                obtain ⟨ad, had⟩ : ∃ ad, ad = A (c - 1).toNat := ⟨_, rfl⟩
                rw [← had] at HEc
                rw [HEc.out]
                unfold errV
                clear hz had
                go_wp2_with fail
                refine (cstage B d s' _ HC2.out).mono ?_
                rintro e wz ⟨rfl, rfl⟩
                go_wp2_with fail
                go_roundw
                case rel => exact ⟨n, k + 1, rfl, by go_num, by omega, by omega, HS2.out⟩
                case measure => show d.ms.length - (k + 1) < d.ms.length - k; omega
            · have hkc : ¬ (k : Int) < (d.ms.length : Int) := by omega
              have HS2 := Lib.hid (show ∃ s, Cs B d s wr ∧ EInv d L N s ∧ s.steps.length = n from ⟨s, HC.out, HI.out, hsn⟩)
              clear hC hI hsn
              go_wp2_with fail
              go_roundw
              case rel => exact ⟨n, j + 1, rfl, by go_num, by omega, by omega, HS2.out⟩
              case measure => show names.length - (j + 1) < names.length - j; omega
        · have hjc : ¬ (j : Int) < (names.length : Int) := by omega
          obtain ⟨s, hC, hI, hsn⟩ := HS.out
          have hend := einv_end hI HV.out.1 Mn HMs.out
          rw [hsn] at hend
          have hmul : (Mn + 1) * N ≤ 12501 * 400 := Nat.mul_le_mul (by omega) hN1
          obtain ⟨P, hP⟩ : ∃ P, P = (Mn + 1) * N := ⟨_, rfl⟩
          rw [← hP] at hend hmul
          have hPi : ((Mn : Int) + 1) * (N : Int) = (P : Int) := by rw [hP]; simp [Int.natCast_mul]
          have hP0 : (0 : Int) ≤ (P : Int) := by omega
          have hP1 : (P : Int) ≤ 5000400 := by omega
          have hd1 : (n : Int) ≤ (Mn : Int) + (P : Int) := by omega
          have hM2 : (Mn : Int) ≤ 12500 := by omega
          have hN2 : (N : Int) ≤ 400 := by omega
          have HCt := Lib.hid (csteps B d s _ hC (by omega))
          have HSn := Lib.hid hsn
          have HBe := Lib.hid (ext_trans HBB.out hC.below)
          clear hC hI hsn hend hmul hP HS hj hnj hjl
          go_wp2_with fail
          refine HCt.out.mono ?_
          rintro e wf ⟨⟨A', c', rfl, _⟩, hbf⟩
          have HBf := Lib.hid (ext_trans HBe.out hbf)
          rw [HSn.out]
          clear hbf HCt
          go_wp2_with fail
          go_ret
          exact ⟨rfl, HBf.out⟩
end Go.Proofs.YtjfiodknjchngaaDoor.Ce

/- The law LedgerSettles answers true: the walk, joined. -/
import Derived.Test.YtjnkcpeicocjhaaDoorSettles
import Derived.Deep.RegionHeld3
namespace Go.Proofs.YtjnkcpeicocjhaaDoor.LedgerSettles
open Go.RowKit Mem Pays Nest Claims Settle RSettle

theorem at_of {rs rs2 : List Cl} (hk : rs2.map Cl.key = rs.map Cl.key) {i : Nat} {r : Cl} (h : rs2[i]? = some r) : ∃ r', rs[i]? = some r' ∧ r'.day = r.day ∧ r'.dues = r.dues := by
  have h1 : (rs2.map Cl.key)[i]? = some r.key := by rw [List.getElem?_map, h]; rfl
  rw [hk, List.getElem?_map] at h1
  cases hr : rs[i]? with
  | none => rw [hr] at h1; simp at h1
  | some r' =>
    rw [hr] at h1
    have h2 : r'.key = r.key := by simpa using h1
    exact ⟨r', rfl, congrArg Prod.fst h2, congrArg Prod.snd h2⟩
theorem len_of {rs rs2 : List Cl} (hk : rs2.map Cl.key = rs.map Cl.key) : rs2.length = rs.length := by simpa using congrArg List.length hk
theorem upto_to {P Q : Nat → Prop} (h : ∀ i, P i → Q i) {j : Nat} : Upto P j → Upto Q j := fun ⟨i, hi, hp⟩ => ⟨i, hi, h i hp⟩
theorem qd_eq {r r' : Cl} (h : r'.dues = r.dues) : QD r' = QD r := by funext k; unfold QD; rw [h]
theorem qc_eq {r r' : Cl} (h : r'.dues = r.dues) : QC r' = QC r := by funext k; unfold QC; rw [h]
theorem vb_to {rs rs2 : List Cl} (hk : rs2.map Cl.key = rs.map Cl.key) (h : VB rs2 rs2.length) : VB rs rs.length := by
  rw [len_of hk] at h
  rcases h with h | h
  · exact .inl (by rw [len_of hk] at h; exact h)
  · refine .inr (upto_to (fun i hp => ?_) h)
    obtain ⟨r, h1, h2⟩ := hp
    obtain ⟨r', h3, _, e2⟩ := at_of hk h1
    exact ⟨r', h3, by rw [e2]; exact h2⟩
theorem pd_to {rs rs2 : List Cl} (hk : rs2.map Cl.key = rs.map Cl.key) (h : Upto (PD rs2) rs2.length) : Upto (PD rs) rs.length := by
  rw [len_of hk] at h
  refine upto_to (fun i hp => ?_) h
  obtain ⟨r, h1, h2⟩ := hp
  obtain ⟨r', h3, e1, e2⟩ := at_of hk h1
  refine ⟨r', h3, ?_⟩
  rcases h2 with (h2 | ⟨a, b, h0, ha, hb, hab⟩) | h2
  · exact .inl (.inl (by rw [e1]; exact h2))
  · obtain ⟨a', ha', ea, _⟩ := at_of hk ha
    obtain ⟨b', hb', eb, _⟩ := at_of hk hb
    exact .inl (.inr ⟨a', b', h0, ha', hb', by rw [ea, eb]; exact hab⟩)
  · exact .inr (by rw [qd_eq e2, e2]; exact h2)
theorem vc_to {rs rs2 : List Cl} {rate : Int} (hk : rs2.map Cl.key = rs.map Cl.key) (h : VC rs2 rate rs2.length) : VC rs rate rs.length := by
  rw [len_of hk] at h
  rcases h with h | h
  · exact .inl h
  · refine .inr (upto_to (fun i hp => ?_) h)
    obtain ⟨r, h1, h2⟩ := hp
    obtain ⟨r', h3, _, e2⟩ := at_of hk h1
    exact ⟨r', h3, by rw [qc_eq e2, e2]; exact h2⟩
theorem fits_to {rs rs2 : List Cl} {rate : Int} (hk : rs2.map Cl.key = rs.map Cl.key) (i : Nat) (h : i < rs.length) (h2 : i < rs2.length) : Fits rate (run rate ((rs2.map Cl.key).take i)) rs2[i].key ↔ Fits rate (run rate ((rs.map Cl.key).take i)) rs[i].key := by
  have : rs2[i].key = rs[i].key := by
    have := congrArg (fun l => l[i]?) hk
    simpa [h, h2] using this
  rw [hk, this]
/-- the same case -/
def Joined (A : Nat → Addr) (w1 w2 : World) (e e' : Ending) : Prop :=
  (∃ k : Nat, k < 11 ∧ e = .returned (.tuple #[.slice none 0 0, Err.sentV (A k)]) ∧ e' = .returned (.tuple #[.slice none 0 0, .int .i64 ((k : Int) + 1)])) ∨
  (∃ A1 c1 es1 A2 c2 es2, e = .returned (.tuple #[.slice A1 es1.length c1, .nilIface]) ∧ e' = .returned (.tuple #[.slice A2 es2.length c2, .int .i64 0]) ∧ es1.map En.key = es2.map En.key ∧ Ens w1 A1 es1 ∧ Ens w2 A2 es2 ∧ es1.length ≤ c1 ∧ es2.length ≤ c2 ∧ es1.length ≤ 400 ∧ ∀ e ∈ es1, e.lines.length ≤ 3)
theorem post_join {rs rs2 : List Cl} {rate : Int} (hk : rs2.map Cl.key = rs.map Cl.key) (A : Nat → Addr) {u1 u2 w1 w2 : World} {e e' : Ending}
    (hS : SettlePost rs2 rate (Err.sentV (A 1)) (Err.sentV (A 3)) (Err.sentV (A 2)) u1 e w1) (hR : RSettlePost rs rate u2 e' w2) : Joined A w1 w2 e e' := by
  have hl := len_of hk
  have b2 : VB rs rs.length → VB rs2 rs2.length := vb_to hk.symm
  have d2 : Upto (PD rs) rs.length → Upto (PD rs2) rs2.length := pd_to hk.symm
  have c2 : VC rs rate rs.length → VC rs2 rate rs2.length := vc_to hk.symm
  have b1 : VB rs2 rs2.length → VB rs rs.length := vb_to hk
  have d1 : Upto (PD rs2) rs2.length → Upto (PD rs) rs.length := pd_to hk
  have c1 : VC rs2 rate rs2.length → VC rs rate rs.length := vc_to hk
  rcases hS.2 with ⟨h1, h⟩ | ⟨h1, h2, h⟩ | ⟨h1, h2, h3, h⟩ | ⟨h1, h2, h3, h⟩
  · rcases hR.2 with ⟨g1, g⟩ | ⟨g1, g2, g⟩ | ⟨g1, g2, g3, g⟩ | ⟨g1, g2, g3, g⟩
    · exact .inl ⟨1, by omega, h, g⟩
    all_goals exact absurd (b1 h1) g1
  · rcases hR.2 with ⟨g1, g⟩ | ⟨g1, g2, g⟩ | ⟨g1, g2, g3, g⟩ | ⟨g1, g2, g3, g⟩
    · exact absurd (b2 g1) h1
    · exact .inl ⟨3, by omega, h, g⟩
    all_goals exact absurd (d1 h2) g2
  · rcases hR.2 with ⟨g1, g⟩ | ⟨g1, g2, g⟩ | ⟨g1, g2, g3, g⟩ | ⟨g1, g2, g3, g⟩
    · exact absurd (b2 g1) h1
    · exact absurd (d2 g2) h2
    · exact .inl ⟨2, by omega, h, g⟩
    · exact absurd (c1 h3) g3
  · rcases hR.2 with ⟨g1, g⟩ | ⟨g1, g2, g⟩ | ⟨g1, g2, g3, g⟩ | ⟨g1, g2, g3, g⟩
    · exact absurd (b2 g1) h1
    · exact absurd (d2 g2) h2
    · exact absurd (c2 g3) h3
    · have hs := sane_of h1 h3
      rcases h with ⟨j, hj, hf, hn, h⟩ | ⟨hf, A1, c1, es1, h, k1, e1, l1⟩
      · rcases g with ⟨i, hi, gf, gn, g⟩ | ⟨gf, _⟩
        · exact .inl ⟨2, by omega, h, g⟩
        · exact absurd ((fits_to hk j (by omega) hj).2 (gf j (by omega))) hn
      · rcases g with ⟨i, hi, gf, gn, g⟩ | ⟨gf, A2, c2, es2, g, k2, e2, l2⟩
        · exact absurd ((fits_to hk i hi (by omega)).1 (hf i (by omega))) gn
        · have hsm : Sml (run rate (rs2.map Cl.key)) rs2.length := by
            have := run_small rate hs.r0 (rs2.map Cl.key) rs2.length (by simp) (fun i hi hij => by rw [List.getElem_map]; exact hf i (by rwa [List.length_map] at hi))
            rwa [List.take_of_length_le (by simp)] at this
          refine .inr ⟨A1, c1, es1, A2, c2, es2, h, g, by rw [k1, k2, hk], e1, e2, l1, l2, ?_, ?_⟩
          · have h1 := hsm.len
            rw [← k1, List.length_map] at h1
            have := hs.n
            omega
          · intro e he
            exact (hsm.es (e.day, e.lines) (by rw [← k1]; exact List.mem_map.2 ⟨e, he, rfl⟩)).1
theorem settle_shape {rs : List Cl} {rate : Int} {EB ED EC : Value} {w w' : World} {e : Ending} (h : SettlePost rs rate EB ED EC w e w') : ∃ A n c E, e = .returned (.tuple #[.slice A n c, E]) := by
  rcases h.2 with ⟨_, h⟩ | ⟨_, _, h⟩ | ⟨_, _, _, h⟩ | ⟨_, _, _, ⟨_, _, _, _, h⟩ | ⟨_, A, c, es, h, _⟩⟩ <;> exact ⟨_, _, _, _, h⟩
theorem rsettle_shape {rs : List Cl} {rate : Int} {w w' : World} {e : Ending} (h : RSettlePost rs rate w e w') : ∃ A n c k, e = .returned (.tuple #[.slice A n c, .int .i64 k]) := by
  rcases h.2 with ⟨_, h⟩ | ⟨_, _, h⟩ | ⟨_, _, _, h⟩ | ⟨_, _, _, ⟨_, _, _, _, h⟩ | ⟨_, A, c, es, h, _⟩⟩ <;> exact ⟨_, _, _, _, h⟩
theorem four_of {w : World} {A : Nat → Addr} (h : Err.Errs w A) : Errs4 w (A 1) (A 3) (A 2) (A 8) := ⟨h.v1, h.v3, h.v2, h.v8⟩
theorem Ens_ext {w w' : World} {A : Option Addr} {es : List En} (h : Ens w A es) (hb : Below w.heap.size w w') : Ens w' A es := ⟨h.rows.ext hb, fun e he => (h.lines e he).ext hb, h.cap⟩
theorem errs_ext {w w' : World} {A : Nat → Addr} (h : Err.Errs w A) (hb : Below w.heap.size w w') : Err.Errs w' A := h.below hb
set_option maxRecDepth 100000 in
set_option maxHeartbeats 2000000 in
theorem walk (A : Option Addr) (c : Nat) (rs : List Cl) (rate : Int) (E : Nat → Addr) (w : World) (hE : Err.Errs w E) (hr : Cls w A rs) (hc : rs.length ≤ c) (hcm : c ≤ maxLen) (hn : rs.length ≤ 1048576) (hd : ∀ r ∈ rs, r.dues.length ≤ 1048576) :
    Calls Tryd.prog 4 #[.slice A rs.length c, .int .i64 rate] w fun e w' => e = .returned (.bool true) ∧ Below w.heap.size w w' := by
  have HE := Lib.hid hE
  have HR := Lib.hid hr
  have HD := Lib.hid hd
  have HC := Lib.hid (And.intro hc hcm)
  clear hE hr hd hc hcm
  go_enter Tryd.func4, Tryd.ntmps4
  go_wp2_with fail
  refine (settles_any _ _ _ _ _ (four_of HE.out)).mono ?_
  rintro e w1 ⟨rfl, hb⟩
  have HB := Lib.hid hb
  clear hb
  go_wp2_with fail
  refine (few_any _ _ _ _ (HR.out.ext HB.out) HC.out.1 HC.out.2).mono ?_
  rintro e w' ⟨b, rfl, hb, rfl⟩
  cases b
  · go_wp2_with fail
    go_ret
    exact ⟨rfl, HB.out⟩
  · clear hb
    go_wp2_with fail
    refine (claims_any _ _ _ _ (HR.out.ext HB.out) hn HD.out).mono ?_
    rintro e w2 ⟨A2, c2, rs2, rfl, hk, hcl, hc2, hm2, hb2⟩
    have HB2 := Lib.hid (ext_trans HB.out hb2)
    have HK := Lib.hid hk
    have HCL := Lib.hid hcl
    have HL2 := Lib.hid (len_of hk)
    have HDU := Lib.hid (show ∀ r ∈ rs2, r.dues.length ≤ 1048576 from fun r hr => by
      have h1 : Cl.key r ∈ rs2.map Cl.key := List.mem_map.2 ⟨r, hr, rfl⟩
      rw [hk] at h1
      obtain ⟨r', hr', e⟩ := List.mem_map.1 h1
      have := HD.out r' hr'
      have e2 : r'.dues = r.dues := congrArg Prod.snd e
      rwa [e2] at this)
    clear hk hcl hc2 hm2 hb2
    go_wp2_with fail
    have HE2 := Lib.hid (four_of (errs_ext HE.out HB2.out))
    refine (settle_any _ _ rs2 rate _ HCL.out (by rw [HL2.out]; exact hn) HDU.out _ _ _ _ HE2.out.b HE2.out.d HE2.out.c HE2.out.k).mono ?_
    rintro e w3 h
    obtain ⟨A3, n3, c3, X, rfl⟩ := settle_shape h
    have HS := Lib.hid h
    have HB3 := Lib.hid (ext_trans HB2.out h.1)
    clear h
    go_wp2_with fail
    refine (rsettle_any _ _ rs rate _ (HR.out.ext HB3.out) hn HD.out).mono ?_
    rintro e w4 h
    obtain ⟨A4, n4, c4, k4, rfl⟩ := rsettle_shape h
    have hb4 := h.1
    have HB4 := Lib.hid (ext_trans HB3.out h.1)
    rcases post_join HK.out E HS.out h with ⟨k, hk, h1, h2⟩ | ⟨A1, c1, es1, A2', c2', es2, h1, h2, hkey, he1, he2, l1, l2, n1, n2⟩
    · simp only [Ending.returned.injEq, Value.tuple.injEq, Array.mk.injEq, List.cons.injEq, Value.slice.injEq, Value.int.injEq, and_true, true_and] at h1 h2
      obtain ⟨⟨rfl, rfl, rfl⟩, rfl⟩ := h1
      obtain ⟨⟨rfl, rfl, rfl⟩, rfl⟩ := h2
      clear h hb4 HS
      go_wp2_with fail
      refine (Err.coded5_sent k hk _ E _ (errs_ext HE.out HB4.out)).mono ?_
      rintro e w5 ⟨rfl, hb5⟩
      have HB5 := Lib.hid (ext_trans HB4.out hb5)
      clear hb5
      go_wp2_with fail
      go_loopw [12] (fun i wr => w5 = wr ∧ i = .int .i64 0) (fun _ _ => 0)
      case atStart => exact ⟨rfl, rfl⟩
      case round =>
        obtain ⟨rfl, rfl⟩ := hrel
        go_wp2_with fail
        go_ret
        exact ⟨rfl, HB5.out⟩
    · simp only [Ending.returned.injEq, Value.tuple.injEq, Array.mk.injEq, List.cons.injEq, Value.slice.injEq, Value.int.injEq, and_true, true_and] at h1 h2
      obtain ⟨⟨rfl, rfl, rfl⟩, rfl⟩ := h1
      obtain ⟨⟨rfl, rfl, rfl⟩, rfl⟩ := h2
      have hle : es1.length = es2.length := by simpa using congrArg List.length hkey
      have HKE := Lib.hid hkey
      have HE1 := Lib.hid (Ens_ext he1 hb4)
      have HE2' := Lib.hid he2
      have HLL := Lib.hid n2
      clear h hb4 HS hkey he1 he2 n2
      go_wp2_with fail
      refine (Err.coded5_nil 0 _).mono ?_
      rintro e w5 ⟨rfl, rfl⟩
      go_wp2_with fail
      go_loopw [12] (fun i wr => Hid (Below w4.heap.size w4 wr) ∧ ∃ k : Nat, i = .int .i64 k ∧ k ≤ es1.length) (fun i _ => (es1.length - intOf i).toNat)
      case atStart => exact ⟨Below.refl _ _, 0, rfl, by omega⟩
      case round =>
        obtain ⟨HW, k, rfl, hk⟩ := hrel
        by_cases hlt : k < es1.length
        · have hcl : (k : Int) < es1.length := by omega
          have hlt2 : k < es2.length := by omega
          have hcl2 : (k : Int) < es2.length := by omega
          have hkk : es1[k].key = es2[k].key := by
            have := congrArg (fun l => l[k]?) HKE.out
            simpa [hlt, hlt2] using this
          have hd1 : es1[k].day = es2[k].day := congrArg Prod.fst hkk
          have hl1 : es1[k].lines = es2[k].lines := congrArg Prod.snd hkk
          have HM := Lib.hid (HLL.out _ (List.getElem_mem hlt))
          have HQ1 := Lib.hid (((HE1.out.lines _ (List.getElem_mem hlt))).ext HW.out)
          have HQ2 := Lib.hid (((HE2'.out.lines _ (List.getElem_mem hlt2))).ext HW.out)
          obtain ⟨b1, o1, rfl, p0, p1, p2⟩ := en_at (Ens_ext HE1.out HW.out) hlt
          obtain ⟨b2, o2, rfl, q0, q1, q2⟩ := en_at (Ens_ext HE2'.out HW.out) hlt2
          rw [hd1] at p0
          rw [hl1] at p2
          have HQ3 := Lib.hid (show Rd wr es1[k].A (es2[k].lines.flatMap liCells) by rw [← hl1]; exact HQ1.out)
          have HM2 := Lib.hid (show es2[k].lines.length ≤ 100 by rw [← hl1]; have := HM.out; omega)
          clear hkk hd1 hl1 HQ1 HM
          go_wp2_with fail
          go_region_held3 (fun w' => w'.cell? ⟨b1, o1 + k * 3, none⟩ = some (.int .i64 es2[k].day) ∧ w'.cell? ⟨b1, o1 + k * 3 + 1, none⟩ = some (.string ⟨#[97, 110, 101, 119]⟩) ∧ w'.cell? ⟨b1, o1 + k * 3 + 2, none⟩ = some (.slice es1[k].A es2[k].lines.length es1[k].c) ∧ w'.cell? ⟨b2, o2 + k * 3, none⟩ = some (.int .i64 es2[k].day) ∧ w'.cell? ⟨b2, o2 + k * 3 + 1, none⟩ = some (.string ⟨#[97, 110, 101, 119]⟩) ∧ w'.cell? ⟨b2, o2 + k * 3 + 2, none⟩ = some (.slice es2[k].A es2[k].lines.length es2[k].c))
            ((first | exact ⟨cell_ext (ext_drewN wr 1) p0, cell_ext (ext_drewN wr 1) p1, cell_ext (ext_drewN wr 1) p2, cell_ext (ext_drewN wr 1) q0, cell_ext (ext_drewN wr 1) q1, cell_ext (ext_drewN wr 1) q2⟩ | exact ⟨cell_ext HBs.out (cell_ext (ext_drewN wr 1) p0), cell_ext HBs.out (cell_ext (ext_drewN wr 1) p1), cell_ext HBs.out (cell_ext (ext_drewN wr 1) p2), cell_ext HBs.out (cell_ext (ext_drewN wr 1) q0), cell_ext HBs.out (cell_ext (ext_drewN wr 1) q1), cell_ext HBs.out (cell_ext (ext_drewN wr 1) q2)⟩))
            ((go_at_call 18; refine (same_any _ _ HM2.out _ _ _ _ _ (HQ3.out.ext (ext_drewN wr 1)) (HQ2.out.ext (ext_drewN wr 1))).mono ?_; rintro e w8 ⟨rfl, hb8⟩; have HBs := Lib.hid hb8; clear hb8))
          go_wp2_with fail
          go_roundw
          case rel => exact ⟨ext_trans HW.out (ext_trans (ext_drewN wr 1) HBs.out), k + 1, by simp, by omega⟩
          case measure => simp [intOf]; omega
        · have hcl : ¬ (k : Int) < es1.length := by omega
          go_wp2_with fail
          go_ret
          exact ⟨by first | trivial | rfl, ext_trans HB4.out HW.out⟩
end Go.Proofs.YtjnkcpeicocjhaaDoor.LedgerSettles

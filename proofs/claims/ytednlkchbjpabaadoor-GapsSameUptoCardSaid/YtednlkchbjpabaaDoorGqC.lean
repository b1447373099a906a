/- Gaps: the statement's clashes. -/
import Derived.Test.YtednlkchbjpabaaDoorGpH
import Derived.Test.YtednlkchbjpabaaDoorGqS
import Derived.Test.YtednlkchbjpabaaDoorGpF
namespace Go.Proofs.YtednlkchbjpabaaDoor.Gp
open Go.RowKit Mem Nest Fk Err

def ClRes (ns : List Nat) (rs : List Rw) (a b : Int) (cs : List Int) (sm : Bool) : Prop :=
  (sm = false ∧ a = 0 ∧ b = 0 ∧ cs = [] ∧ NoCl ns rs rs.length 0) ∨ (sm = true ∧ ∃ i k : Nat, a = i ∧ b = k ∧ i < k ∧ k < rs.length ∧ NoCl ns rs i k ∧ clAt ns rs i k = some cs)
theorem ClRes.at {ns : List Nat} {rs : List Rw} {a b : Int} {cs d : List Int} {sm : Bool} {i k : Nat} (h : ClRes ns rs a b cs sm) (hN : NoCl ns rs i k) (hik : i < k) (hk : k < rs.length) (hc : clAt ns rs i k = some d) :
    sm = true ∧ a = i ∧ b = k ∧ cs = d := by
  rcases h with ⟨_, _, _, _, h1⟩ | ⟨h0, i', k', rfl, rfl, hik', hk', hN', hc'⟩
  · rw [h1 i k hik hk (.inl (by omega))] at hc
    cases hc
  · by_cases h1 : i < i' ∨ (i = i' ∧ k < k')
    · rw [hN' i k hik hk h1] at hc
      cases hc
    · by_cases h2 : i' < i ∨ (i' = i ∧ k' < k)
      · rw [hN i' k' hik' hk' h2] at hc'
        cases hc'
      · have e1 : i' = i := by omega
        have e2 : k' = k := by omega
        subst e1 e2
        rw [hc'] at hc
        exact ⟨h0, rfl, rfl, by simpa using hc⟩
theorem ClRes.no {ns : List Nat} {rs : List Rw} {a b : Int} {cs : List Int} {sm : Bool} (h : ClRes ns rs a b cs sm) (hN : NoCl ns rs rs.length 0) : sm = false ∧ a = 0 ∧ b = 0 ∧ cs = [] := by
  rcases h with ⟨h1, h2, h3, h4, _⟩ | ⟨_, i', k', _, _, hik', hk', _, hc'⟩
  · exact ⟨h1, h2, h3, h4⟩
  · rw [hN i' k' hik' hk' (.inl (by omega))] at hc'
    cases hc'
theorem NoCl.last {ns : List Nat} {rs : List Rw} (h : NoCl ns rs rs.length (rs.length + 1)) : NoCl ns rs rs.length 0 := fun a b h1 h2 h3 => h a b h1 h2 (by omega)
def bothF (rs : List Rw) (i k : Nat) (c : List Int) : Bool := fitR (rAt rs i).cells c && fitR (rAt rs k).cells c
theorem clAt_first {ns : List Nat} {rs : List Rw} {xs : List LM} (hx : xs.map LM.l = exts ns) (hN : ∀ r ∈ rs, r.cells.length = ns.length) {i k n : Nat} (hi : i < rs.length) (hk : k < rs.length) (ho : ((rAt rs i).out == (rAt rs k).out) = false)
    (hn : n < xs.length) (hb : bothF rs i k xs[n].l = true) (hl : ∀ j (h : j < xs.length), j < n → bothF rs i k xs[j].l = false) : clAt ns rs i k = some xs[n].l := by
  have e1 : (rAt rs i).cells.length = ns.length := by rw [rAt_get hi]; exact hN _ (List.getElem_mem hi)
  have e2 : (rAt rs k).cells.length = ns.length := by rw [rAt_get hk]; exact hN _ (List.getElem_mem hk)
  unfold clAt
  rw [if_neg (by rw [ho]; simp), ← comm_find ns _ _ e1 e2, ← hx, List.find?_eq_some_iff_getElem]
  refine ⟨hb, n, by simpa using hn, by simp, fun j hj => ?_⟩
  have := hl j (by omega) hj
  unfold bothF at this
  simp only [List.getElem_map]
  rw [this]
  rfl
theorem clAt_never {ns : List Nat} {rs : List Rw} {xs : List LM} (hx : xs.map LM.l = exts ns) (hN : ∀ r ∈ rs, r.cells.length = ns.length) {i k : Nat} (hi : i < rs.length) (hk : k < rs.length) (ho : ((rAt rs i).out == (rAt rs k).out) = false)
    (hl : ∀ j (h : j < xs.length), bothF rs i k xs[j].l = false) : clAt ns rs i k = none := by
  have e1 : (rAt rs i).cells.length = ns.length := by rw [rAt_get hi]; exact hN _ (List.getElem_mem hi)
  have e2 : (rAt rs k).cells.length = ns.length := by rw [rAt_get hk]; exact hN _ (List.getElem_mem hk)
  unfold clAt
  rw [if_neg (by rw [ho]; simp), ← comm_find ns _ _ e1 e2, ← hx, List.find?_eq_none]
  intro c hc
  obtain ⟨x, hx2, rfl⟩ := List.mem_map.1 hc
  obtain ⟨j, hj, rfl⟩ := List.mem_iff_getElem.1 hx2
  have := hl j hj
  unfold bothF at this
  rw [this]
  simp
set_option maxRecDepth 100000 in
set_option maxHeartbeats 8000000 in
theorem clashes_any (qv : Value) (ms : List RwM) (RA : Option Addr) (rc : Nat) (xs : List LM) (LA : Option Addr) (lc : Nat) (a b : Int) (cs : List Int) (CA : Option Addr) (cc : Nat) (sm : Bool) (ns : List Nat) (rs : List Rw) (hrs : rs = ms.map RwM.rw) (hx : xs.map LM.l = exts ns) (hN : ∀ r ∈ rs, r.cells.length = ns.length)
    (hm : ms.length ≤ 60) (hn : ns.length ≤ 12) (hxl : xs.length ≤ 600) (hcl : cs.length ≤ 1048576) (hres : ClRes ns rs a b cs sm) (w : World) (hr : DRows w RA ms) (hl : LRows w LA xs) (hc : Rd w CA (ints cs)) :
    Calls Tryd.prog 19 #[.agg #[qv, .slice RA ms.length rc], .slice LA xs.length lc, .int .i64 a, .int .i64 b, .slice CA cs.length cc, .bool sm] w (RetA true w) := by
  have hbk := Blk.new w 25 [qv, .slice RA ms.length rc]
  have hx1 := ext_alloc w (.cells (List.toArray [qv, .slice RA ms.length rc]) 25)
  obtain ⟨W, hW⟩ : ∃ W, W = w.alloc (.cells (List.toArray [qv, .slice RA ms.length rc]) 25) := ⟨_, rfl⟩
  obtain ⟨K, hK⟩ : ∃ K, K = w.heap.size := ⟨_, rfl⟩
  rw [← hW] at hx1 hbk
  rw [← hK] at hbk
  have HX := Lib.hid hx1
  have HR := Lib.hid (hr.ext hx1)
  have HL := Lib.hid (hl.ext hx1)
  have HC := Lib.hid (hc.ext hx1)
  have HW := Lib.hid hW
  have HK := Lib.hid hK
  have HRs := Lib.hid hrs
  have HXs := Lib.hid hx
  have HN := Lib.hid hN
  have HRes := Lib.hid hres
  have HRn := Lib.hid (show rs.length = ms.length by rw [hrs, List.length_map])
  have HLn := Lib.hid (show ∀ x ∈ xs, x.l.length = ns.length from fun x h => exts_len (by rw [← hx]; exact List.mem_map.2 ⟨x, h, rfl⟩))
  have r1 := hbk.cell 1 rfl
  clear hbk hx1 hW hK hr hl hc hrs hx hN hres
  go_enter Tryd.func19, Tryd.ntmps19
  go_upto_region 1 with fail
  rw [show w.alloc (.cells #[qv, .slice RA ms.length rc] 25) = W from HW.out.symm, ← HK.out]
  clear HW
  go_wp2_with fail
  go_loopw [13] (fun t13 wr => ∃ (i : Nat), t13 = .int .i64 i ∧ i ≤ ms.length ∧ Hid (NoCl ns rs i (i + 1)) ∧ Hid (Below W.heap.size W wr)) (fun t13 _ => ms.length - (intOf t13).toNat)
  case atStart => exact ⟨0, rfl, by omega, NoCl.start ns rs, Below.refl _ _⟩
  case round =>
    obtain ⟨i, rfl, hi, HN1, HB⟩ := hrel
    have r1 := cell_ext HB.out r1
    by_cases hlt : i < ms.length
    · have hcl1 : (i : Int) < ms.length := by omega
      go_wp2_with fail
      obtain ⟨wo, hwo⟩ : ∃ wo, wo = wr := ⟨_, rfl⟩
      rw [← hwo] at HB r1 ⊢
      clear hwo wr
      go_loopw [14] (fun t14 wr => ∃ (k : Nat), t14 = .int .i64 k ∧ i < k ∧ k ≤ ms.length ∧ Hid (NoCl ns rs i k) ∧ Hid (Below wo.heap.size wo wr)) (fun t14 _ => ms.length - (intOf t14).toNat)
      case atStart => exact ⟨i + 1, by go_num, by omega, by omega, HN1.out, Below.refl _ _⟩
      case round =>
        obtain ⟨k, rfl, hik, hk, HN2, HB2⟩ := hrel
        have r1 := cell_ext HB2.out r1
        by_cases hlk : k < ms.length
        · have hck : (k : Int) < ms.length := by omega
          have HBk := Lib.hid (ext_trans HB.out HB2.out)
          have HRw := Lib.hid (HR.out.ext HBk.out)
          obtain ⟨rb, ro, hRA, z0, z1⟩ := HRw.out.row hlt
          subst hRA
          obtain ⟨rb2, ro2, hRA2, u0, u1⟩ := HRw.out.row hlk
          cases hRA2
          have HDi := Lib.hid (HRw.out.cells _ (List.getElem_mem hlt))
          have HDk := Lib.hid (HRw.out.cells _ (List.getElem_mem hlk))
          have HEi := Lib.hid (show rAt rs i = ms[i].rw by rw [HRs.out]; simp [rAt, hlt])
          have HEk := Lib.hid (show rAt rs k = ms[k].rw by rw [HRs.out]; simp [rAt, hlk])
          have HLi := Lib.hid (show ms[i].cells.length = ns.length by
            have h1 := HN.out ms[i].rw (by rw [HRs.out]; exact List.mem_map.2 ⟨_, List.getElem_mem hlt, rfl⟩)
            simpa [RwM.rw] using h1)
          have HLk := Lib.hid (show ms[k].cells.length = ns.length by
            have h1 := HN.out ms[k].rw (by rw [HRs.out]; exact List.mem_map.2 ⟨_, List.getElem_mem hlk, rfl⟩)
            simpa [RwM.rw] using h1)
          generalize ms[i] = x at *
          generalize ms[k] = y at *
          obtain ⟨ys, yA, yc, yo⟩ := y
          obtain ⟨zs, xA, xc, xo⟩ := x
          simp only at z0 z1 u0 u1 HDi HDk HLi HLk
          obtain ⟨eq, heq⟩ : ∃ eq, (xo == yo) = eq := ⟨_, rfl⟩
          have HEq := Lib.hid (show ((rAt rs i).out == (rAt rs k).out) = eq by rw [HEi.out, HEk.out]; exact heq)
          have HFi := Lib.hid (show (rAt rs i).cells = zs.map (·.l) by rw [HEi.out]; rfl)
          have HFk := Lib.hid (show (rAt rs k).cells = ys.map (·.l) by rw [HEk.out]; rfl)
          clear HRw
          go_upto_region 7 with fail
          go_quiet (fail)
          obtain ⟨V, hV⟩ : ∃ V, V = wr.drewN nq := ⟨_, rfl⟩
          have hxv : Below wr.heap.size wr V := by rw [hV]; exact ext_drewN wr nq
          rw [← hV]
          have HXv := Lib.hid hxv
          have r1 := cell_ext hxv r1
          have z0 := cell_ext hxv z0
          have z1 := cell_ext hxv z1
          have u0 := cell_ext hxv u0
          have u1 := cell_ext hxv u1
          clear hV hxv
          cases eq with
          | true =>
            have HSt := Lib.hid (HN2.out.step (clAt_same HEq.out))
            go_wp2_with fail
            go_roundw
            case rel => exact ⟨k + 1, by go_num, by omega, by omega, HSt.out, ext_trans HB2.out HXv.out⟩
            case measure => simp [intOf]; omega
          | false =>
            clear heq
            go_wp2_with fail
            go_loopw [15] (fun t15 wr => ∃ (n : Nat), t15 = .int .i64 n ∧ n ≤ xs.length ∧ Hid (∀ j (h : j < xs.length), j < n → bothF rs i k xs[j].l = false) ∧ Hid (Below V.heap.size V wr)) (fun t15 _ => xs.length - (intOf t15).toNat)
            case atStart => exact ⟨0, rfl, by omega, (fun j h h2 => absurd h2 (by omega)), Below.refl _ _⟩
            case round =>
              obtain ⟨n, rfl, hn1, HNo, HB3⟩ := hrel
              have r1 := cell_ext HB3.out r1
              have z0 := cell_ext HB3.out z0
              have z1 := cell_ext HB3.out z1
              have u0 := cell_ext HB3.out u0
              have u1 := cell_ext HB3.out u1
              have HBn := Lib.hid (ext_trans HBk.out (ext_trans HXv.out HB3.out))
              by_cases hln : n < xs.length
              · have hcn : (n : Int) < xs.length := by omega
                obtain ⟨lb, lo, hLA, l0⟩ := (HL.out.ext HBn.out).at hln
                subst hLA
                have HIn := Lib.hid ((HL.out.ext HBn.out).ints _ (List.getElem_mem hln))
                have hll := HLn.out _ (List.getElem_mem hln)
                obtain ⟨f1, hf1⟩ : ∃ f, f = fitR (rAt rs i).cells xs[n].l := ⟨_, rfl⟩
                obtain ⟨f2, hf2⟩ : ∃ f, f = fitR (rAt rs k).cells xs[n].l := ⟨_, rfl⟩
                have HBo := Lib.hid (show bothF rs i k xs[n].l = (f1 && f2) by unfold bothF; rw [hf1, hf2])
                have HC1 := Lib.hid (show ∀ w', Below wr.heap.size wr w' → Calls Tryd.prog 22 #[.agg #[.slice xA zs.length xc, .string ⟨xo.toArray⟩], .slice xs[n].A xs[n].l.length xs[n].c] w' (RetA f1 w') from fun w' hb => by
                  rw [hf1, HFi.out]
                  exact rfits_any zs xA xc ⟨xo.toArray⟩ xs[n].l xs[n].A xs[n].c (by rw [hll, HLi.out]; exact Nat.le_refl _) (by omega) w' ((HDi.out.ext (ext_trans HXv.out HB3.out)).ext hb) (HIn.out.ext hb))
                have HC2 := Lib.hid (show ∀ w', Below wr.heap.size wr w' → Calls Tryd.prog 22 #[.agg #[.slice yA ys.length yc, .string ⟨yo.toArray⟩], .slice xs[n].A xs[n].l.length xs[n].c] w' (RetA f2 w') from fun w' hb => by
                  rw [hf2, HFk.out]
                  exact rfits_any ys yA yc ⟨yo.toArray⟩ xs[n].l xs[n].A xs[n].c (by rw [hll, HLk.out]; exact Nat.le_refl _) (by omega) w' ((HDk.out.ext (ext_trans HXv.out HB3.out)).ext hb) (HIn.out.ext hb))
                have HFnd := Lib.hid (show bothF rs i k xs[n].l = true → clAt ns rs i k = some xs[n].l from fun h => clAt_first HXs.out HN.out (by have := HRn.out; omega) (by have := HRn.out; omega) HEq.out hln h HNo.out)
                have HStp := Lib.hid (show bothF rs i k xs[n].l = false → ∀ j (h : j < xs.length), j < n + 1 → bothF rs i k xs[j].l = false from fun h j hj h2 => by
                  rcases Nat.lt_succ_iff_lt_or_eq.1 h2 with h3 | rfl
                  · exact HNo.out j hj h3
                  · exact h)
                clear hf1 hf2
                generalize xs[n] = X at *
                obtain ⟨l, lA, lc2⟩ := X
                simp only at l0 HIn hll HBo HC1 HC2 HFnd HStp
                obtain ⟨ll, hle⟩ : ∃ ll, ll = l.length := ⟨_, rfl⟩
                rw [← hle] at l0 HC1 HC2 hll
                have HLe := Lib.hid hle
                have hll2 : ll ≤ 12 := by omega
                clear hle hll
                have hdr := ext_drewN wr 1
                go_upto_region 11 with fail
                go_region_held3 (fun w' => w'.cell? ⟨K, 1, none⟩ = some (.slice (some ⟨rb, ro, none⟩) ms.length rc) ∧ w'.cell? ⟨rb, ro + i * 2, none⟩ = some (.slice xA zs.length xc) ∧ w'.cell? ⟨rb, ro + i * 2 + 1, none⟩ = some (.string ⟨xo.toArray⟩) ∧ w'.cell? ⟨lb, lo + n, none⟩ = some (.slice lA ll lc2))
                  ((first | exact ⟨r1, z0, z1, l0⟩ | exact ⟨cell_ext hdr r1, cell_ext hdr z0, cell_ext hdr z1, cell_ext hdr l0⟩ | exact ⟨cell_ext HBs.out r1, cell_ext HBs.out z0, cell_ext HBs.out z1, cell_ext HBs.out l0⟩))
                  ((go_at_call 22; refine (HC1.out _ hdr).mono ?_; rintro e w3 ⟨rfl, hb⟩; have HBs := Lib.hid (ext_trans hdr hb); clear hb))
                have HBs1 := Lib.hid HBs.out
                have r1 := cell_ext HBs.out r1
                have u0 := cell_ext HBs.out u0
                have u1 := cell_ext HBs.out u1
                have l0 := cell_ext HBs.out l0
                have hdr2 := ext_drewN w3 1
                clear HBs hdr z0 z1
                go_upto_region 12 with fail
                go_region_held3 (fun w' => w'.cell? ⟨K, 1, none⟩ = some (.slice (some ⟨rb, ro, none⟩) ms.length rc) ∧ w'.cell? ⟨rb, ro + k * 2, none⟩ = some (.slice yA ys.length yc) ∧ w'.cell? ⟨rb, ro + k * 2 + 1, none⟩ = some (.string ⟨yo.toArray⟩) ∧ w'.cell? ⟨lb, lo + n, none⟩ = some (.slice lA ll lc2))
                  ((first | exact ⟨r1, u0, u1, l0⟩ | exact ⟨cell_ext hdr2 r1, cell_ext hdr2 u0, cell_ext hdr2 u1, cell_ext hdr2 l0⟩ | exact ⟨cell_ext HBs.out r1, cell_ext HBs.out u0, cell_ext HBs.out u1, cell_ext HBs.out l0⟩))
                  ((go_at_call 22; refine (HC2.out _ (ext_trans HBs1.out hdr2)).mono ?_; rintro e w4 ⟨rfl, hb⟩; have HBs := Lib.hid (ext_trans hdr2 hb); clear hb))
                have HBt := Lib.hid (ext_trans HBs1.out HBs.out)
                have l0 := cell_ext HBs.out l0
                clear HBs HBs1 hdr2 r1 u0 u1 HC1 HC2
                cases f1 with
                | false =>
                  have HSt := Lib.hid (HStp.out (by rw [HBo.out]; rfl))
                  go_wp2_with fail
                  go_roundw
                  case rel => exact ⟨n + 1, by go_num, by omega, HSt.out, ext_trans HB3.out HBt.out⟩
                  case measure => simp [intOf]; omega
                | true =>
                  cases f2 with
                  | false =>
                    have HSt := Lib.hid (HStp.out (by rw [HBo.out]; rfl))
                    go_wp2_with fail
                    go_roundw
                    case rel => exact ⟨n + 1, by go_num, by omega, HSt.out, ext_trans HB3.out HBt.out⟩
                    case measure => simp [intOf]; omega
                  | true =>
                    have hcl2 := HFnd.out (by rw [HBo.out]; rfl)
                    obtain ⟨rfl, rfl, rfl, rfl⟩ := HRes.out.at HN2.out hik (by have := HRn.out; omega) hcl2
                    have hia : ((i : Int) == (i : Int)) = true := by simp
                    have hka : ((k : Int) == (k : Int)) = true := by simp
                    have HSm := Lib.hid (show Calls Tryd.prog 18 #[.slice CA ll cc, .slice lA ll lc2] w4 (RetA true w4) from by
                      have h := same5_any cs cs CA lA cc lc2 w4 (HC.out.ext (ext_trans HBn.out HBt.out)) (HIn.out.ext HBt.out) hcl hcl
                      rw [← HLe.out] at h
                      rw [show (true : Bool) = (cs == cs) by simp]
                      exact h)
                    rw [← HLe.out]
                    clear hcl2
                    go_wp2_with fail
                    refine HSm.out.mono ?_
                    rintro e w5 ⟨rfl, hb5⟩
                    have HB5 := Lib.hid hb5
                    clear hb5
                    go_wp2_with fail
                    go_ret
                    exact retA rfl (ext_trans HX.out (ext_trans HBn.out (ext_trans HBt.out HB5.out)))
              · obtain rfl : xs.length = n := by omega
                have hcn : ¬ (xs.length : Int) < xs.length := by omega
                have HSt := Lib.hid (HN2.out.step (clAt_never HXs.out HN.out (by have := HRn.out; omega) (by have := HRn.out; omega) HEq.out (fun j h => HNo.out j h h)))
                go_wp2_with fail
                go_roundw
                case rel => exact ⟨k + 1, by go_num, by omega, by omega, HSt.out, ext_trans HB2.out (ext_trans HXv.out HB3.out)⟩
                case measure => simp [intOf]; omega
        · obtain rfl : ms.length = k := by omega
          have hck : ¬ (ms.length : Int) < ms.length := by omega
          have HNe := Lib.hid (show NoCl ns rs (i + 1) (i + 1 + 1) from NoCl.next (by rw [HRn.out]; exact HN2.out))
          go_wp2_with fail
          go_roundw
          case rel => exact ⟨i + 1, by go_num, by omega, HNe.out, ext_trans HB.out HB2.out⟩
          case measure => simp [intOf]; omega
    · obtain rfl : ms.length = i := by omega
      have hcl1 : ¬ (ms.length : Int) < ms.length := by omega
      obtain ⟨rfl, rfl, rfl, rfl⟩ := HRes.out.no (NoCl.last (by rw [HRn.out]; exact HN1.out))
      go_wp2_with fail
      go_ret
      exact retA rfl (ext_trans HX.out HB.out)
end Go.Proofs.YtednlkchbjpabaaDoor.Gp

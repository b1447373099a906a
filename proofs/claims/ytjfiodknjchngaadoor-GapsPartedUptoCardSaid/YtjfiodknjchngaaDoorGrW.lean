/- Gaps: rest: what some rows say of all that is left, as rows of cells. -/
import Derived.Test.YtjfiodknjchngaaDoorGrP
import Derived.Test.YtjfiodknjchngaaDoorGsP
import Derived.Test.YtjfiodknjchngaaDoorGpZ
import Derived.Test.YtjfiodknjchngaaDoorGpN
import Derived.Deep.RegionHeld3
import Derived.Deep.RegionLaw
import Derived.Deep.AppendLies
import Derived.Laws.AppendOwn
namespace Go.Proofs.YtjfiodknjchngaaDoor.Gp
open Go.RowKit Mem Nest Fk MapSet Err App

set_option maxRecDepth 100000 in
set_option maxHeartbeats 8000000 in
theorem rest_any (qms : List QnM) (QA : Option Addr) (qc : Nat) (ms : List RwM) (RA : Option Addr) (rc : Nat) (PB : Nat) (w0 : World) (hq : QsP w0 QA qms) (hr : RowsP w0 RA ms) (hv : ValidT (qms.map QnM.qn) (ms.map RwM.rw)) (ns : List Nat) (hns : ns = qms.map fun q => q.ans.length)
    (p0 : w0.cell? ⟨PB, 0, none⟩ = some (.slice QA qms.length qc)) (p1 : w0.cell? ⟨PB, 1, none⟩ = some (.slice RA ms.length rc)) (lf : Nat → Nat → Nat → Nat) (hlf : lf = fun (m q i : Nat) => lft (ms.map RwM.rw) q (i : Nat) m (ms.map RwM.rw).length) (fo : Nat → List UInt8) (hfo : fo = fun m => (firstF (ms.map RwM.rw) m).getD []) :
    ∀ (r q : Nat), q + r = ns.length → ∀ (l : Nat) (w : World), l < 2 ^ 64 → Below w0.heap.size w0 w → Calls Tryd.prog 26 #[.pointer (some ⟨PB, 0, none⟩), .int .i64 q, .int .u64 l] w (RestPost ((restF lf fo (ns.drop q) q l).take 61) w) := by
  intro r
  induction r with
  | zero =>
    intro q hqr l w hl hb
    obtain rfl : q = ns.length := by omega
    rw [List.drop_length]
    have hm60 : ms.length ≤ 60 := by have := hv.r60; rwa [List.length_map] at this
    have hnl : ns.length = qms.length := by rw [hns, List.length_map]
    have c0 := cell_ext hb p0
    have c1 := cell_ext hb p1
    by_cases h0 : l = 0
    · subst h0
      have HE := Lib.hid (show (restF lf fo [] ns.length 0).take 61 = [] by simp [restF])
      rw [show ((0 : Nat) : Int) = 0 from rfl]
      clear hq hr hv hns hlf hfo
      go_enter Tryd.func26, Tryd.ntmps26
      go_wp2_with fail
      go_ret
      exact ⟨none, 0, [], rfl, by rw [HE.out]; rfl, World.ownsRow_nil _ _ _ _, (fun r hr => by cases hr), Below.refl _ _⟩
    · have hlb : ((l : Int) == 0) = false := by simp; omega
      have HF := Lib.hid (first_any (.slice QA qms.length qc) ms RA rc l hl (by omega) w (hr.ext hb))
      have HE := Lib.hid (show (restF lf fo [] ns.length l).take 61 = [⟨[], (firstF (ms.map RwM.rw) l).getD []⟩] by simp [restF, h0, hfo])
      rw [hnl]
      unfold SayPost at HF
      obtain ⟨la, hla⟩ : ∃ la, la = (firstF (ms.map RwM.rw) l).getD [] := ⟨_, rfl⟩
      obtain ⟨pa, hpa⟩ : ∃ pa, pa = (firstF (ms.map RwM.rw) l).isSome := ⟨_, rfl⟩
      rw [← hla, ← hpa] at HF
      rw [← hla] at HE
      rw [hnl] at HE
      have hqq : ((qms.length : Int) == (qms.length : Int)) = true := by simp
      clear hq hr hv hns hlf hfo h0 hla hpa hnl hl
      go_enter Tryd.func26, Tryd.ntmps26
      go_wp2_with fail
      refine HF.out.mono ?_
      rintro e w1 ⟨rfl, hb1⟩
      have HB1 := Lib.hid hb1
      clear hb1 c0 c1
      go_wp2_with fail
      go_ret
      have hbk := Blk.new w1 91 [.slice none 0 0, .string ⟨la.toArray⟩]
      refine ⟨_, _, [⟨[], none, 0, la⟩], rfl, by rw [HE.out]; rfl, own_builtN hbk rfl HB1.out.size, fun r hr => ?_, ext_trans HB1.out (ext_alloc w1 _)⟩
      rw [List.mem_singleton] at hr
      subst hr
      exact ⟨⟨RdK.nil, fun x hx => by cases hx⟩, fun _ => rfl⟩
  | succ r ih =>
    intro q hqr l w hl hb
    have hqn : q < ns.length := by omega
    have hm60 : ms.length ≤ 60 := by have := hv.r60; rwa [List.length_map] at this
    have hq12 : qms.length ≤ 12 := by have := hv.q12; rwa [List.length_map] at this
    have hqm : q < qms.length := by rw [hns, List.length_map] at hqn; exact hqn
    have hdrop : ns.drop q = ns[q] :: ns.drop (q + 1) := List.drop_eq_getElem_cons hqn
    rw [hdrop]
    have c0 := cell_ext hb p0
    have c1 := cell_ext hb p1
    by_cases h0 : l = 0
    · subst h0
      have HE := Lib.hid (show (restF lf fo (ns[q] :: ns.drop (q + 1)) q 0).take 61 = [] by simp [restF])
      rw [show ((0 : Nat) : Int) = 0 from rfl]
      clear hq hr hv hns hlf hfo ih
      go_enter Tryd.func26, Tryd.ntmps26
      go_wp2_with fail
      go_ret
      exact ⟨none, 0, [], rfl, by rw [HE.out]; rfl, World.ownsRow_nil _ _ _ _, (fun r hr => by cases hr), Below.refl _ _⟩
    · have hlb : ((l : Int) == 0) = false := by simp; omega
      have hqq : ((q : Int) == (qms.length : Int)) = false := by simp; omega
      have hqc : (q : Int) < qms.length := by omega
      have HCn := Lib.hid (show ∀ x, ∀ r ∈ (restF lf fo (ns.drop (q + 1)) (q + 1) x).take 61, r.cells.length ≤ 12 from fun x r hr => by
        rw [restF_clen (List.mem_of_mem_take hr), List.length_drop, hns, List.length_map]
        omega)
      have hmm := @run_makeMap Tryd.prog
      obtain ⟨qb, qo, hQA, z0, z1⟩ := (hq.ext hb).row hqm
      have hna12 : qms[q].ans.length ≤ 12 := hv.a12 qms[q].qn (List.mem_map.2 ⟨_, List.getElem_mem hqm, rfl⟩)
      have hnq : ns[q] = qms[q].ans.length := by simp [hns]
      obtain ⟨n, hn⟩ : ∃ n, n = qms[q].ans.length := ⟨_, rfl⟩
      have hn12 : n ≤ 12 := by omega
      rw [hnq, ← hn]
      obtain ⟨nsr, hnsr⟩ : ∃ nsr, nsr = ns.drop (q + 1) := ⟨_, rfl⟩
      rw [← hnsr, restF_full lf fo nsr n q l h0]
      rw [← hnsr] at HCn
      obtain ⟨f, hf⟩ : ∃ f, f = lf l q := ⟨_, rfl⟩
      have HLe := Lib.hid (fun (w' : World) (hbe : Below w.heap.size w w') (i : Nat) => show Calls Tryd.prog 50 #[.agg #[.slice QA qms.length qc, .slice RA ms.length rc], .int .u64 l, .int .i64 q, .int .i64 (i : Int)] w' (LeftPost (f i) w') from by
        have h := left_any (.slice QA qms.length qc) ms RA rc l q (i : Int) hl (by omega) (fun r hr => by
          have h1 := hv.cl r.rw (List.mem_map.2 ⟨r, hr, rfl⟩)
          unfold RwM.rw at h1
          rw [List.length_map, List.length_map] at h1
          omega) w' (hr.ext (ext_trans hb hbe))
        have e : f i = lft (ms.map RwM.rw) q (i : Int) l ms.length := by rw [hf, hlf]; simp
        rw [e]
        exact h)
      have HF64 := Lib.hid (show ∀ i, f i < 2 ^ 64 from fun i => by
        rw [hf, hlf]
        exact lft_lt _ _ _ _ hl _ (by rw [List.length_map]; omega))
      have HIH := Lib.hid (fun (x : Nat) (hx : x < 2 ^ 64) (w' : World) (hbe : Below w.heap.size w w') => show Calls Tryd.prog 26 #[.pointer (some ⟨PB, 0, none⟩), .int .i64 ((q : Int) + 1), .int .u64 x] w' (RestPost ((restF lf fo nsr (q + 1) x).take 61) w') from by
        have h := ih (q + 1) (by omega) x w' hx (ext_trans hb hbe)
        rw [show ((q + 1 : Nat) : Int) = (q : Int) + 1 by omega, ← hnsr] at h
        exact h)
      have HFs := Lib.hid (show ∀ k, fullP lf fo nsr q l n (k + 1) = fullP lf fo nsr q l n k ++ if seenB f k = true then [] else (restF lf fo nsr (q + 1) (f k)).map (onP f n (f k)) from fun k => by rw [fullP_succ, hf])
      have HCs := Lib.hid (And.intro c0 c1)
      subst hQA
      generalize qms[q] = Q at *
      obtain ⟨nm, an, aA, ac⟩ := Q
      simp only at z0 z1 hn
      rw [← hn] at z1
      have HBw := Lib.hid hb
      clear hn hna12 hnq hnsr hv hns hlf hfo hl ih hdrop hr hq hb hf
      go_enter Tryd.func26, Tryd.ntmps26
      obtain ⟨W1, hW1⟩ : ∃ W1, W1 = w.alloc (.map #[] 0) := ⟨_, rfl⟩
      have hx1 : Below w.heap.size w W1 := by rw [hW1]; exact ext_alloc _ _
      have hsm : SetM Tryd.prog 86 4 W1 w.heap.size 0 (fun _ => False) := by rw [hW1]; exact SetM.made w
      have hs1 : w.heap.size + 1 ≤ W1.heap.size := by rw [hW1, World.size_alloc]; exact Nat.le_refl _
      have HX1 := Lib.hid hx1
      have HSm := Lib.hid hsm
      have HW1 := Lib.hid hW1
      have z1w := cell_ext hx1 z1
      have c0w := cell_ext hx1 c0
      clear hW1 hx1 hsm
      go_upto_region 8 with fail
      rw [show w.alloc (.map #[] 0) = W1 from HW1.out.symm]
      clear HW1 hmm c0 z1 z0
      go_wp2_with fail
      obtain ⟨B0, hB0⟩ : ∃ B0, B0 = w.heap.size := ⟨_, rfl⟩
      rw [← hB0] at HSm hs1 ⊢
      have HB0 := Lib.hid hB0
      clear hB0
      obtain ⟨i0, hi, hz0, hz1, hz2⟩ := info_parts int_info
      have HI := Lib.hid (And.intro hi (And.intro hz0 (And.intro hz1 hz2)))
      clear hi hz0 hz1 hz2
      go_loopw [9, 52] (fun t9 t52 wr => ∃ (i kk : Nat) (v : Value) (m2 : List RwM), v = t9 ∧ t52 = .int .i64 i ∧ i ≤ n ∧ kk ≤ i ∧ m2.length ≤ 60 ∧ Hid (m2.map RwM.rw = fullP lf fo nsr q l n i) ∧ Hid (wr.ownsRow (B0 + 1) 91 2 v m2.length (m2.flatMap rwmCells)) ∧ Hid (∀ r ∈ m2, RoN wr r) ∧ Hid (SetM Tryd.prog 86 4 wr B0 kk (fun x => ∃ j, j < i ∧ x = .int .u64 (f j : Nat))) ∧ Hid (Below B0 W1 wr)) (fun _ t52 _ => n - (intOf t52).toNat)
      case atStart => exact ⟨0, 0, _, [], rfl, rfl, by omega, by omega, by simp, rfl, World.ownsRow_nil _ _ _ _, (fun r hr => by cases hr), HSm.out.congr (fun x => ⟨fun h => h.elim, fun ⟨j, hj, _⟩ => absurd hj (by omega)⟩), Below.refl _ _⟩
      case round =>
        obtain ⟨i, kk, v, m2, rfl, rfl, hi, hkk, hm2, HM2, HOw, HRo, HSt, HB⟩ := hrel
        have HBx := Lib.hid (show Below w.heap.size w wr from by have h := HB.out; rw [HB0.out] at h; exact HX1.out.trans h)
        have c0x := cell_ext HBx.out HCs.out.1
        have c1x := cell_ext HBx.out HCs.out.2
        by_cases hlt : i < n
        · have hcl : (i : Int) < n := by omega
          have hxl := HF64.out i
          obtain ⟨x, hx⟩ : ∃ x, x = f i := ⟨_, rfl⟩
          have HLi := Lib.hid (show ∀ w', Below w.heap.size w w' → Calls Tryd.prog 50 #[.agg #[.slice (some ⟨qb, qo, none⟩) qms.length qc, .slice RA ms.length rc], .int .u64 l, .int .i64 q, .int .i64 (i : Int)] w' (LeftPost x w') from fun w' hb => by rw [hx]; exact HLe.out w' hb i)
          rw [← hx] at hxl
          have HXe := Lib.hid hx
          clear hx
          go_wp2_with fail
          refine (HLi.out wr HBx.out).mono ?_
          rintro e w2 ⟨rfl, hb2⟩
          have HB2 := Lib.hid hb2
          have HSt2 := Lib.hid (HSt.out.ext hb2)
          have HOw2 := Lib.hid (own_ext HOw.out hb2)
          have HRo2 := Lib.hid (show ∀ r ∈ m2, RoN w2 r from fun r hr => (HRo.out r hr).ext hb2)
          have HBx2 := Lib.hid (ext_trans HBx.out hb2)
          have hsz2 : B0 + 1 ≤ w2.heap.size := by have := HSt2.out.lt; omega
          have hsw : w.heap.size ≤ wr.heap.size := HBx.out.size
          clear hb2 c0x c1x
          obtain ⟨kl, hkl⟩ := alive_key x hxl
          obtain ⟨cb, hlook, hcb⟩ := HSt2.out.lookup alive_law Tryd.underlying126 Tryd.underlying4 (zeroBK w2) hkl
          have HCb := Lib.hid (show cb = seenB f i from by
            rw [Bool.eq_iff_iff, hcb]
            constructor
            · rintro ⟨j, hj, e⟩
              simp only [Value.int.injEq, true_and] at e
              unfold seenB anyTo
              rw [List.any_eq_true]
              exact ⟨j, List.mem_range.2 hj, by rw [HXe.out] at e; simp; omega⟩
            · intro h
              obtain ⟨j, hj, e⟩ := seen_at h
              exact ⟨j, hj, by rw [HXe.out, e]⟩)
          cases cb with
          | true =>
            have HE1 := Lib.hid (show fullP lf fo nsr q l n (i + 1) = fullP lf fo nsr q l n i by rw [HFs.out, ← HCb.out, if_pos rfl, List.append_nil])
            go_wp2_with fail
            go_roundw
            case rel => exact ⟨i + 1, kk, v, m2, rfl, by go_num, by omega, by omega, hm2, (show m2.map RwM.rw = _ by rw [HE1.out, HM2.out]), HOw2.out, HRo2.out, HSt2.out.congr (fun y => by
              constructor
              · rintro ⟨j, hj, e⟩
                exact ⟨j, by omega, e⟩
              · rintro ⟨j, hj, e⟩
                by_cases hji : j = i
                · subst hji
                  obtain ⟨j2, h2, e2⟩ := seen_at HCb.out.symm
                  exact ⟨j2, h2, by rw [e, e2]⟩
                · exact ⟨j, by omega, e⟩), (show Below B0 W1 w2 from HB.out.trans (HB2.out.mono (by rw [HB0.out]; exact hsw)))⟩
            case measure => simp [intOf]; omega
          | false =>
            have HE1 := Lib.hid (show fullP lf fo nsr q l n (i + 1) = fullP lf fo nsr q l n i ++ (restF lf fo nsr (q + 1) x).map (onP f n x) by rw [HFs.out, ← HCb.out, if_neg (by simp), HXe.out])
            obtain ⟨w3, hupd, hs3, hg3⟩ := HSt2.out.update alive_law Tryd.underlying126 Tryd.underlying4 (show kk < maxLen by unfold maxLen; omega) hkl
            have HS3 := Lib.hid (hs3.congr (S' := fun y => ∃ j, j < i + 1 ∧ y = .int .u64 (f j : Nat)) (fun y => by
              constructor
              · rintro (rfl | ⟨j, hj, e⟩)
                · exact ⟨i, by omega, by rw [HXe.out]⟩
                · exact ⟨j, by omega, e⟩
              · rintro ⟨j, hj, e⟩
                by_cases hji : j = i
                · subst hji
                  exact .inl (by rw [e, HXe.out])
                · exact .inr ⟨j, by omega, e⟩))
            have HB3 := Lib.hid (show Below B0 W1 w3 from (HB.out.trans (HB2.out.mono (by rw [HB0.out]; exact hsw))).trans (grown_keep hg3 (Nat.le_refl _) (by omega)))
            have HO3 := Lib.hid (HOw2.out.kept hg3 (by
              cases hob : v.ownBlock with
              | none => exact .inl rfl
              | some g =>
                have := (HOw2.out.lt g hob).1
                exact .inr (by intro e; cases e; omega)))
            have HR3 := Lib.hid (show ∀ r ∈ m2, RoN w3 r from fun r hr => (HRo2.out r hr).kp (kp_map HSt2.out hg3) (fun h => h) (fun h => h))
            have hs23 : B0 + 1 ≤ w3.heap.size := by have := hg3.size; omega
            have HBx3 := Lib.hid (show Below w.heap.size w w3 from HX1.out.trans (by have h := HB3.out; rw [HB0.out] at h; exact h))
            have hupd : (Instr.mapUpdate 126 (.map (some B0)) (.int .u64 (x : Int)) (.bool true)).run Tryd.prog w2 = .ok () w3 := hupd
            clear hs3 hg3 hkl hcb
            go_upto_region 15 with fail
            clear hupd hlook hsz2 hsw HSt2 HOw2 HRo2 HBx2 HB2 HSt HOw HRo HB HBx HLi
            obtain ⟨i1, hi1, hz0, hz1, hz2⟩ := info_parts int_infoK
            have HI1 := Lib.hid (And.intro hi1 (And.intro hz0 (And.intro hz1 hz2)))
            clear hi1 hz0 hz1 hz2
            go_wp2_with fail
            go_loopw [14, 69] (fun t14 t69 wr => ∃ (k : Nat) (v4 : Value) (cl : List Int), v4 = t14 ∧ t69 = .int .i64 k ∧ k ≤ n ∧ cl.length ≤ k ∧ Hid (cl = ((List.range k).filter fun k => f k == x).map fun k : Nat => (k : Int)) ∧ Hid (wr.ownsRow w3.heap.size 3 1 v4 cl.length (ints cl)) ∧ Hid (Below w3.heap.size w3 wr)) (fun _ t69 _ => n - (intOf t69).toNat)
            case atStart => exact ⟨0, _, [], rfl, rfl, by omega, by simp, (show ([] : List Int) = _ from rfl), World.ownsRow_nil _ _ _ _, Below.refl _ _⟩
            case round =>
              obtain ⟨k, v4, cl, rfl, rfl, hk, hcl4, HCl, HO4, HB4⟩ := hrel
              have HB4x := Lib.hid (ext_trans HBx3.out HB4.out)
              by_cases hlk : k < n
              · have hck : (k : Int) < n := by omega
                have c0x := cell_ext HB4x.out HCs.out.1
                have c1x := cell_ext HB4x.out HCs.out.2
                have hsw4 : w3.heap.size ≤ wr.heap.size := HB4.out.size
                obtain ⟨xk, hxk⟩ : ∃ xk, xk = f k := ⟨_, rfl⟩
                have HLk := Lib.hid (show Calls Tryd.prog 50 #[.agg #[.slice (some ⟨qb, qo, none⟩) qms.length qc, .slice RA ms.length rc], .int .u64 l, .int .i64 q, .int .i64 (k : Int)] wr (LeftPost xk wr) from by rw [hxk]; exact HLe.out wr HB4x.out k)
                have HXk := Lib.hid hxk
                have hxk64 : xk < 2 ^ 64 := by rw [hxk]; exact HF64.out k
                clear hxk
                cases hqx : (xk == x) with
                | true =>
                  have hqi : ((xk : Int) == (x : Int)) = true := by rw [beq_iff_eq] at hqx ⊢; omega
                  have HCl2 := Lib.hid (show cl ++ [(k : Int)] = ((List.range (k + 1)).filter fun k => f k == x).map fun k : Nat => (k : Int) by
                    rw [List.range_succ, List.filter_append, List.map_append, HCl.out]
                    have e : (f k == x) = true := by rw [← HXk.out]; exact hqx
                    simp [e])
                  clear hqx
                  go_wp2_with fail
                  refine HLk.out.mono ?_
                  rintro e w5 ⟨rfl, hb5⟩
                  have HB5 := Lib.hid hb5
                  have hs5 : wr.heap.size ≤ w5.heap.size := hb5.size
                  clear hb5
                  go_wp2_with (at_builtin; refine wpList_append_own _ rfl _ _ _ rfl w3.heap.size 3 i1 _ 1 8 Tryd.underlying46 HI1.out.1 HI1.out.2.1 HI1.out.2.2.1 HI1.out.2.2.2 rfl (by omega) v4 cl.length (ints cl) rfl (World.ownsRow.alloc (own_ext HO4.out HB5.out) _) ⟨w5.heap.size, 0, none⟩ 1 1 [.int .i64 (k : Int)] rfl rfl (new_cells w5 [.int .i64 (k : Int)] _ _ rfl) (by intro u hu; simp only [List.mem_cons, List.not_mem_nil, or_false] at hu; rcases hu with rfl; rfl) (by unfold maxLen; omega) (by omega) (by simp; omega) ?_; intro v6 w6 hown6 hg6 _; have HO6 := Lib.hid hown6; have HB6 := Lib.hid (show Below w3.heap.size w3 w6 from (((HB4.out.trans (HB5.out.mono hsw4)).alloc (by omega) _).grown hg6 (by simp; omega) (fun g hg => (HO4.out.lt g hg).1))); clear hown6 hg6)
                  go_roundw
                  case rel => exact ⟨k + 1, v6, cl ++ [(k : Int)], rfl, by go_num, by omega, by simp; omega, HCl2.out, (show World.ownsRow _ _ _ _ _ _ _ by
                    have h := HO6.out
                    rw [List.length_append]
                    simpa [ints] using h), HB6.out⟩
                  case measure => simp [intOf]; omega
                | false =>
                  have hqi : ((xk : Int) == (x : Int)) = false := by rw [beq_eq_false_iff_ne] at hqx ⊢; omega
                  have HCl2 := Lib.hid (show cl = ((List.range (k + 1)).filter fun k => f k == x).map fun k : Nat => (k : Int) by
                    rw [List.range_succ, List.filter_append, List.map_append, HCl.out]
                    have e : (f k == x) = false := by rw [← HXk.out]; exact hqx
                    simp [e])
                  clear hqx
                  go_wp2_with fail
                  refine HLk.out.mono ?_
                  rintro e w5 ⟨rfl, hb5⟩
                  have HB5 := Lib.hid hb5
                  have hs5 : wr.heap.size ≤ w5.heap.size := hb5.size
                  clear hb5
                  go_wp2_with fail
                  go_roundw
                  case rel => exact ⟨k + 1, v4, cl, rfl, by go_num, by omega, by omega, HCl2.out, own_ext HO4.out HB5.out, (show Below w3.heap.size w3 w5 from HB4.out.trans (HB5.out.mono hsw4))⟩
                  case measure => simp [intOf]; omega
              · obtain rfl : n = k := by omega
                have hck : ¬ (n : Int) < n := by omega
                obtain ⟨CA, cc, rfl, _, _⟩ := own_slice HO4.out
                obtain ⟨w4, hw4⟩ : ∃ w4, w4 = wr := ⟨_, rfl⟩
                have hw4s : w3.heap.size ≤ wr.heap.size := HB4.out.size
                rw [← hw4] at HO4 HB4 HB4x hw4s ⊢
                clear hw4 wr
                go_upto_if 90 with fail
                go_cut [14] (fun t14 wx => w4 = wx ∧ ∃ (A : Option Addr) (c : Nat), t14 = .slice A ((cellP f n x).getD []).length c ∧ Hid (CelK w4 ⟨cellP f n x, A, c⟩))
                case first =>
                  by_cases hfu : cl.length = n
                  · have hfi : ((cl.length : Int) == (n : Int)) = true := by simp [hfu]
                    have HCe := Lib.hid (show cellP f n x = none by
                      unfold cellP
                      rw [if_pos (by have h := hfu; rw [HCl.out, List.length_map] at h; exact h)])
                    clear hfu
                    go_wp2_with fail
                    go_meet
                    exact ⟨rfl, none, 0, by rw [HCe.out]; rfl, by rw [HCe.out]; exact ⟨RdK.nil, fun _ => ⟨rfl, rfl⟩, fun h => (h rfl).elim, by simp⟩⟩
                  · have hfi : ((cl.length : Int) == (n : Int)) = false := by simp; omega
                    have HCe := Lib.hid (cell_made (by omega) hlt HXe.out.symm HCl.out HO4.out hfu)
                    clear hfu
                    go_wp2_with fail
                    go_meet
                    exact ⟨rfl, CA, cc, by rw [HCe.out.2]; rfl, HCe.out.1⟩
                case rest =>
                  obtain ⟨rfl, A4, c4, rfl, HCe⟩ := hcut
                  go_wp2_with fail
                  refine (HIH.out x hxl w4 HB4x.out).mono ?_
                  rintro e w5 ⟨A3, c3, m3, rfl, hm3, ho3, hr3, hb5⟩
                  have hm3l : m3.length ≤ 61 := by
                    have h := congrArg List.length hm3
                    rw [List.length_map, List.length_take] at h
                    omega
                  have HCn3 := Lib.hid (show ∀ r ∈ m3, r.cells.length ≤ 12 from fun r hr => by
                    have h := HCn.out x r.rw (by rw [← hm3]; exact List.mem_map.2 ⟨r, hr, rfl⟩)
                    unfold RwM.rw at h
                    rwa [List.length_map] at h)
                  have HM3 := Lib.hid hm3
                  have HOm := Lib.hid ho3
                  have HRm := Lib.hid hr3
                  have HO5 := Lib.hid (own_ext (own_ext HO3.out HB4.out) hb5)
                  have HR5 := Lib.hid (show ∀ r ∈ m2, RoN w5 r from fun r hr => ((HR3.out r hr).ext HB4.out).ext hb5)
                  have HS5 := Lib.hid ((HS3.out.ext HB4.out).ext hb5)
                  have HC5 := Lib.hid (show CelK w5 ⟨cellP f n x, A4, c4⟩ from HCe.out.kp (Kp.of (fun _ => False) hb5) (fun h => h))
                  have HBx5 := Lib.hid (show Below w.heap.size w w5 from ext_trans HB4x.out hb5)
                  have HB05 := Lib.hid (show Below B0 W1 w5 from (HB3.out.trans (HB4.out.mono (by omega))).trans (hb5.mono (by omega)))
                  have HNe := Lib.hid (show ∀ g, v.ownBlock = some g → (Value.slice A3 m3.length c3).ownBlock ≠ some g from fun g hg h3 => by
                    have h1 := ((own_ext HO3.out HB4.out).lt g hg).2
                    have h2 := (ho3.lt g h3).1
                    omega)
                  have hs5 : B0 + 1 ≤ w5.heap.size := by have := hb5.size; omega
                  have hcn : ((cellP f n x).getD []).length ≤ n := by
                    unfold cellP
                    split
                    · simp
                    · simp only [Option.getD_some, List.length_map]
                      have := List.length_filter_le (fun k => f k == x) (List.range n)
                      rwa [List.length_range] at this
                  clear hm3 ho3 hr3 hb5 hupd HBx3 HB4x HB4 HO4 HO3 HR3 HS3 HB3 HCe
                  obtain ⟨i2, hi1, hz0, hz1, hz2⟩ := info_parts ints_infoK
                  have HI2 := Lib.hid (And.intro hi1 (And.intro hz0 (And.intro hz1 hz2)))
                  clear hi1 hz0 hz1 hz2
                  obtain ⟨i3, hi1, hz0, hz1, hz2⟩ := info_parts row_infoK
                  have HI3 := Lib.hid (And.intro hi1 (And.intro hz0 (And.intro hz1 hz2)))
                  clear hi1 hz0 hz1 hz2
                  obtain ⟨cn, hcnn⟩ : ∃ cn, cn = ((cellP f n x).getD []).length := ⟨_, rfl⟩
                  rw [← hcnn] at hcn ⊢
                  have HCN := Lib.hid (show Value.slice A4 cn c4 = cellV ⟨cellP f n x, A4, c4⟩ by rw [hcnn]; rfl)
                  clear hcnn
                  go_wp2_with fail
                  go_loopw [9, 97] (fun t9 t97 wr => ∃ (j : Nat) (v5 : Value) (m4 : List RwM), v5 = t9 ∧ t97 = .int .i64 j ∧ j ≤ m3.length ∧ m4.length ≤ 60 ∧ Hid (m4.map RwM.rw = m2.map RwM.rw ++ ((m3.take j).map RwM.rw).map (onP f n x)) ∧ Hid (wr.ownsRow (B0 + 1) 91 2 v5 m4.length (m4.flatMap rwmCells)) ∧ Hid (∀ r ∈ m4, RoN wr r) ∧ Hid (wr.ownsRow w4.heap.size 91 2 (.slice A3 m3.length c3) m3.length (m3.flatMap rwmCells)) ∧ Hid (∀ g, v5.ownBlock = some g → (Value.slice A3 m3.length c3).ownBlock ≠ some g) ∧ Hid (Kp (fun T => T = 91) w5 wr) ∧ Hid (Below (B0 + 1) w5 wr)) (fun _ t97 _ => m3.length - (intOf t97).toNat)
                  case atStart => exact ⟨0, v, m2, rfl, rfl, by omega, hm2, (show m2.map RwM.rw = m2.map RwM.rw ++ ((m3.take 0).map RwM.rw).map (onP f n x) by simp), HO5.out, HR5.out, HOm.out, HNe.out, Kp.refl _ _, Below.refl _ _⟩
                  case round =>
                    obtain ⟨j, v5, m4, rfl, rfl, hj, hm4, HM4, HO6, HR6, HOn, HNe6, HK6, HB6⟩ := hrel
                    have hs6 : w5.heap.size ≤ wr.heap.size := HB6.out.size
                    by_cases hlj : j < m3.length
                    · have hcj : (j : Int) < m3.length := by omega
                      obtain ⟨b3, o3, hA3, hc⟩ := (Rd.of_own HOn.out).row rwmCells_len hlj (by omega)
                      have y0 : wr.cell? ⟨b3, o3 + j * 2, none⟩ = some (.slice m3[j].A m3[j].cells.length m3[j].c) := by simpa using hc 0 _ rfl
                      have y1 : wr.cell? ⟨b3, o3 + j * 2 + 1, none⟩ = some (.string ⟨m3[j].out.toArray⟩) := by simpa [Nat.add_assoc] using hc 1 _ rfl
                      subst hA3
                      clear hc
                      have HRj := Lib.hid (show RoN wr m3[j] from (HRm.out _ (List.getElem_mem hlj)).kp HK6.out (by decide) (by decide))
                      have hrl := HCn3.out _ (List.getElem_mem hlj)
                      obtain ⟨R, hR⟩ : ∃ R, R = m3[j] := ⟨_, rfl⟩
                      rw [← hR] at y0 y1 HRj hrl
                      have HTk := Lib.hid (show m3.take (j + 1) = m3.take j ++ [R] by rw [List.take_succ_eq_append_getElem hlj, hR])
                      clear hR
                      obtain ⟨rcs, rA, rcc, ro⟩ := R
                      simp only at y0 y1 hrl
                      obtain ⟨V1, hV1⟩ : ∃ V, V = wr.alloc (.cells (List.toArray [.slice rA rcs.length rcc, .string ⟨ro.toArray⟩]) 91) := ⟨_, rfl⟩
                      obtain ⟨K1, hK1⟩ : ∃ K, K = wr.heap.size := ⟨_, rfl⟩
                      have hb1 : Below wr.heap.size wr V1 := by rw [hV1]; exact ext_alloc _ _
                      have hbk : Blk V1 K1 91 [.slice rA rcs.length rcc, .string ⟨ro.toArray⟩] := by rw [hV1, hK1]; exact Blk.new _ _ _
                      have hsV : V1.heap.size = K1 + 1 := by rw [hV1, hK1, World.size_alloc]
                      have r0 := hbk.cell 0 rfl
                      have r1 := hbk.cell 1 rfl
                      have HBV := Lib.hid hb1
                      have HBk := Lib.hid hbk
                      have HV1 := Lib.hid hV1
                      have HK1 := Lib.hid hK1
                      clear hV1 hb1 hbk hK1
                      go_upto_region 27 with fail
                      rw [show wr.alloc (.cells #[.slice rA rcs.length rcc, .string ⟨ro.toArray⟩] 91) = V1 from HV1.out.symm, ← HK1.out]
                      clear y0 y1 HV1
                      have HW := Lib.hid (ext_alloc V1 (.cells (List.toArray [.slice A4 cn c4]) 46))
                      have HAg := Lib.hid (show v5.ownBlock ≠ some K1 from fun hg => by have h := (HO6.out.lt K1 hg).2; rw [← HK1.out] at h; omega)
                      have hb2 := Blk.new V1 46 [.slice A4 cn c4]
                      rw [hsV] at hb2
                      have HOb := Lib.hid (own_builtN (base := K1 + 1) hb2 rfl (Nat.le_refl _))
                      have HRr := Lib.hid (show Rd (V1.alloc (.cells (List.toArray [.slice A4 cn c4]) 46)).drew rA (rcs.map cellV) from HRj.out.1.row.rd.ext (ext_trans HBV.out (ext_trans HW.out (ext_drewN _ 1))))
                      clear hb2
                      go_region_held3 (fun w' => w'.cell? ⟨K1, 0, none⟩ = some (.slice rA rcs.length rcc) ∧ w'.cell? ⟨K1, 1, none⟩ = some (.string ⟨ro.toArray⟩))
                        (first
                          | go_keep
                          | exact ⟨r0, r1⟩
                          | exact ⟨cell_ext HW.out r0, cell_ext HW.out r1⟩
                          | exact ⟨cell_ext HB6v.out r0, cell_ext HB6v.out r1⟩
                          | exact ⟨cell_ext (ext_trans HB6v.out (ext_alloc _ _)) r0, cell_ext (ext_trans HB6v.out (ext_alloc _ _)) r1⟩
                          | exact HR7.out)
                        ((first
                          | (refine step_append_rd _ (by rfl) _ _ _ (by rfl) (K1 + 1) 46 i2 _ 1 24 Tryd.underlying39 HI2.out.1 HI2.out.2.1 HI2.out.2.2.1 HI2.out.2.2.2 rfl (by omega) (.slice (some ⟨K1 + 1, 0, none⟩) 1 1) 1 [.slice A4 cn c4] (by rfl) HOb.out.drew rA rcs.length rcc (rcs.map cellV) (by rfl) HRj.out.2 (by simp) HRr.out (fun u hu => by obtain ⟨y, _, rfl⟩ := List.mem_map.1 hu; rfl) (by unfold maxLen; omega) (by omega) (by show K1 + 1 ≤ (V1.alloc _).heap.size; rw [World.size_alloc]; omega) ?_
                             intro v6 w6 hown6 hg6
                             obtain ⟨A6, c6, hv6, hc6, hc7⟩ := own_slice hown6
                             subst hv6
                             have HO6n := Lib.hid hown6
                             have HA6 := Lib.hid (show A6 = none → c6 = 0 from fun h => by
                               subst h
                               rcases hown6.2 with ⟨_, h2⟩ | ⟨g, cap, cur, h1, _⟩
                               · omega
                               · cases h1)
                             have HB6v := Lib.hid (show Below V1.heap.size V1 w6 from (ext_trans HW.out (ext_drewN _ 1)).grown hg6 (by show V1.heap.size ≤ (V1.alloc _).heap.size; rw [World.size_alloc]; omega) (fun g hg => by have h : some (K1 + 1) = some g := hg; simp only [Option.some.injEq] at h; omega))
                             clear hown6 hg6 hc6 hc7)
                          | (refine step_append_lies _ (by rfl) _ _ _ (by rfl) (B0 + 1) 91 i3 _ 2 40 Tryd.underlying29 HI3.out.1 HI3.out.2.1 HI3.out.2.2.1 HI3.out.2.2.2 rfl (by omega) v5 m4.length (m4.flatMap rwmCells) (by rfl) (own_ext HO6.out (ext_trans HBV.out (ext_trans HB6v.out (ext_alloc w6 _)))) ⟨w6.heap.size, 0, none⟩ 1 1 [.slice A6 (1 + rcs.length) c6, .string ⟨ro.toArray⟩] (by rfl) (by rfl) (World.news_of_block (cs := #[.slice A6 (1 + rcs.length) c6, .string ⟨ro.toArray⟩]) (t := 91) (fr := (0, 0)) (heap_alloc_new w6 _)) (by simp [Value.oneCell']) (by omega) (by simp only [maxLen]; omega) (by omega) (by have := HBV.out.size; have := HB6v.out.size; rw [World.size_alloc]; omega) (w6.heap.size + 1) (by simp) ?_
                             intro gg cap w7 hown7 hg7 hat7 hlt7
                             have HO7 := Lib.hid hown7
                             have HG7 := Lib.hid hg7
                             have HA7 := Lib.hid hat7
                             have HR7 := Lib.hid (show w7.cell? ⟨K1, 0, none⟩ = some (.slice rA rcs.length rcc) ∧ w7.cell? ⟨K1, 1, none⟩ = some (.string ⟨ro.toArray⟩) from by
                               have h1 := HB6v.out.size
                               refine ⟨?_, ?_⟩
                               · rw [hg7.cell_far _ (by rw [World.size_alloc]; show K1 < _; omega) (Ne.symm HAg.out)]
                                 exact cell_ext (ext_trans HB6v.out (ext_alloc _ _)) r0
                               · rw [hg7.cell_far _ (by rw [World.size_alloc]; show K1 < _; omega) (Ne.symm HAg.out)]
                                 exact cell_ext (ext_trans HB6v.out (ext_alloc _ _)) r1)
                             clear hown7 hg7 hat7 hlt7)))
                      have HKn := Lib.hid (show Kp (fun T => T = 91) w6 w7 from (Kp.of _ (ext_alloc w6 _)).trans (Kp.grown (own_ext HO6.out (ext_trans HBV.out (ext_trans HB6v.out (ext_alloc w6 _)))) HG7.out rfl))
                      have HKm := Lib.hid (show Kp (fun T => T = 91) wr w7 from ((Kp.of _ (ext_trans HBV.out HB6v.out)).trans HKn.out))
                      have HBn := Lib.hid (show Below (B0 + 1) w5 w7 from ((HB6.out.trans ((ext_trans HBV.out HB6v.out).mono (by omega))).alloc (by have := HBV.out.size; have := HB6v.out.size; omega) _).grown HG7.out (by have := HBV.out.size; have := HB6v.out.size; rw [World.size_alloc]; omega) (fun g hg => (HO6.out.lt g hg).1))
                      have HOr := Lib.hid (show w7.ownsRow w4.heap.size 91 2 (.slice (some ⟨b3, o3, none⟩) m3.length c3) m3.length (m3.flatMap rwmCells) from (own_ext HOn.out (ext_trans HBV.out (ext_trans HB6v.out (ext_alloc w6 _)))).kept HG7.out (.inr (fun e => HNe6.out b3 e.symm rfl)))
                      have HNn := Lib.hid (show ∀ g, (Value.slice (some ⟨gg, 0, none⟩) (m4.length + 1) cap).ownBlock = some g → (Value.slice (some ⟨b3, o3, none⟩) m3.length c3).ownBlock ≠ some g from fun g hg h3 => by
                        have e1 : some gg = some g := hg
                        have e2 : some b3 = some g := h3
                        simp only [Option.some.injEq] at e1 e2
                        rcases HA7.out with h | h
                        · exact HNe6.out gg h (by show some b3 = _; rw [e1, e2])
                        · have h1 := (HOn.out.lt b3 rfl).2
                          have := HBV.out.size
                          have := HB6v.out.size
                          omega)
                      have HRw := Lib.hid (show RoN w7 ⟨⟨cellP f n x, A4, c4⟩ :: rcs, A6, c6, ro⟩ from ⟨⟨by
                        have h := RdK.of_own HO6n.out
                        have h2 := HKn.out.rdk h (by decide)
                        show RdK w7 46 A6 (cellV ⟨cellP f n x, A4, c4⟩ :: rcs.map cellV)
                        rw [← HCN.out]
                        exact h2, fun y hy => by
                          rcases List.mem_cons.1 hy with rfl | hy
                          · exact HC5.out.kp (HK6.out.trans HKm.out) (by decide)
                          · exact (HRj.out.1.cells y hy).kp HKm.out (by decide)⟩, HA6.out⟩)
                      have HR8 := Lib.hid (show ∀ r ∈ m4 ++ [(⟨⟨cellP f n x, A4, c4⟩ :: rcs, A6, c6, ro⟩ : RwM)], RoN w7 r from fun r hr => by
                        rcases List.mem_append.1 hr with hr | hr
                        · exact (HR6.out r hr).kp HKm.out (by decide) (by decide)
                        · rw [List.mem_singleton] at hr
                          subst hr
                          exact HRw.out)
                      have HO8 := Lib.hid (show w7.ownsRow (B0 + 1) 91 2 (.slice (some ⟨gg, 0, none⟩) (m4.length + 1) cap) (m4 ++ [(⟨⟨cellP f n x, A4, c4⟩ :: rcs, A6, c6, ro⟩ : RwM)]).length ((m4 ++ [(⟨⟨cellP f n x, A4, c4⟩ :: rcs, A6, c6, ro⟩ : RwM)]).flatMap rwmCells) from by
                        have h := HO7.out
                        rw [List.length_append, List.flatMap_append]
                        have e : [(⟨⟨cellP f n x, A4, c4⟩ :: rcs, A6, c6, ro⟩ : RwM)].flatMap rwmCells = [.slice A6 (1 + rcs.length) c6, .string ⟨ro.toArray⟩] := by
                          simp [rwmCells, Nat.add_comm]
                        rw [e]
                        exact h)
                      have HM8 := Lib.hid (show (m4 ++ [(⟨⟨cellP f n x, A4, c4⟩ :: rcs, A6, c6, ro⟩ : RwM)]).map RwM.rw = m2.map RwM.rw ++ ((m3.take (j + 1)).map RwM.rw).map (onP f n x) from by
                        rw [HTk.out, List.map_append, HM4.out, List.map_append, List.map_append, List.append_assoc]
                        rfl)
                      clear HO7 HA7 HR7 HRw HKn HA6 HO6n HG7 HB6v HOb HRr HW r0 r1 HBk HAg
                      by_cases hfl : m4.length = 60
                      · have hfc : (60 : Int) < ((m4.length + 1 : Nat) : Int) := by omega
                        have hfd : (60 : Int) < (m4.length : Int) + 1 := by omega
                        have HTk9 := Lib.hid (show (m4 ++ [(⟨⟨cellP f n x, A4, c4⟩ :: rcs, A6, c6, ro⟩ : RwM)]).map RwM.rw = (fullP lf fo nsr q l n n).take 61 from by
                          have h := HM8.out
                          rw [List.map_take] at h
                          rw [h]
                          refine full_stop ?_ HM3.out (by rw [← h, List.length_map, List.length_append, hfl]; rfl)
                          rw [HM2.out, ← HE1.out]
                          exact fullP_pre lf fo nsr q l n (by omega))
                        go_wp2_with fail
                        go_ret
                        refine ⟨_, cap, m4 ++ [(⟨⟨cellP f n x, A4, c4⟩ :: rcs, A6, c6, ro⟩ : RwM)], by rw [List.length_append]; rfl, HTk9.out, ?_, HR8.out, (show Below w.heap.size w w7 from HBx5.out.trans (HBn.out.mono (by rw [HB0.out]; omega)))⟩
                        have h := own_lower HO8.out (show w.heap.size ≤ B0 + 1 by rw [HB0.out]; omega)
                        rw [List.length_append] at h ⊢
                        exact h
                      · have hfc : ¬ (60 : Int) < ((m4.length + 1 : Nat) : Int) := by omega
                        have hfd : ¬ (60 : Int) < (m4.length : Int) + 1 := by omega
                        go_wp2_with fail
                        go_roundw
                        case rel => exact ⟨j + 1, _, m4 ++ [(⟨⟨cellP f n x, A4, c4⟩ :: rcs, A6, c6, ro⟩ : RwM)], rfl, by go_num, by omega, by rw [List.length_append]; simp; omega, HM8.out, HO8.out, HR8.out, HOr.out, HNn.out, HK6.out.trans HKm.out, HBn.out⟩
                        case measure => simp [intOf]; omega
                    · obtain rfl : m3.length = j := by omega
                      have hcj : ¬ (m3.length : Int) < m3.length := by omega
                      have HM9 := Lib.hid (show m4.map RwM.rw = fullP lf fo nsr q l n (i + 1) by
                        have h := HM4.out
                        rw [List.take_length] at h
                        rw [h, HE1.out, ← HM2.out]
                        exact full_go HM3.out (by rw [← h, List.length_map]; exact hm4))
                      go_wp2_with fail
                      go_roundw
                      case rel => exact ⟨i + 1, kk + 1, v5, m4, rfl, by go_num, by omega, by omega, hm4, HM9.out, HO6.out, HR6.out, HS5.out.keep (Nat.lt_succ_self _) HB6.out, (show Below B0 W1 wr from HB05.out.trans (HB6.out.mono (by omega)))⟩
                      case measure => simp [intOf]; omega
        · obtain rfl : n = i := by omega
          have hcl : ¬ (n : Int) < n := by omega
          obtain ⟨VA, vc, rfl, _, _⟩ := own_slice HOw.out
          have HTk := Lib.hid (show (fullP lf fo nsr q l n n).take 61 = m2.map RwM.rw by
            rw [← HM2.out, List.take_of_length_le (by rw [List.length_map]; omega)])
          go_wp2_with fail
          go_ret
          exact ⟨VA, vc, m2, rfl, HTk.out.symm, own_lower HOw.out (by rw [HB0.out]; omega), HRo.out, HBx.out⟩
end Go.Proofs.YtjfiodknjchngaaDoor.Gp

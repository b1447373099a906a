/- Gaps: the document's list of all cases. -/
import Derived.Test.YtjfiodknjchngaaDoorGpE
namespace Go.Proofs.YtjfiodknjchngaaDoor.Gp
open Go.RowKit Mem Nest Fk App

structure LM where
  l : List Int
  A : Option Addr
  c : Nat
def lmV (x : LM) : Value := .slice x.A x.l.length x.c
structure LRows (w : World) (A : Option Addr) (xs : List LM) : Prop where
  row : Rd w A (xs.map lmV)
  ints : ∀ x ∈ xs, Rd w x.A (ints x.l)
  isnil : ∀ x ∈ xs, x.A = none → x.c = 0
theorem LRows.ext {w w' : World} {A : Option Addr} {xs : List LM} (h : LRows w A xs) (hb : Below w.heap.size w w') : LRows w' A xs :=
  ⟨h.row.ext hb, fun x hx => (h.ints x hx).ext hb, h.isnil⟩
theorem LRows.at {w : World} {A : Option Addr} {xs : List LM} (h : LRows w A xs) {k : Nat} (hk : k < xs.length) :
    ∃ b o, A = some ⟨b, o, none⟩ ∧ w.cell? ⟨b, o + k, none⟩ = some (.slice xs[k].A xs[k].l.length xs[k].c) := h.row k _ (by simp [hk, lmV])
theorem int_infoF : (Tryd.prog.info? 3).map (fun i => (i.zero, i.size, i.bytes)) = some (some (.int .i64 0), 1, 8) := by kernel_rfl
theorem ints_infoF : (Tryd.prog.info? 46).map (fun i => (i.zero, i.size, i.bytes)) = some (some (.slice none 0 0), 1, 24) := by kernel_rfl
theorem ints_oneF (zs : List Int) : ∀ u ∈ ints zs, u.oneCell' = true := fun u hu => by
  simp only [ints, List.mem_map] at hu
  obtain ⟨_, _, rfl⟩ := hu
  rfl
/-- rows that are built: owned, their integers in blocks of another kind -/
structure Bld (w : World) (base : Nat) (v : Value) (ns : List LM) : Prop where
  own : w.ownsRow base 46 1 v ns.length (ns.map lmV)
  ints : ∀ x ∈ ns, RdK w 3 x.A (ints x.l)
  isnil : ∀ x ∈ ns, x.A = none → x.c = 0
theorem Bld.nil (w : World) (base : Nat) : Bld w base (.slice none 0 0) [] := ⟨World.ownsRow_nil _ _ _ _, (fun x hx => by cases hx), (fun x hx => by cases hx)⟩
theorem Bld.ext {w w' : World} {base : Nat} {v : Value} {ns : List LM} (h : Bld w base v ns) (hb : Below w.heap.size w w') : Bld w' base v ns :=
  ⟨own_ext h.own hb, fun x hx => (h.ints x hx).ext hb, h.isnil⟩
/-- one row more -/
theorem Bld.put {w w1 : World} {base : Nat} {v v1 : Value} {ns : List LM} {x : LM} (h : Bld w base v ns) (hx : RdK w 3 x.A (Mem.ints x.l)) (hn : x.A = none → x.c = 0)
    (ho : w1.ownsRow base 46 1 v1 (ns.length + 1) (ns.map lmV ++ [lmV x])) (hg : w.grownBy w1 v.ownBlock) : Bld w1 base v1 (ns ++ [x]) := by
  have hk := Lib.ownsRow_kind h.own
  refine ⟨?_, fun y hy => ?_, fun y hy => ?_⟩
  · rw [List.length_append, List.map_append]
    exact ho
  · rcases List.mem_append.1 hy with hy | hy
    · exact (h.ints y hy).grown hg hk (by decide)
    · rw [List.mem_singleton] at hy
      subst hy
      exact hx.grown hg hk (by decide)
  · rcases List.mem_append.1 hy with hy | hy
    · exact h.isnil y hy
    · rw [List.mem_singleton] at hy
      subst hy
      exact hn
theorem Bld.rows {w : World} {base : Nat} {A : Option Addr} {n c : Nat} {ns : List LM} (h : Bld w base (.slice A n c) ns) (hn : n = ns.length) : LRows w A ns := by
  subst hn
  exact ⟨Rd.of_own h.own, fun x hx => (h.ints x hx).rd, h.isnil⟩
/-- what CasesOf tells -/
def CasesPost (l : List (List Int)) (w : World) (e : Ending) (w' : World) : Prop := ∃ (A : Option Addr) (c : Nat) (xs : List LM), e = .returned (.slice A xs.length c) ∧ xs.map LM.l = l ∧ LRows w' A xs ∧ Below w.heap.size w w'
theorem nextF_one (most n : Nat) (acc : List (List Int)) (c : List Int) (cs : List (List Int)) (h : acc.length ≤ most) : nextF most n acc (c :: cs) = nextF most n (acc ++ (List.range n).map fun a : Nat => c ++ [(a : Int)]) cs := by
  rw [nextF, if_pos h]
theorem nextF_stop (most n : Nat) (acc : List (List Int)) (cs : List (List Int)) (h : most < acc.length) : nextF most n acc cs = acc := by
  cases cs with
  | nil => rfl
  | cons c cs => rw [nextF, if_neg (by omega)]
set_option maxRecDepth 20000 in
set_option maxHeartbeats 8000000 in
theorem casesof_any (rv : Value) (qms : List QnM) (A : Option Addr) (c : Nat) (most : Nat) (hmo : most ≤ 1000) (hq : qms.length ≤ 1000) (ha : ∀ q ∈ qms, q.ans.length ≤ 1000) (w : World) (h : QsP w A qms) :
    Calls Tryd.prog 11 #[.agg #[.slice A qms.length c, rv], .int .i64 most] w (CasesPost (casesF most (qms.map fun q => q.ans.length)) w) := by
  have hbk := Blk.new w 25 [.slice A qms.length c, rv]
  have hx := ext_alloc w (.cells (List.toArray [.slice A qms.length c, rv]) 25)
  obtain ⟨W, hW⟩ : ∃ W, W = w.alloc (.cells (List.toArray [.slice A qms.length c, rv]) 25) := ⟨_, rfl⟩
  rw [← hW] at hx hbk
  have HX := Lib.hid hx
  have HQ := Lib.hid (h.ext hx)
  have HW := Lib.hid hW
  have HAn := Lib.hid ha
  have r0 := hbk.cell 0 rfl
  obtain ⟨i0, hi, hz0, hz1, hz2⟩ := info_parts int_infoF
  have HI := Lib.hid hi
  have HI0 := Lib.hid hz0
  have HI1 := Lib.hid hz1
  have HI2 := Lib.hid hz2
  clear hi hz0 hz1 hz2
  obtain ⟨j0, hi, hz0, hz1, hz2⟩ := info_parts ints_infoF
  have HJ := Lib.hid hi
  have HJ0 := Lib.hid hz0
  have HJ1 := Lib.hid hz1
  have HJ2 := Lib.hid hz2
  clear hbk hx hW h ha hi hz0 hz1 hz2
  go_enter Tryd.func11, Tryd.ntmps11
  go_upto_region 1 with fail
  rw [show w.alloc (.cells #[.slice A qms.length c, rv] 25) = W from HW.out.symm]
  clear HW
  have HL0 := Lib.hid (show LRows ((W.alloc (.cells #[] 3)).alloc (.cells (List.toArray [.slice (some ⟨W.heap.size, 0, none⟩) 0 0]) 46)) (some ⟨W.heap.size + 1, 0, none⟩) [⟨[], some ⟨W.heap.size, 0, none⟩, 0⟩] from by
    have hb := Blk.new (W.alloc (.cells #[] 3)) 46 [.slice (some ⟨W.heap.size, 0, none⟩) 0 0]
    rw [World.size_alloc] at hb
    refine ⟨fun j u hj => ?_, fun x hx => ?_, fun x hx => ?_⟩
    · refine ⟨W.heap.size + 1, 0, rfl, ?_⟩
      rw [Nat.zero_add]
      exact hb.cell j hj
    · rw [List.mem_singleton] at hx
      subst hx
      intro j u hj
      simp [ints] at hj
    · rw [List.mem_singleton] at hx
      subst hx
      intro h
      cases h)
  have HBl := Lib.hid (ext_trans (ext_alloc W (.cells #[] 3)) (ext_alloc (W.alloc (.cells #[] 3)) (.cells (List.toArray [.slice (some ⟨W.heap.size, 0, none⟩) 0 0]) 46)))
  go_wp2_with fail
  go_loopw [5, 6] (fun t5 t6 wr => ∃ (i : Nat) (B : Option Addr) (bc : Nat) (xs : List LM), t5 = .slice B xs.length bc ∧ t6 = .int .i64 i ∧ i ≤ qms.length ∧ Hid (xs.map LM.l = casesF most ((qms.take i).map fun q => q.ans.length)) ∧ Hid (LRows wr B xs) ∧ xs.length ≤ 2000 ∧ Hid (∀ x ∈ xs, x.l.length = i) ∧ Hid (Below W.heap.size W wr)) (fun _ t6 _ => qms.length - (intOf t6).toNat)
  case atStart => exact ⟨0, _, _, _, rfl, rfl, by omega, (show List.map LM.l [LM.mk [] (some ⟨W.heap.size, 0, none⟩) 0] = casesF most ((qms.take 0).map fun q => q.ans.length) from rfl), HL0.out, by simp, (show ∀ x ∈ [LM.mk [] (some ⟨W.heap.size, 0, none⟩) 0], x.l.length = 0 from fun x hx => by rw [List.mem_singleton] at hx; subst hx; rfl), HBl.out⟩
  case round =>
    obtain ⟨i, B, bc, xs, rfl, rfl, hi, HXs, HLs, hx2, HLe, HB⟩ := hrel
    have k0 := cell_ext HB.out r0
    by_cases hlt : i < qms.length
    · have hcl : (i : Int) < qms.length := by omega
      obtain ⟨qb, qo, hQ, z0, z1⟩ := (HQ.out.ext HB.out).row hlt
      subst hQ
      have hn1 := HAn.out _ (List.getElem_mem hlt)
      have HSt := Lib.hid (show casesF most ((qms.take (i + 1)).map fun q => q.ans.length) = nextF most qms[i].ans.length [] (xs.map LM.l) by
        rw [List.take_succ_eq_append_getElem hlt, List.map_append, casesF, List.foldl_append, HXs.out]
        rfl)
      generalize qms[i] = Q at *
      obtain ⟨qn, qa, qA, qc⟩ := Q
      simp only at z1 hn1 HSt
      obtain ⟨m, hm⟩ : ∃ m, m = qa.length := ⟨_, rfl⟩
      rw [← hm] at z1 hn1 HSt
      clear hm z0
      obtain ⟨w0, hw0⟩ : ∃ w0, w0 = wr := ⟨_, rfl⟩
      rw [← hw0] at HLs HB k0 z1 ⊢
      clear hw0 wr
      go_wp2_with fail
      go_loopw [7, 8] (fun t7 t8 wr => ∃ (k : Nat) (ns : List LM) (v : Value), t7 = v ∧ t8 = .int .i64 k ∧ k ≤ xs.length ∧ Hid (Below w0.heap.size w0 wr) ∧ Hid (Bld wr w0.heap.size v ns) ∧ Hid (nextF most m (ns.map LM.l) ((xs.map LM.l).drop k) = nextF most m [] (xs.map LM.l)) ∧ ns.length ≤ 2000 ∧ Hid (∀ x ∈ ns, x.l.length = i + 1)) (fun _ t8 _ => xs.length - (intOf t8).toNat)
      case atStart => exact ⟨0, [], _, rfl, rfl, by omega, Below.refl _ _, Bld.nil _ _, rfl, by simp, fun x hx => by cases hx⟩
      case round =>
        obtain ⟨k, ns, v, rfl, rfl, hk, HB2, HBd, HNx, hns, HLn⟩ := hrel
        have K0 := Lib.hid k0
        have Z1 := Lib.hid z1
        have k0 := cell_ext HB2.out k0
        have z1 := cell_ext HB2.out z1
        obtain ⟨Av, cv, rfl, hcv, _⟩ := own_slice HBd.out.own
        by_cases hlk : k < xs.length
        · have hck : (k : Int) < xs.length := by omega
          by_cases hmo2 : ns.length ≤ most
          · have hcm : (ns.length : Int) ≤ most := by omega
            have hkl : k < (xs.map LM.l).length := by simpa using hlk
            have HNx2 := Lib.hid (show nextF most m (ns.map LM.l ++ (List.range m).map fun a : Nat => xs[k].l ++ [(a : Int)]) ((xs.map LM.l).drop (k + 1)) = nextF most m [] (xs.map LM.l) by
              rw [← HNx.out, List.drop_eq_getElem_cons hkl, nextF_one _ _ _ _ _ (by simpa using hmo2)]
              simp)
            obtain ⟨xb, xo, hxB, x00⟩ := HLs.out.at hlk
            subst hxB
            have X0 := Lib.hid x00
            have hxl := HLe.out _ (List.getElem_mem hlk)
            have HXi := Lib.hid (HLs.out.ints _ (List.getElem_mem hlk))
            have HXn := Lib.hid (HLs.out.isnil _ (List.getElem_mem hlk))
            generalize xs[k] = X at *
            obtain ⟨xl, xA, xc⟩ := X
            simp only at X0 hxl HNx2 HXi HXn
            have hxl2 : xl.length ≤ 1000 := by omega
            have HXl := Lib.hid hxl
            clear hxl hkl x00
            obtain ⟨wk, hwk⟩ : ∃ wk, wk = wr := ⟨_, rfl⟩
            rw [← hwk] at HB2 HBd ⊢
            clear hwk z1 k0
            go_wp2_with fail
            go_loopw [7, 9] (fun t7 t9 wr => ∃ (a : Nat) (ns2 : List LM) (v2 : Value), t7 = v2 ∧ t9 = .int .i64 a ∧ a ≤ m ∧ Hid (Below w0.heap.size w0 wr) ∧ Hid (Bld wr w0.heap.size v2 ns2) ∧ Hid (ns2.map LM.l = ns.map LM.l ++ (List.range a).map fun a : Nat => xl ++ [(a : Int)]) ∧ Hid (ns2.length = ns.length + a) ∧ Hid (∀ x ∈ ns2, x.l.length = i + 1)) (fun _ t9 _ => m - (intOf t9).toNat)
            case atStart => exact ⟨0, ns, _, rfl, rfl, by omega, HB2.out, HBd.out, (show ns.map LM.l = ns.map LM.l ++ (List.range 0).map fun a : Nat => xl ++ [(a : Int)] by simp), (show ns.length = ns.length + 0 from rfl), HLn.out⟩
            case round =>
              obtain ⟨a, ns2, v2, rfl, rfl, ha, HB4, HBd2, HNx3, HNs2, HLn2⟩ := hrel
              have hns3 : ns2.length ≤ 3000 := by have := HNs2.out; omega
              obtain ⟨A2, c2, rfl, hcv2, _⟩ := own_slice HBd2.out.own
              have k0 := cell_ext HB4.out K0.out
              have z1 := cell_ext HB4.out Z1.out
              by_cases hla : a < m
              · have hca : (a : Int) < m := by omega
                have hm1000 : m ≤ 1000 := hn1
                have x0 := cell_ext HB4.out X0.out
                have HXi3 := Lib.hid (HXi.out.ext HB4.out)
                go_wp2_with (first | (at_builtin; refine wpList_append_rd _ rfl _ _ _ rfl wr.heap.size 3 i0 _ 1 8 Tryd.underlying46 HI.out HI0.out HI1.out HI2.out rfl (by omega) (.slice none 0 0) 0 [] rfl (World.ownsRow_nil _ _ _ _) xA xl.length xc (ints xl) rfl HXn.out (by simp [ints]) HXi3.out (ints_oneF xl) (by unfold maxLen; omega) (by omega) (by omega) ?_; intro v1 w1 hown1 hg1; have HO1 := Lib.hid hown1; have HG1 := Lib.hid (show Below wr.heap.size wr w1 from (Below.refl _ wr).grown hg1 (Nat.le_refl _) (fun g hg => by cases hg)); clear hown1 hg1) | (at_builtin; refine wpList_append_own _ rfl _ _ _ rfl wr.heap.size 3 i0 _ 1 8 Tryd.underlying46 HI.out HI0.out HI1.out HI2.out rfl (by omega) v1 (0 + xl.length) ([] ++ ints xl) rfl (World.ownsRow.alloc HO1.out (.cells (List.toArray [.int .i64 (a : Int)]) 3)) ⟨w1.heap.size, 0, none⟩ 1 1 [.int .i64 (a : Int)] rfl rfl (new_cells w1 [.int .i64 (a : Int)] _ _ rfl) (by intro u hu; simp only [List.mem_cons, List.not_mem_nil, or_false] at hu; rcases hu with rfl; rfl) (by unfold maxLen; omega) (by omega) (by have := HG1.out.size; simp; omega) ?_; intro v3 w3 hown3 hg3 _; obtain ⟨A3, c3, hv3, hc3, _⟩ := own_slice hown3; subst hv3; have HO3 := Lib.hid hown3; have HG3 := Lib.hid (show Below wr.heap.size wr w3 from ((HG1.out.alloc HG1.out.size (.cells (List.toArray [.int .i64 (a : Int)]) 3)).grown hg3 (by have := HG1.out.size; simp; omega) (fun g hg => (HO1.out.lt g hg).1))); have HN3 := Lib.hid hc3; clear hown3 hg3 hc3) | (at_builtin; refine wpList_append_own _ rfl _ _ _ rfl w0.heap.size 46 j0 _ 1 24 Tryd.underlying39 HJ.out HJ0.out HJ1.out HJ2.out rfl (by omega) (.slice A2 ns2.length c2) ns2.length (ns2.map lmV) rfl (own_ext (own_ext HBd2.out.own HG3.out) (ext_alloc w3 _)) ⟨w3.heap.size, 0, none⟩ 1 1 [.slice A3 (xl.length + 1) c3] rfl rfl (new_cells w3 [.slice A3 (xl.length + 1) c3] _ _ rfl) (by intro u hu; simp only [List.mem_cons, List.not_mem_nil, or_false] at hu; rcases hu with rfl; rfl) (by unfold maxLen; omega) (by omega) (by have := HG3.out.size; have := HB4.out.size; simp; omega) ?_; intro v5 w5 hown5 hg5 _; have HO5 := Lib.hid hown5; have HG5 := Lib.hid hg5; clear hown5 hg5))
                go_roundw
                case rel =>
                  have HB7 : Below w0.heap.size w0 w5 := ((HB4.out.trans (HG3.out.mono HB4.out.size)).alloc (Nat.le_trans HB4.out.size HG3.out.size) _).grown HG5.out (by have := HG3.out.size; have := HB4.out.size; simp; omega) (fun g hg => (HBd2.out.own.lt g hg).1)
                  have ho := HO3.out
                  rw [Nat.zero_add] at ho
                  have hrd : RdK (w3.alloc (.cells (List.toArray [.slice A3 (xl.length + 1) c3]) 46)) 3 A3 (ints (xl ++ [(a : Int)])) := by
                    have h1 := (RdK.of_own ho).ext (ext_alloc w3 (.cells (List.toArray [.slice A3 (xl.length + 1) c3]) 46))
                    simpa [ints] using h1
                  have hpu := (HBd2.out.ext (HG3.out)).ext (ext_alloc w3 (.cells (List.toArray [.slice A3 (xl.length + 1) c3]) 46))
                  have hb := hpu.put (x := ⟨xl ++ [(a : Int)], A3, c3⟩) hrd (fun h => by
                    subst h
                    rcases HO3.out.2 with ⟨h1, h2⟩ | ⟨g, cap, cur, h1, _⟩
                    · omega
                    · cases h1) (by
                      have h1 := HO5.out
                      have e : lmV ⟨xl ++ [(a : Int)], A3, c3⟩ = .slice A3 (xl.length + 1) c3 := by simp [lmV]
                      rw [e]
                      exact h1) HG5.out
                  refine ⟨a + 1, _, _, rfl, by go_num, by omega, HB7, hb, ?_, (show (ns2 ++ [LM.mk (xl ++ [(a : Int)]) A3 c3]).length = ns.length + (a + 1) by rw [List.length_append, HNs2.out]; rfl), ?_⟩
                  · show List.map _ _ = _
                    rw [List.map_append, HNx3.out, List.range_succ, List.map_append, List.append_assoc]
                    rfl
                  · show ∀ x ∈ _, _
                    intro x hx
                    rcases List.mem_append.1 hx with hx | hx
                    · exact HLn2.out x hx
                    · rw [List.mem_singleton] at hx
                      subst hx
                      show (xl ++ [(a : Int)]).length = _
                      rw [List.length_append, HXl.out]
                      rfl
                case measure => simp [intOf]; omega
              · obtain rfl : m = a := by omega
                go_wp2_with fail
                go_roundw
                case rel => exact ⟨k + 1, ns2, _, rfl, by go_num, by omega, HB4.out, HBd2.out, (show nextF most m (ns2.map LM.l) ((xs.map LM.l).drop (k + 1)) = nextF most m [] (xs.map LM.l) by rw [HNx3.out, HNx2.out]), by have := HNs2.out; omega, HLn2.out⟩
                case measure => simp [intOf]; omega
          · have hcm : ¬ (ns.length : Int) ≤ most := by omega
            have HEx := Lib.hid (nextF_stop most m (ns.map LM.l) ((xs.map LM.l).drop k) (by simp; omega))
            go_wp2_with fail
            go_roundw
            case rel => exact ⟨i + 1, Av, cv, ns, rfl, by go_num, by omega, (show ns.map LM.l = casesF most ((qms.take (i + 1)).map fun q => q.ans.length) by rw [HSt.out, ← HNx.out, HEx.out]), HBd.out.rows rfl, by omega, HLn.out, ext_trans HB.out HB2.out⟩
            case measure => simp [intOf]; omega
        · obtain rfl : xs.length = k := by omega
          have HEx := Lib.hid (show nextF most m (ns.map LM.l) ((xs.map LM.l).drop xs.length) = ns.map LM.l by rw [List.drop_of_length_le (by simp)]; rfl)
          go_wp2_with fail
          go_roundw
          case rel => exact ⟨i + 1, Av, cv, ns, rfl, by go_num, by omega, (show ns.map LM.l = casesF most ((qms.take (i + 1)).map fun q => q.ans.length) by rw [HSt.out, ← HNx.out, HEx.out]), HBd.out.rows rfl, by omega, HLn.out, ext_trans HB.out HB2.out⟩
          case measure => simp [intOf]; omega
    · obtain rfl : qms.length = i := by omega
      go_wp2_with fail
      go_ret
      refine ⟨B, bc, xs, rfl, ?_, HLs.out, ext_trans HX.out HB.out⟩
      have := HXs.out
      rwa [List.take_length] at this
end Go.Proofs.YtjfiodknjchngaaDoor.Gp

/- The claims as the statement hands them on: fewClaims, claims. -/
import Derived.Test.YtjnkcpeicocjhaaDoorNest
import Derived.Test.YtjnkcpeicocjhaaDoorDay
import Derived.Deep.Quiet
import Derived.Deep.QuietTactic
import Derived.BigQuiet
import Derived.IntWalk
namespace Go.Proofs.YtjnkcpeicocjhaaDoor.Claims
open Go.RowKit Mem Pays Nest

/-- what fewClaims says -/
def FewPost (rs : List Cl) (w : World) (e : Ending) (w' : World) : Prop := ∃ b : Bool, e = .returned (.bool b) ∧ (b = true → rs.length ≤ 402) ∧ w = w'
theorem few_any (A : Option Addr) (c : Nat) (rs : List Cl) (w : World) (hr : Cls w A rs) (hc : rs.length ≤ c) (hcm : c ≤ maxLen) :
    Calls Tryd.prog 13 #[.slice A rs.length c] w (FewPost rs w) := by
  have HR := Lib.hid hr
  have hm : rs.length ≤ 9223372036854775807 := by unfold maxLen at hcm; omega
  clear hr hc hcm
  go_enter Tryd.func13, Tryd.ntmps13
  go_wp2_with fail
  go_loopw [3, 4] (fun n i wr => ∃ (j : Nat) (z : Int), wr = w ∧ j ≤ rs.length ∧ i = .int .i64 j ∧ n = .int .i64 z) (fun _ i _ => (rs.length - intOf i).toNat)
  case atStart => exact ⟨0, 0, rfl, by omega, rfl, rfl⟩
  case round =>
    obtain ⟨j, z, rfl, hj, rfl, rfl⟩ := hrel
    by_cases hlt : j < rs.length
    · obtain ⟨b, o, rfl, r0, r1⟩ := HR.out.row hlt
      have hcl : (j : Int) < rs.length := by omega
      go_wp2_with fail
      go_roundw
      case rel => exact ⟨j + 1, _, trivial, by omega, by simp, rfl⟩
      case measure => simp [intOf]; omega
    · have hcl : ¬ (j : Int) < rs.length := by omega
      by_cases h4 : rs.length ≤ 402
      · have h4' : (rs.length : Int) ≤ 402 := by omega
        go_wp2_with fail
        go_ret
        exact ⟨_, rfl, fun _ => h4, rfl⟩
      · have h4' : ¬ (rs.length : Int) ≤ 402 := by omega
        go_wp2_with fail
        go_ret
        exact ⟨_, rfl, fun h => by simp at h, rfl⟩
theorem pay_info : (Tryd.prog.info? 110).map (fun i => (i.zero, i.size, i.bytes)) = some (some (.agg #[.int .i64 0, .int .i64 0, .int .i64 0]), 3, 24) := by kernel_rfl
theorem claim_info : (Tryd.prog.info? 113).map (fun i => (i.zero, i.size, i.bytes)) = some (some (.agg #[.int .i64 0, .slice none 0 0]), 2, 32) := by kernel_rfl
/-- what claims hands on -/
def ClaimsPost (rs : List Cl) (w : World) (e : Ending) (w' : World) : Prop := ∃ (A' : Option Addr) (c' : Nat) (rs' : List Cl), e = .returned (.slice A' rs'.length c') ∧ rs'.map Cl.key = rs.map Cl.key ∧ Cls w' A' rs' ∧ rs'.length ≤ c' ∧ c' ≤ maxLen ∧ Below w.heap.size w w'
set_option maxRecDepth 100000 in
set_option maxHeartbeats 2000000 in
theorem claims_any (A : Option Addr) (c : Nat) (rs : List Cl) (w : World) (hr : Cls w A rs) (hn : rs.length ≤ 1048576) (hd : ∀ r ∈ rs, r.dues.length ≤ 1048576) :
    Calls Tryd.prog 15 #[.slice A rs.length c] w (ClaimsPost rs w) := by
  have HR := Lib.hid hr
  have HDL := Lib.hid hd
  obtain ⟨i0, hi, hz0, hz1, hz2⟩ := info_parts pay_info
  have HI := Lib.hid hi
  have HZ0 := Lib.hid hz0
  have HZ1 := Lib.hid hz1
  have HZ2 := Lib.hid hz2
  obtain ⟨j0, hi, hz0, hz1, hz2⟩ := info_parts claim_info
  have HJ := Lib.hid hi
  have HY0 := Lib.hid hz0
  have HY1 := Lib.hid hz1
  have HY2 := Lib.hid hz2
  clear hr hd hi hz0 hz1 hz2
  go_enter Tryd.func15, Tryd.ntmps15
  go_wp2_with fail
  go_loopw [3, 4] (fun out i wr => Hid (Below w.heap.size w wr) ∧ ∃ (j : Nat) (rs' : List Cl), i = .int .i64 j ∧ j ≤ rs.length ∧ Hid (rs'.map Cl.key = (rs.take j).map Cl.key) ∧ Hid (wr.ownsRow w.heap.size 113 2 out j (rs'.flatMap clCells)) ∧ Hid (∀ r ∈ rs', RdK wr 110 r.A (r.dues.flatMap payCells) ∧ r.dues.length ≤ r.c ∧ r.c ≤ maxLen)) (fun _ i _ => (rs.length - intOf i).toNat)
  case atStart => exact ⟨Below.refl _ _, 0, [], rfl, by omega, rfl, World.ownsRow_nil _ _ _ _, fun r hr => by cases hr⟩
  case round =>
    obtain ⟨HB, j, rs', rfl, hj, HK, HO, HD⟩ := hrel
    by_cases hlt : j < rs.length
    · have HR2 := Lib.hid (HR.out.ext HB.out)
      obtain ⟨b, o, rfl, r0, r1⟩ := HR2.out.row hlt
      have hcl : (j : Int) < rs.length := by omega
      have HDU := Lib.hid (HR2.out.dues _ (List.getElem_mem hlt))
      have hm2 : rs[j].dues.length ≤ 1048576 := HDL.out _ (List.getElem_mem hlt)
      go_wp2_with fail
      obtain ⟨w0, hw0⟩ : ∃ w0, w0 = wr := ⟨_, rfl⟩
      subst hw0
      go_loopw [6] (fun i wi => Hid (Below w0.heap.size w0 wi) ∧ ∃ (k : Nat) (v : Value), i = .int .i64 k ∧ k ≤ rs[j].dues.length ∧ Hid (Blk wi w0.heap.size 113 [.int .i64 rs[j].day, v]) ∧ Hid (wi.ownsRow (w0.heap.size + 1) 110 3 v k ((rs[j].dues.take k).flatMap payCells))) (fun i _ => (rs[j].dues.length - intOf i).toNat)
      case atStart => exact ⟨(Below.refl _ _).alloc (Nat.le_refl _) _, 0, _, rfl, by omega, Blk.new _ _ [_, _], World.ownsRow_nil _ _ _ _⟩
      case round =>
        clear r0 r1
        obtain ⟨HB2, k, v, rfl, hk, HX, HO2⟩ := hrel
        have HR3 := Lib.hid (HR2.out.ext HB2.out)
        obtain ⟨b, o, hbo, r0, r1⟩ := HR3.out.row hlt
        cases hbo
        have x0 := HX.out.cell 0 rfl
        have x1 := HX.out.cell 1 rfl
        have y1 : ∀ o, (wr.alloc o).cell? ⟨w0.heap.size, 1, none⟩ = some v := fun o => cell_ext (ext_alloc wr o) x1
        have hs0 := HX.out.lt
        by_cases hlk : k < rs[j].dues.length
        · have hck : (k : Int) < rs[j].dues.length := by omega
          obtain ⟨b', o', hA, p0, p1, p2⟩ := pay_at (HDU.out.ext HB2.out) hlk
          have HA := Lib.hid hA
          clear hA
          rw [HA.out] at r1
          go_wp2_with (at_builtin; refine wpList_append_own _ rfl (.tmp 39) (.tmp 47) _ rfl (w0.heap.size + 1) 110 i0 _ 3 24 Tryd.underlying111 HI.out HZ0.out HZ1.out HZ2.out rfl (by omega) v k _ rfl (World.ownsRow.alloc (w := wr.alloc (.cells #[.int .i64 rs[j].dues[k].1, .int .i64 rs[j].dues[k].2.1, .int .i64 rs[j].dues[k].2.2] 123)) (World.ownsRow.alloc HO2.out _) _) ⟨wr.heap.size + 1, 0, none⟩ 1 1 [.int .i64 rs[j].dues[k].1, .int .i64 rs[j].dues[k].2.1, .int .i64 rs[j].dues[k].2.2] rfl rfl (new_cells (wr.alloc (.cells #[.int .i64 rs[j].dues[k].1, .int .i64 rs[j].dues[k].2.1, .int .i64 rs[j].dues[k].2.2] 123)) [.int .i64 rs[j].dues[k].1, .int .i64 rs[j].dues[k].2.1, .int .i64 rs[j].dues[k].2.2] _ _ (by simp)) (by intro u hu; simp only [List.mem_cons, List.not_mem_nil, or_false] at hu; rcases hu with rfl | rfl | rfl <;> rfl) (by simp only [maxLen]; omega) (by omega) (by simp; omega) ?_; intro v1 w1 hown1 hg1 _; obtain ⟨A1, c1, hv1, _⟩ := own_slice hown1; subst hv1; have HO1 := Lib.hid hown1; have HB1 := Lib.hid (Below.grown (B := w0.heap.size + 1) (((Below.refl _ wr).alloc hs0 (.cells #[.int .i64 rs[j].dues[k].1, .int .i64 rs[j].dues[k].2.1, .int .i64 rs[j].dues[k].2.2] 123)).alloc (by simp; omega) (.cells #[.int .i64 rs[j].dues[k].1, .int .i64 rs[j].dues[k].2.1, .int .i64 rs[j].dues[k].2.2] 110)) hg1 (by simp; omega) (fun g hg => ((World.ownsRow.alloc (World.ownsRow.alloc HO2.out (.cells #[.int .i64 rs[j].dues[k].1, .int .i64 rs[j].dues[k].2.1, .int .i64 rs[j].dues[k].2.2] 123)) (.cells #[.int .i64 rs[j].dues[k].1, .int .i64 rs[j].dues[k].2.1, .int .i64 rs[j].dues[k].2.2] 110)).lt g hg).1)); have HX1 := Lib.hid (HX.out.ext HB1.out); have z1 := HX1.out.cell 1 rfl; have z2 := HX1.out.free 1; clear hown1 hg1)
          go_roundw
          case rel =>
            refine ⟨(HB2.out.trans (HB1.out.mono (by omega))).setCell (by simp) _, k + 1, _, by simp, by omega, HX1.out.set 1 _, ?_⟩
            have ho := ownsRow_setCell_below HO1.out (a := ⟨w0.heap.size, 1, none⟩) (by simp) (.slice A1 (k + 1) c1)
            show World.ownsRow _ _ _ _ _ _ _
            rw [List.take_succ_eq_append_getElem hlk, List.flatMap_append]
            simpa [payCells] using ho
          case measure => simp [intOf]; omega
        · have hck : ¬ (k : Int) < rs[j].dues.length := by omega
          have hk2 : k = rs[j].dues.length := by omega
          subst hk2
          have HO3 := Lib.hid (own_ext HO.out HB2.out)
          have HD3 := Lib.hid (fun r (hr : r ∈ rs') => (show RdK wr 110 r.A (r.dues.flatMap payCells) ∧ r.dues.length ≤ r.c ∧ r.c ≤ maxLen from ⟨(HD.out r hr).1.ext HB2.out, (HD.out r hr).2⟩))
          have hwn : w.heap.size ≤ wr.heap.size := Nat.le_trans HB.out.size HB2.out.size
          obtain ⟨Av, cv, rfl, hcv⟩ : ∃ Av cv, v = .slice Av rs[j].dues.length cv ∧ rs[j].dues.length ≤ cv ∧ cv ≤ maxLen := by
            rcases HO2.out.2 with ⟨h1, h2⟩ | ⟨g, cap, cur, h1, _, _, h2, h3, _⟩
            · exact ⟨_, 0, by rw [h2]; exact h1, by omega, by simp [maxLen]⟩
            · exact ⟨_, cap, h1, h2, h3⟩
          go_wp2_with (at_builtin; refine wpList_append_own _ rfl (.tmp 50) (.tmp 52) _ rfl w.heap.size 113 j0 _ 2 32 Tryd.underlying47 HJ.out HY0.out HY1.out HY2.out rfl (by omega) u3 j _ rfl (World.ownsRow.alloc HO3.out _) ⟨wr.heap.size, 0, none⟩ 1 1 [.int .i64 rs[j].day, .slice Av rs[j].dues.length cv] rfl rfl (new_cells wr [.int .i64 rs[j].day, .slice Av rs[j].dues.length cv] _ _ rfl) (by intro u hu; simp only [List.mem_cons, List.not_mem_nil, or_false] at hu; rcases hu with rfl | rfl <;> rfl) (by simp only [maxLen]; omega) (by omega) (by simp; omega) ?_; intro v1 w1 hown1 hg1 _; have HO1 := Lib.hid hown1; have HG1 := Lib.hid hg1; clear hown1 hg1)
          go_roundw
          case rel =>
            have hkind := Lib.ownsRow_kind (World.ownsRow.alloc HO3.out (.cells #[.int .i64 rs[j].day, .slice Av rs[j].dues.length cv] 113))
            refine ⟨?_, j + 1, rs' ++ [⟨rs[j].day, rs[j].dues, Av, cv⟩], by simp, by omega, ?_, ?_, ?_⟩
            · exact ((HB.out.trans (HB2.out.mono HB.out.size)).alloc hwn _).grown HG1.out (by simp; omega) (fun g hg => (HO3.out.lt g hg).1)
            · show List.map _ _ = _
              rw [List.map_append, HK.out, List.take_succ_eq_append_getElem hlt, List.map_append]
              rfl
            · have ho := HO1.out
              show World.ownsRow _ _ _ _ _ _ _
              simpa [List.flatMap_append, clCells] using ho
            · show ∀ r ∈ _, _
              intro r hr
              rcases List.mem_append.1 hr with hr | hr
              · exact ⟨((HD3.out r hr).1.ext (ext_alloc wr _)).grown HG1.out hkind (by decide), (HD3.out r hr).2⟩
              · rw [List.mem_singleton] at hr
                subst hr
                refine ⟨?_, hcv⟩
                have h2 := RdK.of_own HO2.out
                rw [List.take_of_length_le (Nat.le_refl _)] at h2
                exact (h2.ext (ext_alloc wr _)).grown HG1.out hkind (by decide)
          case measure => simp [intOf]; omega
    · have hcl : ¬ (j : Int) < rs.length := by omega
      have hj2 : j = rs.length := by omega
      have hl2 : rs'.length = rs.length := by
        have := congrArg List.length HK.out
        simp at this
        omega
      obtain ⟨Av, cv, rfl, hcv⟩ : ∃ Av cv, u3 = .slice Av rs'.length cv ∧ rs'.length ≤ cv ∧ cv ≤ maxLen := by
        rcases HO.out.2 with ⟨h1, h2⟩ | ⟨g, cap, cur, h1, _, _, h2, h3, _⟩
        · exact ⟨_, 0, by rw [show rs'.length = 0 by omega]; exact h1, by omega, by simp [maxLen]⟩
        · exact ⟨_, cap, by rw [hl2, ← hj2]; exact h1, by omega, h3⟩
      go_wp2_with fail
      go_ret
      refine ⟨Av, cv, rs', by rw [hl2]; rfl, ?_, ⟨Rd.of_own (n := rs'.length) (by have ho := HO.out; rwa [show j = rs'.length by omega] at ho), fun r hr => (HD.out r hr).1.rd, fun r hr => (HD.out r hr).2⟩, hcv.1, hcv.2, HB.out⟩
      have := HK.out
      rw [hj2, List.take_length] at this
      exact this
end Go.Proofs.YtjnkcpeicocjhaaDoor.Claims

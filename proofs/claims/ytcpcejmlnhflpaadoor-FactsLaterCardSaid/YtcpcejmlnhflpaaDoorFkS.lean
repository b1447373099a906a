/- Facts: Sort and Compact at rows of integers that the call has built; the program's days. -/
import Derived.Test.YtcpcejmlnhflpaaDoorShelfB
import Derived.Test.YtcpcejmlnhflpaaDoorFkT
import Derived.Sort.OwnSortedInts
namespace Go.Proofs.YtcpcejmlnhflpaaDoor.Fk
open Go.RowKit Mem Nest Err App Go.Sort

def sortI (zs : List Int) : List Int := zs.mergeSort fun x y => decide (x ≤ y)
theorem sortI_len (zs : List Int) : (sortI zs).length = zs.length := List.length_mergeSort _
/-- behind a call that turns one own row alone -/
def SortPost (base : Nat) (zs : List Int) (A : Option Addr) (c : Nat) (w : World) (e : Ending) (w' : World) : Prop :=
  e = .returned (.tuple #[]) ∧ w'.ownsRow base 3 1 (.slice A zs.length c) zs.length (ints (sortI zs)) ∧ w.grownBy w' (Value.slice A zs.length c).ownBlock
theorem sort_any (base : Nat) (zs : List Int) (hz : zs.length ≤ 100000) (A : Option Addr) (c : Nat) (w : World) (h : w.ownsRow base 3 1 (.slice A zs.length c) zs.length (ints zs)) :
    Calls Tryd.prog 24 #[.slice A zs.length c] w (SortPost base zs A c w) := by
  by_cases h0 : zs.length = 0
  · obtain rfl := List.length_eq_zero_iff.1 h0
    refine (Tryd.slices_Sort_int_none A c w).mono ?_
    rintro e w' ⟨rfl, rfl⟩
    have e : sortI [] = [] := by unfold sortI; simp
    exact ⟨rfl, by rw [e]; exact h, rfl, rfl, rfl, Nat.le_refl _, fun _ _ _ => rfl⟩
  · rcases h.2 with ⟨_, h2⟩ | ⟨g, cap, cur, hv, hg, hb, h1, h2, h3, h4⟩
    · exact absurd h2 h0
    · injection hv with ha hb' hc'
      subst ha hc'
      refine (Tryd.slices_Sort_int g 0 c zs w (holds_of_blockI hb (by rw [Nat.mul_one] at h4; exact h4)) (Array.getElem?_eq_some_iff.1 hb).1 (by omega)).mono ?_
      rintro e w' ⟨rfl, n, os, rfl⟩
      exact ⟨rfl, ownsRow_sortedI (sortI_len zs) hg hb h1 h2 h3, grownBy_sortedI _⟩
theorem comp_len (zs : List Int) : (Lib.compact zs).length ≤ zs.length := by
  unfold Lib.compact Lib.compactUpTo
  rw [List.length_map]
  refine Nat.le_trans (List.length_filter_le _ _) ?_
  simp
theorem compact_any (base : Nat) (zs : List Int) (hz : zs.length ≤ 100000) (A : Option Addr) (c : Nat) (w : World) (h : w.ownsRow base 3 1 (.slice A zs.length c) zs.length (ints zs)) (w0 : World) (hB : Below w0.heap.size w0 w) (hbase : base = w0.heap.size) :
    Calls Tryd.prog 25 #[.slice A zs.length c] w (IntsPost (Lib.compact zs) w0) := by
  by_cases h0 : zs.length = 0
  · obtain rfl := List.length_eq_zero_iff.1 h0
    refine (Tryd.slices_Compact_int_empty A c w).mono ?_
    rintro e w' ⟨rfl, rfl⟩
    exact ⟨A, c, rfl, SL.of_own h rfl rfl, hB⟩
  · rcases h.2 with ⟨_, h2⟩ | ⟨g, cap, cur, hv, hg, hb, h1, h2, h3, h4⟩
    · exact absurd h2 h0
    · injection hv with ha hb' hc'
      subst ha hc'
      refine (Tryd.slices_Compact_int g 0 c zs w (holds_of_blockI hb (by rw [Nat.mul_one] at h4; exact h4)) (by omega) h1).mono ?_
      rintro e w' ⟨rfl, q, rfl⟩
      have hl := comp_len zs
      have hl2 : (Lib.compact zs ++ List.replicate (zs.length - (Lib.compact zs).length) 0).length = zs.length := by simp; omega
      have ho := ownsRow_sortedI (os := #[]) (n := q) hl2 hg hb h1 h2 h3
      have hgr := grownBy_sortedI (w := w) (g := g) (n := q) (os := #[]) (Lib.compact zs ++ List.replicate (zs.length - (Lib.compact zs).length) 0).toArray
      rw [grow_empty] at ho hgr
      refine ⟨_, _, rfl, ⟨?_, by omega, h2, fun h => (by cases h), fun a h => ⟨g, 0, h.symm⟩⟩, ?_⟩
      · have hr := (Rd.of_own ho).take (Lib.compact zs).length
        have e : (List.map (Value.int .i64) (Lib.compact zs ++ List.replicate (zs.length - (Lib.compact zs).length) 0)).take (Lib.compact zs).length = ints (Lib.compact zs) := by
          rw [← List.map_take, List.take_left]
          rfl
        rw [e] at hr
        exact hr
      · exact hB.grown hgr hB.size fun k hk => by
          obtain rfl := Option.some.inj hk
          omega
set_option maxRecDepth 20000 in
set_option maxHeartbeats 4000000 in
theorem plearnt_any (l : List Fa) (hl : l.length ≤ 500) (b : Nat) (A : Option Addr) (c : Nat) (w : World) (hF : FR 55 w b A c l) :
    Calls Tryd.prog 17 #[.pointer (some ⟨b, 0, none⟩)] w (IntsPost (learntF l) w) := by
  have HF := Lib.hid hF
  have d0 := hF.1.cell 0 rfl
  obtain ⟨i0, hi, hz0, hz1, hz2⟩ := info_parts int_info
  have HI := Lib.hid hi
  have HZ0 := Lib.hid hz0
  have HZ1 := Lib.hid hz1
  have HZ2 := Lib.hid hz2
  clear hF hi hz0 hz1 hz2
  go_enter Tryd.func17, Tryd.ntmps17
  go_wp2_with fail
  go_loopw [3, 11] (fun t3 t11 wr => ∃ i : Nat, t11 = .int .i64 i ∧ i ≤ l.length ∧ Hid (Below w.heap.size w wr) ∧ Hid (wr.ownsRow w.heap.size 3 1 t3 i (ints ((l.take i).map (·.learnt))))) (fun _ t11 _ => l.length - (intOf t11).toNat)
  case atStart => exact ⟨0, rfl, Nat.zero_le _, Below.refl _ _, World.ownsRow_nil _ _ _ _⟩
  case round =>
    obtain ⟨i, rfl, hi, HB, HO⟩ := hrel
    by_cases hlt : i < l.length
    · have hltc : (i : Int) < (l.length : Int) := by omega
      have HRd := (HF.out.ext HB.out).2
      obtain ⟨fb, fo, rfl, r0, r1, r2, r3, r4, r5, r6⟩ := fact_at HRd hlt
      have HTK := Lib.hid (show (l.take (i + 1)).map (·.learnt) = (l.take i).map (·.learnt) ++ [l[i].learnt] by rw [List.take_succ_eq_append_getElem hlt, List.map_append]; rfl)
      obtain ⟨x, hx⟩ : ∃ x, x = l[i] := ⟨_, rfl⟩
      rw [← hx] at r0 r1 r2 r3 r4 r5 r6 HTK
      clear hx HRd
      obtain ⟨xw, xn, xo, xv, xf, xt, xl⟩ := x
      simp only at r0 r1 r2 r3 r4 r5 r6 HTK
      have bx := Blk.new wr 40 [.int .i64 xw, .string ⟨xn.toArray⟩, .int .i64 xo, .int .i64 xv, .int .i64 xf, .int .i64 xt, .int .i64 xl]
      have hx1 := ext_alloc wr (.cells (List.toArray [.int .i64 xw, .string ⟨xn.toArray⟩, .int .i64 xo, .int .i64 xv, .int .i64 xf, .int .i64 xt, .int .i64 xl]) 40)
      obtain ⟨W, hW⟩ : ∃ W, W = wr.alloc (.cells (List.toArray [.int .i64 xw, .string ⟨xn.toArray⟩, .int .i64 xo, .int .i64 xv, .int .i64 xf, .int .i64 xt, .int .i64 xl]) 40) := ⟨_, rfl⟩
      obtain ⟨K, hK⟩ : ∃ K, K = wr.heap.size := ⟨_, rfl⟩
      rw [← hW] at bx hx1
      rw [← hK] at bx
      have HB1 := Lib.hid (HB.out.trans (hx1.mono HB.out.size))
      have HO1 := Lib.hid (own_ext HO.out hx1)
      have k6 := bx.cell 6 rfl
      clear bx hx1
      go_upto_region 5 with fail
      rw [show wr.alloc (.cells #[.int .i64 xw, .string ⟨xn.toArray⟩, .int .i64 xo, .int .i64 xv, .int .i64 xf, .int .i64 xt, .int .i64 xl] 40) = W from hW.symm, ← hK]
      clear hW hK r0 r1 r2 r3 r4 r5 r6
      go_wp2_with (at_builtin; refine wpList_append_own _ rfl _ _ _ rfl w.heap.size 3 i0 _ 1 8 Tryd.underlying32 HI.out HZ0.out HZ1.out HZ2.out rfl (by omega) u3 i _ rfl (World.ownsRow.alloc HO1.out _) ⟨W.heap.size, 0, none⟩ 1 1 [.int .i64 xl] rfl rfl (new_cells W [.int .i64 xl] _ _ rfl) (by intro u hu; simp only [List.mem_cons, List.not_mem_nil, or_false] at hu; subst hu; rfl) (by simp only [maxLen]; omega) (by omega) (Nat.le_trans HB1.out.size (by simp)) ?_; intro v1 w2 hown1 hg1 _; have HO2 := Lib.hid hown1; have HB2 := Lib.hid (grown_ext (HB1.out.trans ((ext_alloc W _).mono HB1.out.size)) rfl (World.ownsRow.alloc HO1.out _) hg1); clear hown1 hg1)
      go_roundw
      case rel =>
        refine ⟨i + 1, by go_num, by omega, HB2.out, ?_⟩
        show World.ownsRow _ _ _ _ _ _ _
        rw [HTK.out, ints_snoc]
        exact HO2.out
      case measure => simp [intOf]; omega
    · obtain rfl : l.length = i := by omega
      have hlc : ¬ (l.length : Int) < (l.length : Int) := by omega
      have ho := HO.out
      rw [List.take_length] at ho
      have hln : l.length = (l.map (·.learnt)).length := by simp
      have HE := Lib.hid (show learntF l = Lib.compact (sortI (l.map (·.learnt))) from (sort_days _).symm)
      obtain ⟨zs, hzs⟩ : ∃ zs, zs = l.map (·.learnt) := ⟨_, rfl⟩
      rw [← hzs] at ho hln HE
      rw [hln] at ho
      have hzl : zs.length ≤ 500 := by omega
      obtain ⟨A1, c1, rfl, _⟩ := own_slice ho
      have HO1 := Lib.hid ho
      clear ho hzs HO
      go_wp2_with fail
      refine (sort_any w.heap.size zs (by omega) A1 c1 _ HO1.out).mono ?_
      rintro e w2 ⟨rfl, ho2, hg2⟩
      have HB2 := Lib.hid (grown_ext HB.out rfl HO1.out hg2)
      have hsl := sortI_len zs
      rw [← hsl] at ho2
      have HO2 := Lib.hid ho2
      clear ho2 hg2
      go_wp2_with fail
      rw [show zs.length = (sortI zs).length from hsl.symm]
      refine (compact_any w.heap.size (sortI zs) (by omega) A1 c1 _ HO2.out w HB2.out rfl).mono ?_
      rw [← HE.out]
      rintro e w3 ⟨A3, c3, rfl, hs, hb⟩
      have HS3 := Lib.hid hs
      have HB3 := Lib.hid hb
      clear hs hb
      go_wp2_with fail
      go_ret
      exact ⟨A3, c3, rfl, HS3.out, HB3.out⟩
end Go.Proofs.YtcpcejmlnhflpaaDoor.Fk

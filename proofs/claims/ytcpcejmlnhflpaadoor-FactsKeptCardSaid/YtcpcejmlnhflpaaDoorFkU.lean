/- Facts: the program's turns. -/
import Derived.Test.YtcpcejmlnhflpaaDoorFkS
namespace Go.Proofs.YtcpcejmlnhflpaaDoor.Fk
open Go.RowKit Mem Nest Err App Go.Sort

theorem ints_app (a b : List Int) : ints (a ++ b) = ints a ++ ints b := by simp [ints]
set_option maxRecDepth 20000 in
set_option maxHeartbeats 4000000 in
theorem pturns_any (l : List Fa) (hl : l.length ≤ 500) (b : Nat) (A : Option Addr) (c : Nat) (who kn : Int) (w : World) (hF : FR 55 w b A c l) :
    Calls Tryd.prog 8 #[.pointer (some ⟨b, 0, none⟩), .int .i64 who, .int .i64 kn] w (IntsPost (turnsF who kn l) w) := by
  have HF := Lib.hid hF
  have d0 := hF.1.cell 0 rfl
  obtain ⟨i0, hi, hz0, hz1, hz2⟩ := info_parts int_info
  have HI := Lib.hid hi
  have HZ0 := Lib.hid hz0
  have HZ1 := Lib.hid hz1
  have HZ2 := Lib.hid hz2
  clear hF hi hz0 hz1 hz2
  go_enter Tryd.func8, Tryd.ntmps8
  go_wp2_with fail
  go_loopw [7, 15] (fun t7 t15 wr => ∃ (i n : Nat), t15 = .int .i64 i ∧ i ≤ l.length ∧ n ≤ 2 * i ∧ Hid (n = (turnsR who kn (l.take i)).length) ∧ Hid (Below w.heap.size w wr) ∧ Hid (wr.ownsRow w.heap.size 3 1 t7 n (ints (turnsR who kn (l.take i))))) (fun _ t15 _ => l.length - (intOf t15).toNat)
  case atStart => exact ⟨0, 0, rfl, Nat.zero_le _, Nat.le_refl _, rfl, Below.refl _ _, World.ownsRow_nil _ _ _ _⟩
  case round =>
    obtain ⟨i, n, rfl, hi, hn2, HN, HB, HO⟩ := hrel
    by_cases hlt : i < l.length
    · have hltc : (i : Int) < (l.length : Int) := by omega
      have HRd := (HF.out.ext HB.out).2
      obtain ⟨fb, fo, rfl, r0, r1, r2, r3, r4, r5, r6⟩ := fact_at HRd hlt
      have HTS := Lib.hid (turnsR_snoc (who := who) (kn := kn) hlt)
      obtain ⟨raw, hraw⟩ : ∃ raw, raw = turnsR who kn (l.take i) := ⟨_, rfl⟩
      rw [← hraw] at HTS HN HO
      clear hraw
      obtain ⟨x, hx⟩ : ∃ x, x = l[i] := ⟨_, rfl⟩
      rw [← hx] at r0 r1 r2 r3 r4 r5 r6 HTS
      clear hx HRd
      obtain ⟨xw, xn, xo, xv, xf, xt, xl⟩ := x
      simp only at r0 r1 r2 r3 r4 r5 r6
      have bx := Blk.new wr 40 [.int .i64 xw, .string ⟨xn.toArray⟩, .int .i64 xo, .int .i64 xv, .int .i64 xf, .int .i64 xt, .int .i64 xl]
      have hx1 := ext_alloc wr (.cells (List.toArray [.int .i64 xw, .string ⟨xn.toArray⟩, .int .i64 xo, .int .i64 xv, .int .i64 xf, .int .i64 xt, .int .i64 xl]) 40)
      obtain ⟨W, hW⟩ : ∃ W, W = wr.alloc (.cells (List.toArray [.int .i64 xw, .string ⟨xn.toArray⟩, .int .i64 xo, .int .i64 xv, .int .i64 xf, .int .i64 xt, .int .i64 xl]) 40) := ⟨_, rfl⟩
      obtain ⟨K, hK⟩ : ∃ K, K = wr.heap.size := ⟨_, rfl⟩
      rw [← hW] at bx hx1
      rw [← hK] at bx
      have HB1 := Lib.hid (HB.out.trans (hx1.mono HB.out.size))
      have HO1 := Lib.hid (own_ext HO.out hx1)
      have HBX := Lib.hid bx
      have k0 := bx.cell 0 rfl
      have k4 := bx.cell 4 rfl
      have k5 := bx.cell 5 rfl
      have k6 := bx.cell 6 rfl
      clear bx hx1
      go_upto_region 5 with fail
      rw [show wr.alloc (.cells #[.int .i64 xw, .string ⟨xn.toArray⟩, .int .i64 xo, .int .i64 xv, .int .i64 xf, .int .i64 xt, .int .i64 xl] 40) = W from hW.symm, ← hK]
      clear hW hK r0 r1 r2 r3 r4 r5 r6
      by_cases hkn : kn < xl
      · have HNO := Lib.hid (turns_no (who := who) (kn := kn) (x := (⟨xw, xn, xo, xv, xf, xt, xl⟩ : Fa)) (.inl hkn))
        go_wp2_with fail
        go_roundw
        case rel =>
          refine ⟨i + 1, n, by go_num, by omega, by omega, ?_, HB1.out, ?_⟩
          · show n = _
            rw [HTS.out, HNO.out, List.append_nil]; exact HN.out
          · show World.ownsRow _ _ _ _ _ _ _
            rw [HTS.out, HNO.out, List.append_nil]; exact HO1.out
        case measure => simp [intOf]; omega
      · by_cases hw0 : 0 ≤ who
        · by_cases hw : xw = who
          · have q1 : (xw == who) = true := by simp [hw]
            have q1b : (xw != who) = false := by simp [hw]
            have HGO := Lib.hid (show ¬ (kn < (⟨xw, xn, xo, xv, xf, xt, xl⟩ : Fa).learnt ∨ (0 ≤ who ∧ (⟨xw, xn, xo, xv, xf, xt, xl⟩ : Fa).who ≠ who)) from fun h => h.elim hkn (fun h => h.2 hw))
            clear hw
            go_upto_region 7 with (at_builtin; refine wpList_append_own _ rfl _ _ _ rfl w.heap.size 3 i0 _ 1 8 Tryd.underlying32 HI.out HZ0.out HZ1.out HZ2.out rfl (by omega) u7 n _ rfl (World.ownsRow.alloc HO1.out _) ⟨W.heap.size, 0, none⟩ 1 1 [.int .i64 xf] rfl rfl (new_cells W [.int .i64 xf] _ _ rfl) (by intro u hu; simp only [List.mem_cons, List.not_mem_nil, or_false] at hu; subst hu; rfl) (by simp only [maxLen]; omega) (by omega) (Nat.le_trans HB1.out.size (by simp)) ?_; intro v1 w2 hown1 hg1 _; have HO2 := Lib.hid hown1; have HB2 := Lib.hid (grown_ext (HB1.out.trans ((ext_alloc W _).mono HB1.out.size)) rfl (World.ownsRow.alloc HO1.out _) hg1); have hbk := blk_grown (HBX.out.ext ((ext_alloc W _).mono (show K + 1 ≤ _ from HBX.out.lt))) hg1 (fun e => by obtain ⟨cc, fz, h⟩ := Lib.ownsRow_kind HO1.out K e.symm; have h2 := HBX.out; unfold Blk at h2; rw [h2] at h; simp only [Option.some.injEq, Obj.cells.injEq] at h; exact absurd h.2.1 (by decide)); have m5 := hbk.cell 5 rfl; clear hbk; clear hown1 hg1)
            clear k0 k4 k5 k6
            by_cases ht : xt = 0
            · have q5 : (xt == 0) = true := by simp [ht]
              have q5b : (xt != 0) = false := by simp [ht]
              have HK := Lib.hid (turns_one HGO.out ht)
              clear ht
              go_wp2_with fail
              go_roundw
              case rel =>
                refine ⟨i + 1, n + 1, by go_num, by omega, by omega, ?_, HB2.out, ?_⟩
                · show n + 1 = _
                  rw [HTS.out, HK.out, List.length_append, ← HN.out]; rfl
                · show World.ownsRow _ _ _ _ _ _ _
                  rw [HTS.out, HK.out, ints_app]; exact HO2.out
              case measure => simp [intOf]; omega
            · have q5 : (xt == 0) = false := by simp [ht]
              have q5b : (xt != 0) = true := by simp [ht]
              have HK := Lib.hid (turns_two HGO.out ht)
              clear ht
              go_wp2_with (at_builtin; refine wpList_append_own _ rfl _ _ _ rfl w.heap.size 3 i0 _ 1 8 Tryd.underlying32 HI.out HZ0.out HZ1.out HZ2.out rfl (by omega) v1 (n + 1) _ rfl (World.ownsRow.alloc HO2.out _) ⟨w2.heap.size, 0, none⟩ 1 1 [.int .i64 xt] rfl rfl (new_cells w2 [.int .i64 xt] _ _ rfl) (by intro u hu; simp only [List.mem_cons, List.not_mem_nil, or_false] at hu; subst hu; rfl) (by simp only [maxLen]; omega) (by omega) (Nat.le_trans HB2.out.size (by simp)) ?_; intro v3 w3 hown1 hg1 _; have HO3 := Lib.hid hown1; have HB3 := Lib.hid (grown_ext (HB2.out.trans ((ext_alloc w2 _).mono HB2.out.size)) rfl (World.ownsRow.alloc HO2.out _) hg1); clear hown1 hg1)
              go_roundw
              case rel =>
                refine ⟨i + 1, n + 1 + 1, by go_num, by omega, by omega, ?_, HB3.out, ?_⟩
                · show n + 1 + 1 = _
                  rw [HTS.out, HK.out, List.length_append, ← HN.out]; rfl
                · show World.ownsRow _ _ _ _ _ _ _
                  rw [HTS.out, HK.out, show raw ++ [xf, xt] = raw ++ [xf] ++ [xt] by simp, ints_app, ints_app]; exact HO3.out
              case measure => simp [intOf]; omega
          · have q1 : (xw == who) = false := by simp [hw]
            have q1b : (xw != who) = true := by simp [hw]
            have HNO := Lib.hid (turns_no (who := who) (kn := kn) (x := (⟨xw, xn, xo, xv, xf, xt, xl⟩ : Fa)) (.inr ⟨hw0, hw⟩))
            clear hw
            go_wp2_with fail
            go_roundw
            case rel =>
              refine ⟨i + 1, n, by go_num, by omega, by omega, ?_, HB1.out, ?_⟩
              · show n = _
                rw [HTS.out, HNO.out, List.append_nil]; exact HN.out
              · show World.ownsRow _ _ _ _ _ _ _
                rw [HTS.out, HNO.out, List.append_nil]; exact HO1.out
            case measure => simp [intOf]; omega
        · have HGO := Lib.hid (show ¬ (kn < (⟨xw, xn, xo, xv, xf, xt, xl⟩ : Fa).learnt ∨ (0 ≤ who ∧ (⟨xw, xn, xo, xv, xf, xt, xl⟩ : Fa).who ≠ who)) from fun h => h.elim hkn (fun h => hw0 h.1))
          go_upto_region 7 with (at_builtin; refine wpList_append_own _ rfl _ _ _ rfl w.heap.size 3 i0 _ 1 8 Tryd.underlying32 HI.out HZ0.out HZ1.out HZ2.out rfl (by omega) u7 n _ rfl (World.ownsRow.alloc HO1.out _) ⟨W.heap.size, 0, none⟩ 1 1 [.int .i64 xf] rfl rfl (new_cells W [.int .i64 xf] _ _ rfl) (by intro u hu; simp only [List.mem_cons, List.not_mem_nil, or_false] at hu; subst hu; rfl) (by simp only [maxLen]; omega) (by omega) (Nat.le_trans HB1.out.size (by simp)) ?_; intro v1 w2 hown1 hg1 _; have HO2 := Lib.hid hown1; have HB2 := Lib.hid (grown_ext (HB1.out.trans ((ext_alloc W _).mono HB1.out.size)) rfl (World.ownsRow.alloc HO1.out _) hg1); have hbk := blk_grown (HBX.out.ext ((ext_alloc W _).mono (show K + 1 ≤ _ from HBX.out.lt))) hg1 (fun e => by obtain ⟨cc, fz, h⟩ := Lib.ownsRow_kind HO1.out K e.symm; have h2 := HBX.out; unfold Blk at h2; rw [h2] at h; simp only [Option.some.injEq, Obj.cells.injEq] at h; exact absurd h.2.1 (by decide)); have m5 := hbk.cell 5 rfl; clear hbk; clear hown1 hg1)
          clear k0 k4 k5 k6
          by_cases ht : xt = 0
          · have q5 : (xt == 0) = true := by simp [ht]
            have q5b : (xt != 0) = false := by simp [ht]
            have HK := Lib.hid (turns_one HGO.out ht)
            clear ht
            go_wp2_with fail
            go_roundw
            case rel =>
              refine ⟨i + 1, n + 1, by go_num, by omega, by omega, ?_, HB2.out, ?_⟩
              · show n + 1 = _
                rw [HTS.out, HK.out, List.length_append, ← HN.out]; rfl
              · show World.ownsRow _ _ _ _ _ _ _
                rw [HTS.out, HK.out, ints_app]; exact HO2.out
            case measure => simp [intOf]; omega
          · have q5 : (xt == 0) = false := by simp [ht]
            have q5b : (xt != 0) = true := by simp [ht]
            have HK := Lib.hid (turns_two HGO.out ht)
            clear ht
            go_wp2_with (at_builtin; refine wpList_append_own _ rfl _ _ _ rfl w.heap.size 3 i0 _ 1 8 Tryd.underlying32 HI.out HZ0.out HZ1.out HZ2.out rfl (by omega) v1 (n + 1) _ rfl (World.ownsRow.alloc HO2.out _) ⟨w2.heap.size, 0, none⟩ 1 1 [.int .i64 xt] rfl rfl (new_cells w2 [.int .i64 xt] _ _ rfl) (by intro u hu; simp only [List.mem_cons, List.not_mem_nil, or_false] at hu; subst hu; rfl) (by simp only [maxLen]; omega) (by omega) (Nat.le_trans HB2.out.size (by simp)) ?_; intro v3 w3 hown1 hg1 _; have HO3 := Lib.hid hown1; have HB3 := Lib.hid (grown_ext (HB2.out.trans ((ext_alloc w2 _).mono HB2.out.size)) rfl (World.ownsRow.alloc HO2.out _) hg1); clear hown1 hg1)
            go_roundw
            case rel =>
              refine ⟨i + 1, n + 1 + 1, by go_num, by omega, by omega, ?_, HB3.out, ?_⟩
              · show n + 1 + 1 = _
                rw [HTS.out, HK.out, List.length_append, ← HN.out]; rfl
              · show World.ownsRow _ _ _ _ _ _ _
                rw [HTS.out, HK.out, show raw ++ [xf, xt] = raw ++ [xf] ++ [xt] by simp, ints_app, ints_app]; exact HO3.out
            case measure => simp [intOf]; omega
    · obtain rfl : l.length = i := by omega
      have hlc : ¬ (l.length : Int) < (l.length : Int) := by omega
      have ho := HO.out
      rw [List.take_length] at ho
      have hln := HN.out
      rw [List.take_length] at hln
      have HE := Lib.hid (show turnsF who kn l = Lib.compact (sortI (turnsR who kn l)) from (sort_days _).symm)
      obtain ⟨zs, hzs⟩ : ∃ zs, zs = turnsR who kn l := ⟨_, rfl⟩
      rw [← hzs] at ho hln HE
      rw [hln] at ho
      have hzl : zs.length ≤ 1000 := by omega
      obtain ⟨A1, c1, hv, _⟩ := own_slice ho
      subst hv
      have HO1 := Lib.hid ho
      clear ho hzs HO
      go_wp2_with fail
      refine (sort_any w.heap.size zs (by omega) A1 c1 _ HO1.out).mono ?_
      rintro e w2 ⟨rfl, ho2, hg2⟩
      have HB2 := Lib.hid (grown_ext HB.out rfl HO1.out hg2)
      have hsl := sortI_len zs
      rw [← hsl] at ho2
      have HO2 := Lib.hid ho2
      clear ho2 hg2
      go_wp2_with fail
      rw [show zs.length = (sortI zs).length from hsl.symm]
      refine (compact_any w.heap.size (sortI zs) (by omega) A1 c1 _ HO2.out w HB2.out rfl).mono ?_
      rw [← HE.out]
      rintro e w3 ⟨A3, c3, rfl, hs, hb⟩
      have HS3 := Lib.hid hs
      have HB3 := Lib.hid hb
      clear hs hb
      go_wp2_with fail
      go_ret
      exact ⟨A3, c3, rfl, HS3.out, HB3.out⟩
end Go.Proofs.YtcpcejmlnhflpaaDoor.Fk

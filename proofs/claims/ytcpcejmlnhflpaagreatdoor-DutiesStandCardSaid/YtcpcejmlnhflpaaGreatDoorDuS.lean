/- The states of duties. Whether two duties are the same. States of duties; the law's small tests. -/
import Derived.Test.YtcpcejmlnhflpaaGreatDoorDuV
import Derived.Laws.StructEq
namespace Go.Proofs.YtcpcejmlnhflpaaGreatDoor.Dut
open Go.RowKit Mem Nest Sol App CdP CdM Solve Err

theorem base_mem {l : List Dt} {es : List Ev} {on : Int} {r : Ro} (h : r ∈ baseR l es on) : r.d ∈ l := by
  unfold baseR at h
  obtain ⟨x, hx, rfl⟩ := List.mem_map.1 h
  exact (List.mem_filter.1 hx).1
/-- an append to a row keeps what another slice of it shows -/
theorem rd_keep {W w' : World} {v : Value} {xs cells more : List Value} {A : Option Addr} (hx : xs = cells ++ more) (hR : Rd W A cells) (hA : ∀ a, A = some a → a.off = 0) (hg : W.grownBy w' v.ownBlock)
    (hk : ∀ g, v.ownBlock = some g → ∀ j u, xs[j]? = some u → w'.cell? ⟨g, j, none⟩ = some u) : Rd w' A cells := by
  intro j u hj
  obtain ⟨b, o, e, hc⟩ := hR j u hj
  have h0 : o = 0 := hA _ e
  subst h0
  refine ⟨b, 0, e, ?_⟩
  rw [Nat.zero_add] at hc ⊢
  by_cases c : v.ownBlock = some b
  · exact hk b c j u (by rw [hx, List.getElem?_append_left (List.getElem?_eq_some_iff.1 hj).1]; exact hj)
  · exact hg.cell hc (fun h => c h.symm)
theorem own_off {w : World} {base : Nat} {e : TypeId} {size n c : Nat} {xs : List Value} {A : Option Addr} (h : w.ownsRow base e size (.slice A n c) n xs) : ∀ a, A = some a → a.off = 0 := by
  intro a ha
  rcases h.2 with ⟨h1, _⟩ | ⟨g, cap, cur, h1, _⟩
  · rw [ha] at h1; cases h1
  · rw [ha] at h1; injection h1 with h2 _ _; injection h2 with h3; rw [h3]
/-- what the states come to -/
def StPost (l : List Dt) (es : List Ev) (on : Int) (w : World) (e : Ending) (w' : World) : Prop :=
  ∃ (A : Option Addr) (c : Nat) (more : List Ro), e = .returned (.slice A ((baseR l es on).length + more.length) c) ∧ Rd w' A ((baseR l es on ++ more).flatMap roCells) ∧ (∀ r ∈ more, 0 ≤ r.of) ∧ ((∀ x ∈ l, x.els = []) → more = []) ∧ more.length ≤ l.length ∧ Below w.heap.size w w'
set_option maxRecDepth 100000 in
set_option maxHeartbeats 8000000 in
theorem dstates_any (l : List Dt) (hl : l.length ≤ 1000) (es : List Ev) (he : es.length ≤ 1000) (c : Cd) (ok : CdOk c) (cb co : Nat) (H : Option Addr) (hc : Nat) (on : Int) (A : Nat → Addr) (LA EA : Option Addr) (lc ec : Nat) (w : World)
    (hd : Rd w LA (l.flatMap dtCells)) (hv : Rd w EA (es.flatMap evCells)) (hC : CdA w cb co c H hc) (hE : E3 w A) (hok : VOk l on l.length) :
    Calls Tryz.prog 56 #[.slice LA l.length lc, .slice EA es.length ec, .pointer (some ⟨cb, co, none⟩), .int .i64 on] w (StPost l es on w) := by
  have HD := Lib.hid hd
  have HV := Lib.hid hv
  have HC := Lib.hid hC
  have HE := Lib.hid hE
  have HOK := Lib.hid ok
  have HVO := Lib.hid hok
  obtain ⟨i0, hi, hz0, hz1, hz2⟩ := info_parts state_info
  have HI := Lib.hid hi
  have HZ0 := Lib.hid hz0
  have HZ1 := Lib.hid hz1
  have HZ2 := Lib.hid hz2
  clear hd hv hC hE ok hok hi hz0 hz1 hz2
  go_enter Tryz.func56, Tryz.ntmps56
  go_wp2_with fail
  go_loopw [9, 20] (fun s9 s20 wr => ∃ k : Nat, s20 = .int .i64 k ∧ k ≤ l.length ∧ Hid (Below w.heap.size w wr) ∧ Hid (wr.ownsRow w.heap.size 130 11 s9 (baseR (l.take k) es on).length ((baseR (l.take k) es on).flatMap roCells))) (fun _ s20 _ => l.length - (intOf s20).toNat)
  case atStart => exact ⟨0, rfl, Nat.zero_le _, Below.refl _ _, World.ownsRow_nil _ _ _ _⟩
  case round =>
    obtain ⟨k, rfl, hk, HB, HO⟩ := hrel
    by_cases hlt : k < l.length
    · have hcl : (k : Int) < (l.length : Int) := by omega
      obtain ⟨b, o, rfl, hd⟩ := dt_at (HD.out.ext HB.out) hlt
      have HT := Lib.hid (base_take l es on k hlt)
      have hbl : (baseR (l.take k) es on).length ≤ k := by
        have := base_len (l.take k) es on
        rw [List.length_take] at this
        omega
      generalize baseR (l.take k) es on = R at HO HT hbl
      generalize l[k] = x at hd HT
      obtain ⟨nm, wh, fr, tl, el, tn, tu, tr⟩ := x
      obtain ⟨c0, c1, c2, c3, c4, c5, c6, c7⟩ := hd
      simp only at c0 c1 c2 c3 c4 c5 c6 c7
      have HX := Lib.hid (ext_alloc wr (.cells #[.string ⟨nm.toArray⟩, .string ⟨wh.toArray⟩, .int .i64 fr, .int .i64 tl, .string ⟨el.toArray⟩, .int .i64 tn, .int .i64 tu, .int .i64 tr] 128))
      have HBX := Lib.hid (ext_trans HB.out HX.out)
      by_cases hf : fr ≤ on
      · have HFr := Lib.hid hf
        go_wp2_with fail
        refine (state_any nm wh fr tl el tn tu tr on es (by omega) EA ec _ (HV.out.ext HBX.out)).mono ?_
        rintro e w1 ⟨rfl, hb⟩
        have HB1 := Lib.hid (ext_trans HBX.out hb)
        have HO1 := Lib.hid (own_ext HO.out (ext_trans HX.out hb))
        clear hb c0 c1 c2 c3 c4 c5 c6 c7
        have HT2 := HT.out
        rw [if_pos HFr.out] at HT2
        have HT := Lib.hid HT2
        clear HT2
        generalize (stP ⟨nm, wh, fr, tl, el, tn, tu, tr⟩ es on).1 = s1 at *
        generalize (stP ⟨nm, wh, fr, tl, el, tn, tu, tr⟩ es on).2 = s2 at *
        go_wp2_with (at_builtin; refine wpList_append_own _ rfl _ _ _ rfl w.heap.size 130 i0 _ 11 112 Tryz.underlying65 HI.out HZ0.out HZ1.out HZ2.out rfl (by omega) u9 R.length _ rfl (World.ownsRow.alloc HO1.out _) ⟨w1.heap.size, 0, none⟩ 1 1 (roCells ⟨⟨nm, wh, fr, tl, el, tn, tu, tr⟩, s1, s2, -1⟩) rfl rfl (new_cells w1 (roCells ⟨⟨nm, wh, fr, tl, el, tn, tu, tr⟩, s1, s2, -1⟩) _ _ rfl) (ros_one _) (by simp only [maxLen]; omega) (by omega) (by have := HB1.out.size; simp; omega) ?_; intro v1 w2 hown hg _; obtain ⟨A1, c1, hv1, _⟩ := own_slice hown; subst hv1; have HO2 := Lib.hid hown; have HB2 := Lib.hid (Below.grown (ext_trans HB1.out (ext_alloc w1 _)) hg (by have := HB1.out.size; simp; omega) (fun g hg => (HO1.out.lt g hg).1)); clear hown hg)
        go_roundw
        case rel =>
          refine ⟨k + 1, by go_num, by omega, HB2.out, ?_⟩
          have ho := HO2.out
          show World.ownsRow _ _ _ _ _ _ _
          rw [HT.out, List.flatMap_append, List.length_append]
          simpa using ho
        case measure => simp [intOf] <;> omega
      · have HFr := Lib.hid hf
        have HT2 := HT.out
        rw [if_neg HFr.out, List.append_nil] at HT2
        have HT := Lib.hid HT2
        clear HT2
        go_wp2_with fail
        go_roundw
        case rel =>
          refine ⟨k + 1, by go_num, by omega, HBX.out, ?_⟩
          show World.ownsRow _ _ _ _ _ _ _
          rw [HT.out]
          exact own_ext HO.out HX.out
        case measure => simp [intOf] <;> omega
    · have hcl : ¬ (k : Int) < (l.length : Int) := by omega
      obtain rfl : l.length = k := by omega
      rw [List.take_length] at HO
      have hbl := base_len l es on
      have HBM := Lib.hid (fun r (h : r ∈ baseR l es on) => base_mem h)
      obtain ⟨B, hB⟩ : ∃ B, B = baseR l es on := ⟨_, rfl⟩
      rw [← hB] at HO hbl HBM
      have HBe := Lib.hid hB
      clear hB
      obtain ⟨A0, c0, rfl, hc1, hc2⟩ := own_slice HO.out
      have HOF := Lib.hid (own_off HO.out)
      have HR0 := Lib.hid (Rd.of_own HO.out)
      have hBn : B.length ≤ 9223372036854775807 := by omega
      go_wp2_with fail
      go_loopw [9, 38] (fun s9 s38 wi => ∃ (k : Nat) (more : List Ro), s38 = .int .i64 k ∧ k ≤ B.length ∧ more.length ≤ k ∧ Hid (Below w.heap.size w wi) ∧ Hid (wi.ownsRow w.heap.size 130 11 s9 (B.length + more.length) ((B ++ more).flatMap roCells)) ∧ Hid (Rd wi A0 (B.flatMap roCells)) ∧ Hid (∀ r ∈ more, 0 ≤ r.of) ∧ Hid ((∀ x ∈ l, x.els = []) → more = [])) (fun _ s38 _ => B.length - (intOf s38).toNat)
      case atStart => exact ⟨0, [], rfl, Nat.zero_le _, Nat.zero_le _, HB.out, by show World.ownsRow _ _ _ _ _ _ _; simpa using HO.out, HR0.out, by show ∀ _, _; simp, fun _ => rfl⟩
      case round =>
        clear HB HO HR0 hk hcl hlt
        obtain ⟨k, more, rfl, hk, hm, HB, HO, HR, HM, HN⟩ := hrel
        by_cases hlt : k < B.length
        · have hcl : (k : Int) < (B.length : Int) := by omega
          obtain ⟨b, o, rfl, hd, c8, c9, c10⟩ := ro_at HR.out hlt
          have HMl := Lib.hid (HBM.out _ (List.getElem_mem hlt))
          generalize B[k] = r at hd c8 c9 c10 HMl
          obtain ⟨⟨nm, wh, fr, tl, el, tn, tu, tr⟩, rs, rd, ro⟩ := r
          obtain ⟨c0, c1, c2, c3, c4, c5, c6, c7⟩ := hd
          simp only at c0 c1 c2 c3 c4 c5 c6 c7 c8 c9 c10 HMl
          have htl : Gd tl := (HVO.out.2 _ (show (⟨nm, wh, fr, tl, el, tn, tu, tr⟩ : Dt) ∈ l.take l.length by rw [List.take_length]; exact HMl.out)).2.1
          have ht1 := htl.1
          have ht2 := htl.2
          clear htl
          have hx1 := ext_alloc wr (.cells #[.string ⟨nm.toArray⟩, .string ⟨wh.toArray⟩, .int .i64 fr, .int .i64 tl, .string ⟨el.toArray⟩, .int .i64 tn, .int .i64 tu, .int .i64 tr, .int .i64 rs, .int .i64 rd, .int .i64 ro] 130)
          have HX := Lib.hid (ext_trans hx1 (ext_alloc (wr.alloc (.cells #[.string ⟨nm.toArray⟩, .string ⟨wh.toArray⟩, .int .i64 fr, .int .i64 tl, .string ⟨el.toArray⟩, .int .i64 tn, .int .i64 tu, .int .i64 tr, .int .i64 rs, .int .i64 rd, .int .i64 ro] 130)) (.cells #[.string ⟨nm.toArray⟩, .string ⟨wh.toArray⟩, .int .i64 fr, .int .i64 tl, .string ⟨el.toArray⟩, .int .i64 tn, .int .i64 tu, .int .i64 tr] 128)))
          have HK := Lib.hid (show Blk ((wr.alloc (.cells #[.string ⟨nm.toArray⟩, .string ⟨wh.toArray⟩, .int .i64 fr, .int .i64 tl, .string ⟨el.toArray⟩, .int .i64 tn, .int .i64 tu, .int .i64 tr, .int .i64 rs, .int .i64 rd, .int .i64 ro] 130)).alloc (.cells #[.string ⟨nm.toArray⟩, .string ⟨wh.toArray⟩, .int .i64 fr, .int .i64 tl, .string ⟨el.toArray⟩, .int .i64 tn, .int .i64 tu, .int .i64 tr] 128)) (wr.heap.size + 1) 128 [.string ⟨nm.toArray⟩, .string ⟨wh.toArray⟩, .int .i64 fr, .int .i64 tl, .string ⟨el.toArray⟩, .int .i64 tn, .int .i64 tu, .int .i64 tr] by simpa using Blk.new (wr.alloc (.cells #[.string ⟨nm.toArray⟩, .string ⟨wh.toArray⟩, .int .i64 fr, .int .i64 tl, .string ⟨el.toArray⟩, .int .i64 tn, .int .i64 tu, .int .i64 tr, .int .i64 rs, .int .i64 rd, .int .i64 ro] 130)) 128 [.string ⟨nm.toArray⟩, .string ⟨wh.toArray⟩, .int .i64 fr, .int .i64 tl, .string ⟨el.toArray⟩, .int .i64 tn, .int .i64 tu, .int .i64 tr])
          clear hx1
          go_upto_region 12 with fail
          go_cut [64] (fun s64 wx => (wr.alloc (.cells #[.string ⟨nm.toArray⟩, .string ⟨wh.toArray⟩, .int .i64 fr, .int .i64 tl, .string ⟨el.toArray⟩, .int .i64 tn, .int .i64 tu, .int .i64 tr, .int .i64 rs, .int .i64 rd, .int .i64 ro] 130)).alloc (.cells #[.string ⟨nm.toArray⟩, .string ⟨wh.toArray⟩, .int .i64 fr, .int .i64 tl, .string ⟨el.toArray⟩, .int .i64 tn, .int .i64 tu, .int .i64 tr] 128) = wx ∧ ∃ q : Bool, s64 = .bool q ∧ Hid (q = false → el ≠ []))
          case first =>
            by_cases z3 : rs = 3
            · subst z3
              cases el with
              | nil =>
                go_wp2_with fail
                go_meet
                exact ⟨rfl, _, rfl, fun h => by cases h⟩
              | cons e0 er =>
                by_cases z : on < tl + 1
                · go_wp2_with fail
                  go_meet
                  exact ⟨rfl, _, rfl, fun _ => by simp⟩
                · go_wp2_with fail
                  go_meet
                  exact ⟨rfl, _, rfl, fun _ => by simp⟩
            · have q3 : (rs == 3) = false := by rw [beq_eq_false_iff_ne]; exact z3
              by_cases z2 : rs = 2
              · subst z2
                cases el with
                | nil =>
                  go_wp2_with fail
                  go_meet
                  exact ⟨rfl, _, rfl, fun h => by cases h⟩
                | cons e0 er =>
                  by_cases z : on < tl + 1
                  · go_wp2_with fail
                    go_meet
                    exact ⟨rfl, _, rfl, fun _ => by simp⟩
                  · go_wp2_with fail
                    go_meet
                    exact ⟨rfl, _, rfl, fun _ => by simp⟩
              · have q2 : (rs == 2) = false := by rw [beq_eq_false_iff_ne]; exact z2
                go_wp2_with fail
                go_meet
                exact ⟨rfl, _, rfl, fun h => by cases h⟩
          case rest =>
            obtain ⟨hww, q, rfl, HQ⟩ := hcut
            subst hww
            have HBX := Lib.hid (ext_trans HB.out HX.out)
            clear c0 c1 c2 c3 c4 c5 c6 c7 c8 c9 c10
            have x0 := HK.out.cell 0 rfl
            have x1 := HK.out.cell 1 rfl
            have x2 := HK.out.cell 2 rfl
            have x3 := HK.out.cell 3 rfl
            have x4 := HK.out.cell 4 rfl
            have x5 := HK.out.cell 5 rfl
            have x6 := HK.out.cell 6 rfl
            have x7 := HK.out.cell 7 rfl
            cases q
            · have HNE := Lib.hid (HQ.out rfl)
              clear HQ
              go_wp2_with fail
              refine (pdue_any c HOK.out cb co H hc (tl + 1) tn tu tr A _ (HC.out.ext HBX.out) (HE.out.below HBX.out)).mono ?_
              rintro e w4 ⟨⟨o1, o2⟩, _, rfl, hb4⟩
              have HK4 := Lib.hid (Sol.blk_ext HK.out hb4)
              have HX4 := Lib.hid (ext_trans HX.out hb4)
              have HB4 := Lib.hid (ext_trans HB.out HX4.out)
              clear hb4 x0 x1 x2 x3 x4 x5 x6 x7
              have x0 := HK4.out.cell 0 rfl
              have x1 := HK4.out.cell 1 rfl
              have x2 := HK4.out.cell 2 rfl
              have x3 := HK4.out.cell 3 rfl
              have x4 := HK4.out.cell 4 rfl
              have x5 := HK4.out.cell 5 rfl
              have x6 := HK4.out.cell 6 rfl
              have x7 := HK4.out.cell 7 rfl
              generalize errC A o2 = ev
              go_wp2_with fail
              refine (state_any el wh (tl + 1) o1 [] 0 0 0 on es (by omega) EA ec _ (HV.out.ext HB4.out)).mono ?_
              rintro e w5 ⟨rfl, hb5⟩
              have HX5 := Lib.hid (ext_trans HX4.out hb5)
              have HB5 := Lib.hid (ext_trans HB.out HX5.out)
              clear hb5 x0 x1 x2 x3 x4 x5 x6 x7
              generalize (stP ⟨el, wh, tl + 1, o1, [], 0, 0, 0⟩ es on).1 = s1 at *
              generalize (stP ⟨el, wh, tl + 1, o1, [], 0, 0, 0⟩ es on).2 = s2 at *
              have HX6 := Lib.hid (show Below wr.heap.size wr (w5.alloc (.cells #[.string ⟨el.toArray⟩, .string ⟨wh.toArray⟩, .int .i64 (tl + 1), .int .i64 o1, .string ⟨#[]⟩, .int .i64 0, .int .i64 0, .int .i64 0, .int .i64 s1, .int .i64 s2, .int .i64 k] 130)) from ext_trans HX5.out (ext_alloc w5 _))
              have HB6 := Lib.hid (ext_trans HB.out HX6.out)
              have HO6 := Lib.hid (own_ext HO.out HX6.out)
              have HR6 := Lib.hid (HR.out.ext HX6.out)
              go_wp2_with (at_builtin; refine wpList_append_keep _ rfl _ _ _ rfl w.heap.size 130 i0 _ 11 112 Tryz.underlying65 HI.out HZ0.out HZ1.out HZ2.out rfl (by omega) u9 (B.length + more.length) _ rfl (World.ownsRow.alloc HO6.out _) ⟨w5.heap.size + 1, 0, none⟩ 1 1 (roCells ⟨⟨el, wh, tl + 1, o1, [], 0, 0, 0⟩, s1, s2, k⟩) rfl rfl (new_cells (w5.alloc (.cells #[.string ⟨el.toArray⟩, .string ⟨wh.toArray⟩, .int .i64 (tl + 1), .int .i64 o1, .string ⟨#[]⟩, .int .i64 0, .int .i64 0, .int .i64 0, .int .i64 s1, .int .i64 s2, .int .i64 k] 130)) (roCells ⟨⟨el, wh, tl + 1, o1, [], 0, 0, 0⟩, s1, s2, k⟩) _ _ (by simp)) (ros_one _) (by simp only [maxLen]; omega) (by omega) (by have := HB6.out.size; simp at this ⊢; omega) ?_; intro v1 w7 hown hg hkp; obtain ⟨A1, c1, hv1, _⟩ := own_slice hown; subst hv1; have HO7 := Lib.hid hown; have HB7 := Lib.hid (Below.grown (ext_trans HB6.out (ext_alloc (w5.alloc (.cells #[.string ⟨el.toArray⟩, .string ⟨wh.toArray⟩, .int .i64 (tl + 1), .int .i64 o1, .string ⟨#[]⟩, .int .i64 0, .int .i64 0, .int .i64 0, .int .i64 s1, .int .i64 s2, .int .i64 k] 130)) _)) hg (by have := HB6.out.size; simp at this ⊢; omega) (fun g hg => (HO6.out.lt g hg).1)); have HR7 := Lib.hid (rd_keep List.flatMap_append (HR6.out.ext (ext_alloc (w5.alloc (.cells #[.string ⟨el.toArray⟩, .string ⟨wh.toArray⟩, .int .i64 (tl + 1), .int .i64 o1, .string ⟨#[]⟩, .int .i64 0, .int .i64 0, .int .i64 0, .int .i64 s1, .int .i64 s2, .int .i64 k] 130)) _)) HOF.out hg hkp); clear hown hg hkp)
              go_roundw
              case rel =>
                refine ⟨k + 1, more ++ [⟨⟨el, wh, tl + 1, o1, [], 0, 0, 0⟩, s1, s2, k⟩], by go_num, by omega, by simp; omega, HB7.out, ?_, HR7.out, ?_, ?_⟩
                · have ho := HO7.out
                  show World.ownsRow _ _ _ _ _ _ _
                  have e1 : B.length + (more ++ [(⟨⟨el, wh, tl + 1, o1, [], 0, 0, 0⟩, s1, s2, k⟩ : Ro)]).length = B.length + more.length + 1 := by rw [List.length_append]; rfl
                  have e2 : (B ++ (more ++ [(⟨⟨el, wh, tl + 1, o1, [], 0, 0, 0⟩, s1, s2, k⟩ : Ro)])).flatMap roCells = (B ++ more).flatMap roCells ++ roCells ⟨⟨el, wh, tl + 1, o1, [], 0, 0, 0⟩, s1, s2, k⟩ := by rw [← List.append_assoc, List.flatMap_append]; simp
                  rw [e1, e2]
                  exact ho
                · intro r hr
                  rcases List.mem_append.1 hr with hr | hr
                  · exact HM.out r hr
                  · simp at hr; rw [hr]; simp
                · exact fun h => absurd (h _ HMl.out) HNE.out
              case measure => simp [intOf] <;> omega
            · clear HQ x0 x1 x2 x3 x4 x5 x6 x7
              go_wp2_with fail
              go_roundw
              case rel => exact ⟨k + 1, more, by go_num, by omega, by omega, HBX.out, own_ext HO.out HX.out, HR.out.ext HX.out, HM.out, HN.out⟩
              case measure => simp [intOf] <;> omega
        · have hcl : ¬ (k : Int) < (B.length : Int) := by omega
          obtain ⟨A1, c1, rfl, _, _⟩ := own_slice HO.out
          go_wp2_with fail
          go_ret
          show StPost l es on w _ _
          unfold StPost
          rw [← HBe.out]
          exact ⟨A1, c1, more, rfl, Rd.of_own HO.out, HM.out, HN.out, by omega, HB.out⟩
end Go.Proofs.YtcpcejmlnhflpaaGreatDoor.Dut
namespace Go.Proofs.YtcpcejmlnhflpaaGreatDoor.Dut
open Go.RowKit Mem Nest Sol App CdP CdM Solve Err

def dtEq (x y : Dt) : Bool := x.name == y.name && (x.who == y.who && (x.fr == y.fr && (x.till == y.till && (x.els == y.els && (x.n == y.n && (x.u == y.u && x.r == y.r))))))
theorem dtEq_iff (x y : Dt) : dtEq x y = true ↔ x = y := by
  obtain ⟨a, b, c, d, e, f, g, h⟩ := x
  obtain ⟨a', b', c', d', e', f', g', h'⟩ := y
  simp [dtEq]
set_option maxHeartbeats 2000000 in
theorem duty_eql (nm wh : List UInt8) (fr tl : Int) (el : List UInt8) (tn tu tr : Int) (nm' wh' : List UInt8) (fr' tl' : Int) (el' : List UInt8) (tn' tu' tr' : Int) (w : World) :
    (binOp .eql 128 (.agg #[.string ⟨nm.toArray⟩, .string ⟨wh.toArray⟩, .int .i64 fr, .int .i64 tl, .string ⟨el.toArray⟩, .int .i64 tn, .int .i64 tu, .int .i64 tr]) (.agg #[.string ⟨nm'.toArray⟩, .string ⟨wh'.toArray⟩, .int .i64 fr', .int .i64 tl', .string ⟨el'.toArray⟩, .int .i64 tn', .int .i64 tu', .int .i64 tr'])).run Tryz.prog w = .ok (.bool (dtEq ⟨nm, wh, fr, tl, el, tn, tu, tr⟩ ⟨nm', wh', fr', tl', el', tn', tu', tr'⟩)) w := by
  have u3 := Tryz.underlying3
  have a3 := Tryz.isAgg3
  have z3 := Tryz.sizeOf3
  have u9 := Tryz.underlying9
  have a9 := Tryz.isAgg9
  have z9 := Tryz.sizeOf9
  have uT := Tryz.underlying126
  have aT := Tryz.isAgg126
  have zT := Tryz.sizeOf126
  have hS : Tryz.prog.underlying 128 = some (.struct (Tryz.prog.fieldsOf 128)) := by kernel_rfl
  have hp : Tryz.prog.stoodInHeld 128 = false := by kernel_rfl
  rw [run_eql_struct, show (10000 : Nat) = 9999 + 1 from rfl, run_equalIn_agg w 9999 128 _ _ hS hp]
  simp only [Program.fieldsOf, Tryz.underlying128]
  have hS2 : Tryz.prog.underlying 126 = some (.struct (Tryz.prog.fieldsOf 126)) := by kernel_rfl
  have hp2 : Tryz.prog.stoodInHeld 126 = false := by kernel_rfl
  unfold dtEq
  go_simp
  repeat' split
  all_goals simp [*]
theorem duty_guard (op : BinOp) (a b : Operand) (x y : Array Value) (w : World) : (eqGuard op 128 a b (.agg x) (.agg y)).run Tryz.prog w = .ok () w := run_eqGuard_agg w op _ a b x y (by kernel_rfl)
end Go.Proofs.YtcpcejmlnhflpaaGreatDoor.Dut
namespace Go.Proofs.YtcpcejmlnhflpaaGreatDoor.Dut
open Go.RowKit Mem Nest Sol App CdP CdM Solve Err

/-- what States comes to -/
def SsPost (l : List Dt) (es : List Ev) (on : Int) (w : World) (e : Ending) (w' : World) : Prop :=
  ((∃ a, e = .returned (.tuple #[.slice none 0 0, errV a]) ∧ ¬ Easy l es on) ∨
   ∃ (A : Option Addr) (c : Nat) (more : List Ro), e = .returned (.tuple #[.slice A ((baseR l es on).length + more.length) c, .nilIface]) ∧ Rd w' A ((baseR l es on ++ more).flatMap roCells) ∧ (∀ r ∈ more, 0 ≤ r.of) ∧ ((∀ x ∈ l, x.els = []) → more = []) ∧ more.length ≤ l.length ∧ VOk l on l.length ∧ l.length ≤ 200) ∧ Below w.heap.size w w'
def noCd : Cd := ⟨[false, false, false, false, false, false, false], [], rfl⟩
theorem noCd_ok : CdOk noCd := ⟨by simp [noCd], by simp [noCd]⟩
def ZC : Array Value := #[.bool false, .bool false, .bool false, .bool false, .bool false, .bool false, .bool false, .slice none 0 0]
theorem noCd_at (w : World) (T : TypeId) : CdA (w.alloc (.cells #[.bool false, .bool false, .bool false, .bool false, .bool false, .bool false, .bool false, .slice none 0 0] T)) w.heap.size 0 noCd none 0 := by
  have h := Blk.new w T [.bool false, .bool false, .bool false, .bool false, .bool false, .bool false, .bool false, .slice none 0 0]
  refine ⟨fun j hj => ?_, h.cell 7 rfl, Rd.nil⟩
  rw [Nat.zero_add]
  have : j = 0 ∨ j = 1 ∨ j = 2 ∨ j = 3 ∨ j = 4 ∨ j = 5 ∨ j = 6 := by omega
  rcases this with rfl | rfl | rfl | rfl | rfl | rfl | rfl
  · exact h.cell 0 rfl
  · exact h.cell 1 rfl
  · exact h.cell 2 rfl
  · exact h.cell 3 rfl
  · exact h.cell 4 rfl
  · exact h.cell 5 rfl
  · exact h.cell 6 rfl
set_option maxRecDepth 100000 in
set_option maxHeartbeats 4000000 in
theorem states_ret (l : List Dt) (hl : l.length ≤ 1000) (es : List Ev) (he : es.length ≤ 1000) (on : Int) (A : Nat → Addr) (LA EA : Option Addr) (lc ec : Nat) (w : World)
    (hd : Rd w LA (l.flatMap dtCells)) (hv : Rd w EA (es.flatMap evCells)) (hE : E3 w A) :
    Calls Tryz.prog 19 #[.slice LA l.length lc, .slice EA es.length ec, .pointer none, .int .i64 on] w (SsPost l es on w) := by
  have HX := Lib.hid (ext_alloc w (.cells #[.bool false, .bool false, .bool false, .bool false, .bool false, .bool false, .bool false, .slice none 0 0] 136))
  have HD := Lib.hid (hd.ext HX.out)
  have HV := Lib.hid (hv.ext HX.out)
  have HE := Lib.hid (hE.below HX.out)
  have HC := Lib.hid (noCd_at w 136)
  clear hd hv hE
  go_enter Tryz.func19, Tryz.ntmps19
  go_wp2_with fail
  refine (dvalid_any l hl es he noCd noCd_ok w.heap.size 0 none 0 on A LA EA lc ec _ HD.out HV.out HC.out HE.out).mono ?_
  rintro e w2 ⟨⟨v, rfl, hv⟩, hb⟩
  have HB := Lib.hid hb
  clear hb
  rcases hv with ⟨rfl, hl2, he2, hok⟩ | ⟨⟨a, rfl⟩, hne⟩
  · have HOK := Lib.hid hok
    clear hok
    go_wp2_with fail
    refine (dstates_any l hl es he noCd noCd_ok w.heap.size 0 none 0 on A LA EA lc ec _ (HD.out.ext HB.out) (HV.out.ext HB.out) (HC.out.ext HB.out) (HE.out.below HB.out) HOK.out).mono ?_
    rintro e w3 ⟨A1, c1, more, rfl, hr, hm, hn, hml, hb3⟩
    have HR := Lib.hid hr
    have HM := Lib.hid hm
    have HN := Lib.hid hn
    have HB3 := Lib.hid (ext_trans HX.out (ext_trans HB.out hb3))
    clear hr hm hn hb3
    go_wp2_with fail
    refine bodyPost_ret (v := .tuple #[.slice A1 ((baseR l es on).length + more.length) c1, .nilIface]) (by simp [results, Tryz.results19, go_sem]) rfl ?_
    exact ⟨.inr ⟨A1, c1, more, rfl, HR.out, HM.out, HN.out, hml, HOK.out, hl2⟩, HB3.out⟩
  · have HNE := Lib.hid hne
    clear hne
    unfold errV
    go_wp2_with fail
    refine bodyPost_ret (v := .tuple #[.slice none 0 0, errV a]) (by simp [results, Tryz.results19, go_sem, errV]) rfl ?_
    exact ⟨.inl ⟨a, rfl, HNE.out⟩, ext_trans HX.out HB.out⟩
def dueD : Dt := ⟨[97], [], 1, 2, [], 0, 0, 0⟩
theorem dueD_easy : Easy [dueD] [] 5 := by
  refine ⟨rfl, by simp, ⟨⟨by omega, by omega⟩, ?_⟩, ?_⟩
  · intro x hx
    simp at hx
    subst hx
    exact ⟨⟨by simp [dueD], by simp [dueD]⟩, ⟨by simp [dueD], by simp [dueD]⟩, by simp [dueD]⟩
  · intro x hx
    simp at hx
    subst hx
    rfl
theorem dueD_base : baseR [dueD] [] 5 = [⟨dueD, 3, 3, -1⟩] := by
  simp [baseR, dueD, stP, firstP, wrap64]
set_option maxRecDepth 100000 in
set_option maxHeartbeats 4000000 in
theorem due_any (A : Nat → Addr) (w : World) (hE : E3 w A) : Calls Tryz.prog 16 #[] w fun e w' => e = .returned (.bool true) ∧ Below w.heap.size w w' := by
  have hX := ext_alloc w (.cells #[.string ⟨#[97]⟩, .string ⟨#[]⟩, .int .i64 1, .int .i64 2, .string ⟨#[]⟩, .int .i64 0, .int .i64 0, .int .i64 0] 128)
  have HX := Lib.hid hX
  have HE := Lib.hid (hE.below hX)
  have HR := Lib.hid (show Rd (w.alloc (.cells #[.string ⟨#[97]⟩, .string ⟨#[]⟩, .int .i64 1, .int .i64 2, .string ⟨#[]⟩, .int .i64 0, .int .i64 0, .int .i64 0] 128)) (some ⟨w.heap.size, 0, none⟩) ([dueD].flatMap dtCells) from
    fun j u hj => ⟨w.heap.size, 0, rfl, by rw [Nat.zero_add]; exact (Blk.new w 128 ([dueD].flatMap dtCells)).cell j hj⟩)
  clear hE hX
  go_enter Tryz.func16, Tryz.ntmps16
  go_wp2_with fail
  refine (states_ret [dueD] (by simp) [] (by simp) 5 A (some ⟨w.heap.size, 0, none⟩) none 1 0 _ HR.out Rd.nil HE.out).mono ?_
  rintro e w2 ⟨h | ⟨A1, c1, more, rfl, hr, _, hn, _, _⟩, hb⟩
  · obtain ⟨a, _, h⟩ := h
    exact absurd dueD_easy h
  · have hn := hn dueD_easy.2.2.2
    subst hn
    rw [List.append_nil, dueD_base] at hr
    obtain ⟨b, o, rfl, _, c8, _, _⟩ := ro_at hr (k := 0) (by simp)
    simp only [Nat.zero_mul, Nat.add_zero, List.getElem_cons_zero] at c8
    have hl1 : (baseR [dueD] [] 5).length = 1 := by rw [dueD_base]; rfl
    simp only [hl1, List.length_nil, Nat.add_zero]
    have HB := Lib.hid (ext_trans HX.out hb)
    clear hb hr hl1
    go_wp2_with fail
    go_ret
    exact ⟨rfl, HB.out⟩
def NearPost (l : List Dt) (es : List Ev) (w : World) (e : Ending) (w' : World) : Prop := (∃ b : Bool, e = .returned (.bool b) ∧ (b = true → l.length ≤ 202 ∧ es.length ≤ 402)) ∧ Below w.heap.size w w'
set_option maxRecDepth 100000 in
set_option maxHeartbeats 4000000 in
theorem near_any (l : List Dt) (es : List Ev) (on : Int) (LA EA : Option Addr) (lc ec : Nat) (hl : l.length ≤ 9223372036854775807) (he : es.length ≤ 9223372036854775807) (w : World) (hd : Rd w LA (l.flatMap dtCells)) :
    Calls Tryz.prog 17 #[.slice LA l.length lc, .slice EA es.length ec, .int .i64 on] w (NearPost l es w) := by
  have HD := Lib.hid hd
  clear hd
  go_enter Tryz.func17, Tryz.ntmps17
  by_cases n1 : (202 : Int) < (l.length : Int)
  · go_wp2_with fail
    go_ret
    exact ⟨⟨_, rfl, fun h => by cases h⟩, Below.refl _ _⟩
  · by_cases n2 : (402 : Int) < (es.length : Int)
    · go_wp2_with fail
      go_ret
      exact ⟨⟨_, rfl, fun h => by cases h⟩, Below.refl _ _⟩
    · have hmul : (0 : Int) ≤ (l.length : Int) * (es.length : Int) ∧ (l.length : Int) * (es.length : Int) ≤ 81204 := ⟨Int.mul_nonneg (by omega) (by omega), by
        have h := Int.mul_le_mul (show (l.length : Int) ≤ 202 by omega) (show (es.length : Int) ≤ 402 by omega) (by omega) (by omega)
        omega⟩
      have hm1 := hmul.1
      have hm2 := hmul.2
      clear hmul
      go_wp2_with fail
      go_loopw [7] (fun s7 wr => ∃ k : Nat, s7 = .int .i64 k ∧ k ≤ l.length ∧ Hid (Below w.heap.size w wr)) (fun s7 _ => l.length - (intOf s7).toNat)
      case atStart => exact ⟨0, rfl, Nat.zero_le _, Below.refl _ _⟩
      case round =>
        obtain ⟨k, rfl, hk, HB⟩ := hrel
        by_cases hlt : k < l.length
        · have hcl : (k : Int) < (l.length : Int) := by omega
          obtain ⟨b, o, rfl, hd⟩ := dt_at (HD.out.ext HB.out) hlt
          generalize l[k] = x at hd
          obtain ⟨nm, wh, fr, tl, el, tn, tu, tr⟩ := x
          obtain ⟨c0, c1, c2, c3, c4, c5, c6, c7⟩ := hd
          simp only at c0 c1 c2 c3 c4 c5 c6 c7
          go_upto_region 6 with fail
          go_cut [66] (fun s66 wx => wr = wx ∧ ∃ q : Bool, s66 = .bool q)
          case first =>
            by_cases p1 : (1500 : Int) < wrap64 (on - fr)
            · go_wp2_with fail
              go_meet
              exact ⟨rfl, _, rfl⟩
            · by_cases p2 : (1099511627776 : Int) < wrap64 (fr - on)
              · go_wp2_with fail
                go_meet
                exact ⟨rfl, _, rfl⟩
              · by_cases p3 : tu = 1
                · subst p3
                  by_cases p4 : 1500 < tn
                  · by_cases p5 : tn ≤ 100000
                    · go_wp2_with fail
                      go_meet
                      exact ⟨rfl, _, rfl⟩
                    · go_wp2_with fail
                      go_meet
                      exact ⟨rfl, _, rfl⟩
                  · go_wp2_with fail
                    go_meet
                    exact ⟨rfl, _, rfl⟩
                · have q3 : (tu == 1) = false := by rw [beq_eq_false_iff_ne]; exact p3
                  go_wp2_with fail
                  go_meet
                  exact ⟨rfl, _, rfl⟩
          case rest =>
            obtain ⟨rfl, q, rfl⟩ := hcut
            cases q
            · go_upto_region 8 with fail
              go_cut [87] (fun s87 wx => Hid (Below wr.heap.size wr wx) ∧ ∃ q : Bool, s87 = .bool q)
              case first =>
                go_quiet (fail)
                go_wp2_with fail
                go_meet
                exact ⟨ext_drewN wr nq, _, rfl⟩
              case rest =>
                obtain ⟨HBr, q, rfl⟩ := hcut
                have HB2 := Lib.hid (ext_trans HB.out HBr.out)
                cases q
                · go_wp2_with fail
                  go_roundw
                  case rel => exact ⟨k + 1, by go_num, by omega, HB2.out⟩
                  case measure => simp [intOf] <;> omega
                · go_wp2_with fail
                  go_ret
                  exact ⟨⟨_, rfl, fun h => by cases h⟩, HB2.out⟩
            · go_wp2_with fail
              go_ret
              exact ⟨⟨_, rfl, fun h => by cases h⟩, HB.out⟩
        · have hcl : ¬ (k : Int) < (l.length : Int) := by omega
          go_wp2_with fail
          go_ret
          exact ⟨⟨_, rfl, fun _ => ⟨by omega, by omega⟩⟩, HB.out⟩
end Go.Proofs.YtcpcejmlnhflpaaGreatDoor.Dut

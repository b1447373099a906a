/- The law's copies of duties and events; the first event of a kind; how a duty stands. -/
import Derived.Test.YtjnkcpeicocjhaaDoorDuM
import Derived.Test.YtjnkcpeicocjhaaDoorApp2
import Derived.Deep.Quiet
import Derived.Deep.QuietTactic
import Derived.BigQuiet
import Derived.Deep.RegionHeld3
import Derived.StillTailTactics
import Derived.IntWalk
namespace Go.Proofs.YtjnkcpeicocjhaaDoor.Dut
open Go.RowKit Mem Nest Sol App

theorem duty_any (nm wh : List UInt8) (fr tl : Int) (el : List UInt8) (tn tu tr : Int) (w : World) :
    Calls Tryd.prog 37 #[.agg #[.string ⟨nm.toArray⟩, .string ⟨wh.toArray⟩, .int .i64 fr, .int .i64 tl, .string ⟨el.toArray⟩, .int .i64 tn, .int .i64 tu, .int .i64 tr]] w fun e w' => e = .returned (.agg #[.string ⟨nm.toArray⟩, .string ⟨wh.toArray⟩, .int .i64 fr, .int .i64 tl, .string ⟨el.toArray⟩, .int .i64 tn, .int .i64 tu, .int .i64 tr]) ∧ Below w.heap.size w w' := by
  go_enter Tryd.func37, Tryd.ntmps37
  go_wp2_with fail
  refine bodyPost_ret (v := .agg #[.string ⟨nm.toArray⟩, .string ⟨wh.toArray⟩, .int .i64 fr, .int .i64 tl, .string ⟨el.toArray⟩, .int .i64 tn, .int .i64 tu, .int .i64 tr]) (by simp [results, Tryd.results37, go_sem]) rfl ⟨rfl, ext_trans (ext_alloc _ _) (ext_alloc _ _)⟩
def SlPost (cells : List Value) (n : Nat) (w : World) (e : Ending) (w' : World) : Prop := ∃ (A : Option Addr) (c : Nat), e = .returned (.slice A n c) ∧ Rd w' A cells ∧ n ≤ c ∧ c ≤ maxLen ∧ Below w.heap.size w w'
set_option maxRecDepth 100000 in
set_option maxHeartbeats 1000000 in
theorem dutiesOf_any (l : List Dt) (hl : l.length ≤ 1000) (LA : Option Addr) (lc : Nat) (w : World) (h : Rd w LA (l.flatMap dtCells)) :
    Calls Tryd.prog 10 #[.slice LA l.length lc] w (SlPost (l.flatMap dtCells) l.length w) := by
  have H := Lib.hid h
  obtain ⟨i0, hi, hz0, hz1, hz2⟩ := info_parts duty_info
  have HI := Lib.hid hi
  have HZ0 := Lib.hid hz0
  have HZ1 := Lib.hid hz1
  have HZ2 := Lib.hid hz2
  clear h hi hz0 hz1 hz2
  go_enter Tryd.func10, Tryd.ntmps10
  go_wp2_with fail
  go_loopw [3, 4] (fun t3 t4 wr => ∃ j : Nat, t4 = .int .i64 j ∧ j ≤ l.length ∧ Hid (Below w.heap.size w wr) ∧ Hid (wr.ownsRow w.heap.size 38 8 t3 j ((l.take j).flatMap dtCells))) (fun _ t4 _ => l.length - (intOf t4).toNat)
  case atStart => exact ⟨0, rfl, Nat.zero_le _, Below.refl _ _, World.ownsRow_nil _ _ _ _⟩
  case round =>
    obtain ⟨j, rfl, hj, HB, HO⟩ := hrel
    by_cases hlt : j < l.length
    · have hcl : (j : Int) < (l.length : Int) := by omega
      obtain ⟨b, o, rfl, hd⟩ := dt_at (H.out.ext HB.out) hlt
      obtain ⟨x, hx⟩ : ∃ x, x = l[j] := ⟨_, rfl⟩
      rw [← hx] at hd
      have HX := Lib.hid hx
      clear hx
      obtain ⟨nm, wh, fr, tl, el, tn, tu, tr⟩ := x
      obtain ⟨c0, c1, c2, c3, c4, c5, c6, c7⟩ := hd
      simp only at c0 c1 c2 c3 c4 c5 c6 c7
      go_wp2_with fail
      refine (duty_any nm wh fr tl el tn tu tr _).mono ?_
      rintro e w1 ⟨rfl, hb⟩
      have HB1 := Lib.hid (ext_trans HB.out hb)
      have HO1 := Lib.hid (own_ext HO.out hb)
      clear hb c0 c1 c2 c3 c4 c5 c6 c7
      go_wp2_with (at_builtin; refine wpList_append_own _ rfl _ _ _ rfl w.heap.size 38 i0 _ 8 88 Tryd.underlying31 HI.out HZ0.out HZ1.out HZ2.out rfl (by omega) u3 j _ rfl (World.ownsRow.alloc HO1.out _) ⟨w1.heap.size, 0, none⟩ 1 1 (dtCells ⟨nm, wh, fr, tl, el, tn, tu, tr⟩) rfl rfl (new_cells w1 (dtCells ⟨nm, wh, fr, tl, el, tn, tu, tr⟩) _ _ rfl) (dts_one _) (by simp only [maxLen]; omega) (by omega) (by have := HB1.out.size; simp; omega) ?_; intro v1 w2 hown hg _; obtain ⟨A1, c1, hv1, _⟩ := own_slice hown; subst hv1; have HO2 := Lib.hid hown; have HB2 := Lib.hid (Below.grown (ext_trans HB1.out (ext_alloc w1 _)) hg (by have := HB1.out.size; simp; omega) (fun g hg => (HO1.out.lt g hg).1)); clear hown hg)
      go_roundw
      case rel =>
        refine ⟨j + 1, by go_num, by omega, HB2.out, ?_⟩
        have ho := HO2.out
        show World.ownsRow _ _ _ _ _ _ _
        rw [List.take_succ_eq_append_getElem hlt, List.flatMap_append, ← HX.out]
        simpa using ho
      case measure => simp [intOf] <;> omega
    · obtain rfl : l.length = j := by omega
      obtain ⟨A, c, rfl, hc1, hc2⟩ := own_slice HO.out
      go_wp2_with fail
      go_ret
      have h := Rd.of_own HO.out
      rw [List.take_length] at h
      exact ⟨A, c, rfl, h, hc1, hc2, HB.out⟩
/-- what first hands on -/
def FirstPost (x : Dt) (wv : Bool) (on : Int) (es : List Ev) (w : World) (e : Ending) (w' : World) : Prop := e = .returned (.int .i64 (firstP x wv on es)) ∧ Below w.heap.size w w'
set_option maxRecDepth 100000 in
set_option maxHeartbeats 4000000 in
theorem first_any (nm wh : List UInt8) (fr tl : Int) (el : List UInt8) (tn tu tr : Int) (wv : Bool) (on : Int) (es : List Ev) (hl : es.length ≤ 1000) (LA : Option Addr) (lc : Nat) (w : World) (h : Rd w LA (es.flatMap evCells)) :
    Calls Tryd.prog 99 #[.agg #[.string ⟨nm.toArray⟩, .string ⟨wh.toArray⟩, .int .i64 fr, .int .i64 tl, .string ⟨el.toArray⟩, .int .i64 tn, .int .i64 tu, .int .i64 tr], .slice LA es.length lc, .bool wv, .int .i64 on] w (FirstPost ⟨nm, wh, fr, tl, el, tn, tu, tr⟩ wv on es w) := by
  have H := Lib.hid h
  have HX := Lib.hid (ext_alloc w (.cells #[.string ⟨nm.toArray⟩, .string ⟨wh.toArray⟩, .int .i64 fr, .int .i64 tl, .string ⟨el.toArray⟩, .int .i64 tn, .int .i64 tu, .int .i64 tr] 38))
  have hk0 := Blk.new w 38 (dtCells ⟨nm, wh, fr, tl, el, tn, tu, tr⟩)
  obtain ⟨X, hX⟩ : ∃ X : Dt, X = ⟨nm, wh, fr, tl, el, tn, tu, tr⟩ := ⟨_, rfl⟩
  rw [← hX]
  have HK := Lib.hid (show Blk (w.alloc (.cells #[.string ⟨nm.toArray⟩, .string ⟨wh.toArray⟩, .int .i64 fr, .int .i64 tl, .string ⟨el.toArray⟩, .int .i64 tn, .int .i64 tu, .int .i64 tr] 38)) w.heap.size 38 (dtCells X) by rw [hX]; exact hk0)
  clear h hX hk0
  go_enter Tryd.func99, Tryd.ntmps99
  go_wp2_with fail
  go_loopw [9, 14] (fun s9 s14 wr => ∃ k : Nat, s9 = .int .i64 (firstP X wv on (es.take k)) ∧ s14 = .int .i64 k ∧ k ≤ es.length ∧ Hid (Below w.heap.size w wr) ∧ Hid (Blk wr w.heap.size 38 (dtCells X))) (fun _ s14 _ => (es.length - intOf s14).toNat)
  case atStart => exact ⟨0, rfl, rfl, by omega, HX.out, HK.out⟩
  case round =>
    clear HX HK
    obtain ⟨k, rfl, rfl, hk, HB, HK⟩ := hrel
    by_cases hlt : k < es.length
    · have hcl : (k : Int) < (es.length : Int) := by omega
      obtain ⟨b, o, rfl, r0, r1, r2, r3⟩ := ev_at (H.out.ext HB.out) hlt
      have HT := Lib.hid (first_take X wv on es k hlt)
      have HE := Lib.hid (ext_alloc wr (.cells #[.int .i64 es[k].day, .string ⟨es[k].name.toArray⟩, .string ⟨es[k].who.toArray⟩, .bool es[k].wv] 108))
      have HB2 := Lib.hid (ext_trans HB.out HE.out)
      have HK2 := Lib.hid (Sol.blk_ext HK.out HE.out)
      have y0 := HK2.out.cell 0 rfl
      have y1 := HK2.out.cell 1 rfl
      have y2 := HK2.out.cell 2 rfl
      generalize firstP X wv on (es.take k) = d at *
      obtain ⟨E, hE⟩ : ∃ E, E = es[k] := ⟨_, rfl⟩
      rw [← hE] at HT r0 r1 r2 r3 HE HB2 HK2 y0 y1 y2
      clear hE HE
      by_cases p1 : E.name = X.name
      · have HP0 := Lib.hid p1
        have q1 : (E.name == X.name) = true := by rw [p1]; simp
        clear p1
        by_cases p2 : E.who = X.who
        · have HP1 := Lib.hid p2
          have q2 : (E.who == X.who) = true := by rw [p2]; simp
          clear p2
          by_cases p3 : E.wv = wv
          · have HP2 := Lib.hid p3
            have q3 : (E.wv == wv) = true := by rw [p3]; simp
            clear p3
            by_cases p4 : X.fr ≤ E.day
            · have HP3 := Lib.hid p4
              by_cases p5 : E.day ≤ on
              · have HP4 := Lib.hid p5
                by_cases p6 : d = 0
                · have q6 : (d == 0) = true := by rw [p6]; rfl
                  have HH := Lib.hid (show Hit X wv on d E from ⟨HP0.out, HP1.out, HP2.out, p4, p5, .inl p6⟩)
                  subst p6
                  go_wp2_with fail
                  go_roundw
                  case rel =>
                    exact ⟨k + 1, by rw [HT.out, fstep, if_pos HH.out], by simp, by omega, HB2.out, HK2.out⟩
                  case measure => simp [intOf] <;> omega
                · have q6 : (d == 0) = false := by rw [beq_eq_false_iff_ne]; exact p6
                  by_cases p7 : E.day < d
                  · have HH := Lib.hid (show Hit X wv on d E from ⟨HP0.out, HP1.out, HP2.out, p4, p5, .inr p7⟩)
                    go_wp2_with fail
                    go_roundw
                    case rel =>
                      exact ⟨k + 1, by rw [HT.out, fstep, if_pos HH.out], by simp, by omega, HB2.out, HK2.out⟩
                    case measure => simp [intOf] <;> omega
                  · have HH := Lib.hid (show ¬ Hit X wv on d E from fun h => h.2.2.2.2.2.elim p6 p7)
                    go_wp2_with fail
                    go_roundw
                    case rel =>
                      exact ⟨k + 1, by rw [HT.out, fstep, if_neg HH.out], by simp, by omega, HB2.out, HK2.out⟩
                    case measure => simp [intOf] <;> omega
              · have HH := Lib.hid (show ¬ Hit X wv on d E from fun h => p5 h.2.2.2.2.1)
                go_wp2_with fail
                go_roundw
                case rel =>
                  exact ⟨k + 1, by rw [HT.out, fstep, if_neg HH.out], by simp, by omega, HB2.out, HK2.out⟩
                case measure => simp [intOf] <;> omega
            · have HH := Lib.hid (show ¬ Hit X wv on d E from fun h => p4 h.2.2.2.1)
              go_wp2_with fail
              go_roundw
              case rel =>
                exact ⟨k + 1, by rw [HT.out, fstep, if_neg HH.out], by simp, by omega, HB2.out, HK2.out⟩
              case measure => simp [intOf] <;> omega
          · have q3 : (E.wv == wv) = false := by rw [beq_eq_false_iff_ne]; exact p3
            have HH := Lib.hid (show ¬ Hit X wv on d E from fun h => p3 h.2.2.1)
            clear p3
            go_wp2_with fail
            go_roundw
            case rel =>
              exact ⟨k + 1, by rw [HT.out, fstep, if_neg HH.out], by simp, by omega, HB2.out, HK2.out⟩
            case measure => simp [intOf] <;> omega
        · have q2 : (E.who == X.who) = false := by rw [beq_eq_false_iff_ne]; exact p2
          have HH := Lib.hid (show ¬ Hit X wv on d E from fun h => p2 h.2.1)
          clear p2
          go_wp2_with fail
          go_roundw
          case rel =>
            exact ⟨k + 1, by rw [HT.out, fstep, if_neg HH.out], by simp, by omega, HB2.out, HK2.out⟩
          case measure => simp [intOf] <;> omega
      · have q1 : (E.name == X.name) = false := by rw [beq_eq_false_iff_ne]; exact p1
        have HH := Lib.hid (show ¬ Hit X wv on d E from fun h => p1 h.1)
        clear p1
        go_wp2_with fail
        go_roundw
        case rel =>
          exact ⟨k + 1, by rw [HT.out, fstep, if_neg HH.out], by simp, by omega, HB2.out, HK2.out⟩
        case measure => simp [intOf] <;> omega
    · have hcl : ¬ (k : Int) < (es.length : Int) := by omega
      have hk2 : es.take k = es := List.take_of_length_le (by omega)
      rw [hk2]
      clear hk2
      go_wp2_with fail
      go_ret
      exact ⟨rfl, HB.out⟩
end Go.Proofs.YtjnkcpeicocjhaaDoor.Dut

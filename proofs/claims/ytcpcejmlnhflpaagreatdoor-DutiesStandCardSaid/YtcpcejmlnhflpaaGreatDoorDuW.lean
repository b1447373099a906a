/- The law's copies of duties and events; the first event of a kind; how a duty stands. How a duty stands on a day. The law's copies of events; how a duty stands on a day. -/
import Derived.Test.YtcpcejmlnhflpaaGreatDoorDuM
import Derived.Test.YtcpcejmlnhflpaaGreatDoorApp2
import Derived.Deep.Quiet
import Derived.Deep.QuietTactic
import Derived.BigQuiet
import Derived.Deep.RegionHeld3
import Derived.StillTailTactics
import Derived.IntWalk
namespace Go.Proofs.YtcpcejmlnhflpaaGreatDoor.Dut
open Go.RowKit Mem Nest Sol App

theorem duty_any (nm wh : List UInt8) (fr tl : Int) (el : List UInt8) (tn tu tr : Int) (w : World) :
    Calls Tryz.prog 57 #[.agg #[.string ⟨nm.toArray⟩, .string ⟨wh.toArray⟩, .int .i64 fr, .int .i64 tl, .string ⟨el.toArray⟩, .int .i64 tn, .int .i64 tu, .int .i64 tr]] w fun e w' => e = .returned (.agg #[.string ⟨nm.toArray⟩, .string ⟨wh.toArray⟩, .int .i64 fr, .int .i64 tl, .string ⟨el.toArray⟩, .int .i64 tn, .int .i64 tu, .int .i64 tr]) ∧ Below w.heap.size w w' := by
  go_enter Tryz.func57, Tryz.ntmps57
  go_wp2_with fail
  refine bodyPost_ret (v := .agg #[.string ⟨nm.toArray⟩, .string ⟨wh.toArray⟩, .int .i64 fr, .int .i64 tl, .string ⟨el.toArray⟩, .int .i64 tn, .int .i64 tu, .int .i64 tr]) (by simp [results, Tryz.results57, go_sem]) rfl ⟨rfl, ext_trans (ext_alloc _ _) (ext_alloc _ _)⟩
def SlPost (cells : List Value) (n : Nat) (w : World) (e : Ending) (w' : World) : Prop := ∃ (A : Option Addr) (c : Nat), e = .returned (.slice A n c) ∧ Rd w' A cells ∧ n ≤ c ∧ c ≤ maxLen ∧ Below w.heap.size w w'
set_option maxRecDepth 100000 in
set_option maxHeartbeats 1000000 in
theorem dutiesOf_any (l : List Dt) (hl : l.length ≤ 1000) (LA : Option Addr) (lc : Nat) (w : World) (h : Rd w LA (l.flatMap dtCells)) :
    Calls Tryz.prog 20 #[.slice LA l.length lc] w (SlPost (l.flatMap dtCells) l.length w) := by
  have H := Lib.hid h
  obtain ⟨i0, hi, hz0, hz1, hz2⟩ := info_parts duty_info
  have HI := Lib.hid hi
  have HZ0 := Lib.hid hz0
  have HZ1 := Lib.hid hz1
  have HZ2 := Lib.hid hz2
  clear h hi hz0 hz1 hz2
  go_enter Tryz.func20, Tryz.ntmps20
  go_wp2_with fail
  go_loopw [3, 4] (fun t3 t4 wr => ∃ j : Nat, t4 = .int .i64 j ∧ j ≤ l.length ∧ Hid (Below w.heap.size w wr) ∧ Hid (wr.ownsRow w.heap.size 128 8 t3 j ((l.take j).flatMap dtCells))) (fun _ t4 _ => l.length - (intOf t4).toNat)
  case atStart => exact ⟨0, rfl, Nat.zero_le _, Below.refl _ _, World.ownsRow_nil _ _ _ _⟩
  case round =>
    obtain ⟨j, rfl, hj, HB, HO⟩ := hrel
    by_cases hlt : j < l.length
    · have hcl : (j : Int) < (l.length : Int) := by omega
      obtain ⟨b, o, rfl, hd⟩ := dt_at (H.out.ext HB.out) hlt
      obtain ⟨x, hx⟩ : ∃ x, x = l[j] := ⟨_, rfl⟩
      rw [← hx] at hd
      have HX := Lib.hid hx
      clear hx
      obtain ⟨nm, wh, fr, tl, el, tn, tu, tr⟩ := x
      obtain ⟨c0, c1, c2, c3, c4, c5, c6, c7⟩ := hd
      simp only at c0 c1 c2 c3 c4 c5 c6 c7
      go_wp2_with fail
      refine (duty_any nm wh fr tl el tn tu tr _).mono ?_
      rintro e w1 ⟨rfl, hb⟩
      have HB1 := Lib.hid (ext_trans HB.out hb)
      have HO1 := Lib.hid (own_ext HO.out hb)
      clear hb c0 c1 c2 c3 c4 c5 c6 c7
      go_wp2_with (at_builtin; refine wpList_append_own _ rfl _ _ _ rfl w.heap.size 128 i0 _ 8 88 Tryz.underlying68 HI.out HZ0.out HZ1.out HZ2.out rfl (by omega) u3 j _ rfl (World.ownsRow.alloc HO1.out _) ⟨w1.heap.size, 0, none⟩ 1 1 (dtCells ⟨nm, wh, fr, tl, el, tn, tu, tr⟩) rfl rfl (new_cells w1 (dtCells ⟨nm, wh, fr, tl, el, tn, tu, tr⟩) _ _ rfl) (dts_one _) (by simp only [maxLen]; omega) (by omega) (by have := HB1.out.size; simp; omega) ?_; intro v1 w2 hown hg _; obtain ⟨A1, c1, hv1, _⟩ := own_slice hown; subst hv1; have HO2 := Lib.hid hown; have HB2 := Lib.hid (Below.grown (ext_trans HB1.out (ext_alloc w1 _)) hg (by have := HB1.out.size; simp; omega) (fun g hg => (HO1.out.lt g hg).1)); clear hown hg)
      go_roundw
      case rel =>
        refine ⟨j + 1, by go_num, by omega, HB2.out, ?_⟩
        have ho := HO2.out
        show World.ownsRow _ _ _ _ _ _ _
        rw [List.take_succ_eq_append_getElem hlt, List.flatMap_append, ← HX.out]
        simpa using ho
      case measure => simp [intOf] <;> omega
    · obtain rfl : l.length = j := by omega
      obtain ⟨A, c, rfl, hc1, hc2⟩ := own_slice HO.out
      go_wp2_with fail
      go_ret
      have h := Rd.of_own HO.out
      rw [List.take_length] at h
      exact ⟨A, c, rfl, h, hc1, hc2, HB.out⟩
/-- what first hands on -/
def FirstPost (x : Dt) (wv : Bool) (on : Int) (es : List Ev) (w : World) (e : Ending) (w' : World) : Prop := e = .returned (.int .i64 (firstP x wv on es)) ∧ Below w.heap.size w w'
set_option maxRecDepth 100000 in
set_option maxHeartbeats 4000000 in
theorem first_any (nm wh : List UInt8) (fr tl : Int) (el : List UInt8) (tn tu tr : Int) (wv : Bool) (on : Int) (es : List Ev) (hl : es.length ≤ 1000) (LA : Option Addr) (lc : Nat) (w : World) (h : Rd w LA (es.flatMap evCells)) :
    Calls Tryz.prog 123 #[.agg #[.string ⟨nm.toArray⟩, .string ⟨wh.toArray⟩, .int .i64 fr, .int .i64 tl, .string ⟨el.toArray⟩, .int .i64 tn, .int .i64 tu, .int .i64 tr], .slice LA es.length lc, .bool wv, .int .i64 on] w (FirstPost ⟨nm, wh, fr, tl, el, tn, tu, tr⟩ wv on es w) := by
  have H := Lib.hid h
  have HX := Lib.hid (ext_alloc w (.cells #[.string ⟨nm.toArray⟩, .string ⟨wh.toArray⟩, .int .i64 fr, .int .i64 tl, .string ⟨el.toArray⟩, .int .i64 tn, .int .i64 tu, .int .i64 tr] 128))
  have hk0 := Blk.new w 128 (dtCells ⟨nm, wh, fr, tl, el, tn, tu, tr⟩)
  obtain ⟨X, hX⟩ : ∃ X : Dt, X = ⟨nm, wh, fr, tl, el, tn, tu, tr⟩ := ⟨_, rfl⟩
  rw [← hX]
  have HK := Lib.hid (show Blk (w.alloc (.cells #[.string ⟨nm.toArray⟩, .string ⟨wh.toArray⟩, .int .i64 fr, .int .i64 tl, .string ⟨el.toArray⟩, .int .i64 tn, .int .i64 tu, .int .i64 tr] 128)) w.heap.size 128 (dtCells X) by rw [hX]; exact hk0)
  clear h hX hk0
  go_enter Tryz.func123, Tryz.ntmps123
  go_wp2_with fail
  go_loopw [9, 14] (fun s9 s14 wr => ∃ k : Nat, s9 = .int .i64 (firstP X wv on (es.take k)) ∧ s14 = .int .i64 k ∧ k ≤ es.length ∧ Hid (Below w.heap.size w wr) ∧ Hid (Blk wr w.heap.size 128 (dtCells X))) (fun _ s14 _ => (es.length - intOf s14).toNat)
  case atStart => exact ⟨0, rfl, rfl, by omega, HX.out, HK.out⟩
  case round =>
    clear HX HK
    obtain ⟨k, rfl, rfl, hk, HB, HK⟩ := hrel
    by_cases hlt : k < es.length
    · have hcl : (k : Int) < (es.length : Int) := by omega
      obtain ⟨b, o, rfl, r0, r1, r2, r3⟩ := ev_at (H.out.ext HB.out) hlt
      have HT := Lib.hid (first_take X wv on es k hlt)
      have HE := Lib.hid (ext_alloc wr (.cells #[.int .i64 es[k].day, .string ⟨es[k].name.toArray⟩, .string ⟨es[k].who.toArray⟩, .bool es[k].wv] 141))
      have HB2 := Lib.hid (ext_trans HB.out HE.out)
      have HK2 := Lib.hid (Sol.blk_ext HK.out HE.out)
      have y0 := HK2.out.cell 0 rfl
      have y1 := HK2.out.cell 1 rfl
      have y2 := HK2.out.cell 2 rfl
      generalize firstP X wv on (es.take k) = d at *
      obtain ⟨E, hE⟩ : ∃ E, E = es[k] := ⟨_, rfl⟩
      rw [← hE] at HT r0 r1 r2 r3 HE HB2 HK2 y0 y1 y2
      clear hE HE
      by_cases p1 : E.name = X.name
      · have HP0 := Lib.hid p1
        have q1 : (E.name == X.name) = true := by rw [p1]; simp
        clear p1
        by_cases p2 : E.who = X.who
        · have HP1 := Lib.hid p2
          have q2 : (E.who == X.who) = true := by rw [p2]; simp
          clear p2
          by_cases p3 : E.wv = wv
          · have HP2 := Lib.hid p3
            have q3 : (E.wv == wv) = true := by rw [p3]; simp
            clear p3
            by_cases p4 : X.fr ≤ E.day
            · have HP3 := Lib.hid p4
              by_cases p5 : E.day ≤ on
              · have HP4 := Lib.hid p5
                by_cases p6 : d = 0
                · have q6 : (d == 0) = true := by rw [p6]; rfl
                  have HH := Lib.hid (show Hit X wv on d E from ⟨HP0.out, HP1.out, HP2.out, p4, p5, .inl p6⟩)
                  subst p6
                  go_wp2_with fail
                  go_roundw
                  case rel =>
                    exact ⟨k + 1, by rw [HT.out, fstep, if_pos HH.out], by simp, by omega, HB2.out, HK2.out⟩
                  case measure => simp [intOf] <;> omega
                · have q6 : (d == 0) = false := by rw [beq_eq_false_iff_ne]; exact p6
                  by_cases p7 : E.day < d
                  · have HH := Lib.hid (show Hit X wv on d E from ⟨HP0.out, HP1.out, HP2.out, p4, p5, .inr p7⟩)
                    go_wp2_with fail
                    go_roundw
                    case rel =>
                      exact ⟨k + 1, by rw [HT.out, fstep, if_pos HH.out], by simp, by omega, HB2.out, HK2.out⟩
                    case measure => simp [intOf] <;> omega
                  · have HH := Lib.hid (show ¬ Hit X wv on d E from fun h => h.2.2.2.2.2.elim p6 p7)
                    go_wp2_with fail
                    go_roundw
                    case rel =>
                      exact ⟨k + 1, by rw [HT.out, fstep, if_neg HH.out], by simp, by omega, HB2.out, HK2.out⟩
                    case measure => simp [intOf] <;> omega
              · have HH := Lib.hid (show ¬ Hit X wv on d E from fun h => p5 h.2.2.2.2.1)
                go_wp2_with fail
                go_roundw
                case rel =>
                  exact ⟨k + 1, by rw [HT.out, fstep, if_neg HH.out], by simp, by omega, HB2.out, HK2.out⟩
                case measure => simp [intOf] <;> omega
            · have HH := Lib.hid (show ¬ Hit X wv on d E from fun h => p4 h.2.2.2.1)
              go_wp2_with fail
              go_roundw
              case rel =>
                exact ⟨k + 1, by rw [HT.out, fstep, if_neg HH.out], by simp, by omega, HB2.out, HK2.out⟩
              case measure => simp [intOf] <;> omega
          · have q3 : (E.wv == wv) = false := by rw [beq_eq_false_iff_ne]; exact p3
            have HH := Lib.hid (show ¬ Hit X wv on d E from fun h => p3 h.2.2.1)
            clear p3
            go_wp2_with fail
            go_roundw
            case rel =>
              exact ⟨k + 1, by rw [HT.out, fstep, if_neg HH.out], by simp, by omega, HB2.out, HK2.out⟩
            case measure => simp [intOf] <;> omega
        · have q2 : (E.who == X.who) = false := by rw [beq_eq_false_iff_ne]; exact p2
          have HH := Lib.hid (show ¬ Hit X wv on d E from fun h => p2 h.2.1)
          clear p2
          go_wp2_with fail
          go_roundw
          case rel =>
            exact ⟨k + 1, by rw [HT.out, fstep, if_neg HH.out], by simp, by omega, HB2.out, HK2.out⟩
          case measure => simp [intOf] <;> omega
      · have q1 : (E.name == X.name) = false := by rw [beq_eq_false_iff_ne]; exact p1
        have HH := Lib.hid (show ¬ Hit X wv on d E from fun h => p1 h.1)
        clear p1
        go_wp2_with fail
        go_roundw
        case rel =>
          exact ⟨k + 1, by rw [HT.out, fstep, if_neg HH.out], by simp, by omega, HB2.out, HK2.out⟩
        case measure => simp [intOf] <;> omega
    · have hcl : ¬ (k : Int) < (es.length : Int) := by omega
      have hk2 : es.take k = es := List.take_of_length_le (by omega)
      rw [hk2]
      clear hk2
      go_wp2_with fail
      go_ret
      exact ⟨rfl, HB.out⟩
end Go.Proofs.YtcpcejmlnhflpaaGreatDoor.Dut
namespace Go.Proofs.YtcpcejmlnhflpaaGreatDoor.Dut
open Go.RowKit Mem Nest Sol App

set_option maxRecDepth 100000 in
set_option maxHeartbeats 8000000 in
theorem state_any (nm wh : List UInt8) (fr tl : Int) (el : List UInt8) (tn tu tr : Int) (on : Int) (es : List Ev) (hl : es.length ≤ 1000) (LA : Option Addr) (lc : Nat) (w : World) (h : Rd w LA (es.flatMap evCells)) :
    Calls Tryz.prog 90 #[.agg #[.string ⟨nm.toArray⟩, .string ⟨wh.toArray⟩, .int .i64 fr, .int .i64 tl, .string ⟨el.toArray⟩, .int .i64 tn, .int .i64 tu, .int .i64 tr], .slice LA es.length lc, .int .i64 on] w fun e w' => e = .returned (.agg #[.string ⟨nm.toArray⟩, .string ⟨wh.toArray⟩, .int .i64 fr, .int .i64 tl, .string ⟨el.toArray⟩, .int .i64 tn, .int .i64 tu, .int .i64 tr, .int .i64 (stP ⟨nm, wh, fr, tl, el, tn, tu, tr⟩ es on).1, .int .i64 (stP ⟨nm, wh, fr, tl, el, tn, tu, tr⟩ es on).2, .int .i64 (-1)]) ∧ Below w.heap.size w w' := by
  have H := Lib.hid h
  have hx1 := ext_alloc w (.cells #[.string ⟨nm.toArray⟩, .string ⟨wh.toArray⟩, .int .i64 fr, .int .i64 tl, .string ⟨el.toArray⟩, .int .i64 tn, .int .i64 tu, .int .i64 tr] 128)
  have hx2 := ext_alloc (w.alloc (.cells #[.string ⟨nm.toArray⟩, .string ⟨wh.toArray⟩, .int .i64 fr, .int .i64 tl, .string ⟨el.toArray⟩, .int .i64 tn, .int .i64 tu, .int .i64 tr] 128)) (.cells #[.string ⟨#[]⟩, .string ⟨#[]⟩, .int .i64 0, .int .i64 0, .string ⟨#[]⟩, .int .i64 0, .int .i64 0, .int .i64 0, .int .i64 0, .int .i64 0, .int .i64 0] 130)
  have HX := Lib.hid (ext_trans hx1 hx2)
  have HK := Lib.hid (Sol.blk_ext (Blk.new w 128 [.string ⟨nm.toArray⟩, .string ⟨wh.toArray⟩, .int .i64 fr, .int .i64 tl, .string ⟨el.toArray⟩, .int .i64 tn, .int .i64 tu, .int .i64 tr]) hx2)
  have HS := Lib.hid (show Blk ((w.alloc (.cells #[.string ⟨nm.toArray⟩, .string ⟨wh.toArray⟩, .int .i64 fr, .int .i64 tl, .string ⟨el.toArray⟩, .int .i64 tn, .int .i64 tu, .int .i64 tr] 128)).alloc (.cells #[.string ⟨#[]⟩, .string ⟨#[]⟩, .int .i64 0, .int .i64 0, .string ⟨#[]⟩, .int .i64 0, .int .i64 0, .int .i64 0, .int .i64 0, .int .i64 0, .int .i64 0] 130)) (w.heap.size + 1) 130 [.string ⟨#[]⟩, .string ⟨#[]⟩, .int .i64 0, .int .i64 0, .string ⟨#[]⟩, .int .i64 0, .int .i64 0, .int .i64 0, .int .i64 0, .int .i64 0, .int .i64 0] by simpa using Blk.new (w.alloc (.cells #[.string ⟨nm.toArray⟩, .string ⟨wh.toArray⟩, .int .i64 fr, .int .i64 tl, .string ⟨el.toArray⟩, .int .i64 tn, .int .i64 tu, .int .i64 tr] 128)) 130 [.string ⟨#[]⟩, .string ⟨#[]⟩, .int .i64 0, .int .i64 0, .string ⟨#[]⟩, .int .i64 0, .int .i64 0, .int .i64 0, .int .i64 0, .int .i64 0, .int .i64 0])
  obtain ⟨w2, hw2⟩ : ∃ w2, w2 = (w.alloc (.cells #[.string ⟨nm.toArray⟩, .string ⟨wh.toArray⟩, .int .i64 fr, .int .i64 tl, .string ⟨el.toArray⟩, .int .i64 tn, .int .i64 tu, .int .i64 tr] 128)).alloc (.cells #[.string ⟨#[]⟩, .string ⟨#[]⟩, .int .i64 0, .int .i64 0, .string ⟨#[]⟩, .int .i64 0, .int .i64 0, .int .i64 0, .int .i64 0, .int .i64 0, .int .i64 0] 130) := ⟨_, rfl⟩
  rw [← hw2] at HX HK HS
  obtain ⟨X, hX⟩ : ∃ X : Dt, X = ⟨nm, wh, fr, tl, el, tn, tu, tr⟩ := ⟨_, rfl⟩
  rw [← hX]
  have hXf : X.fr = fr ∧ X.till = tl := by rw [hX]; exact ⟨rfl, rfl⟩
  obtain ⟨sp, hsp⟩ : ∃ sp, sp = stP X es on := ⟨_, rfl⟩
  rw [← hsp]
  unfold stP at hsp
  rw [hXf.1, hXf.2] at hsp
  have HSP := Lib.hid hsp
  clear hsp
  have x0 := HK.out.cell 0 rfl
  have x1 := HK.out.cell 1 rfl
  have x2 := HK.out.cell 2 rfl
  have x3 := HK.out.cell 3 rfl
  have x4 := HK.out.cell 4 rfl
  have x5 := HK.out.cell 5 rfl
  have x6 := HK.out.cell 6 rfl
  have x7 := HK.out.cell 7 rfl
  have HC1 := Lib.hid (fun (wq : World) (hq : Below w2.heap.size w2 wq) => first_any nm wh fr tl el tn tu tr false on es hl LA lc wq (H.out.ext (ext_trans HX.out hq)))
  have HC2 := Lib.hid (fun (wq : World) (hq : Below w2.heap.size w2 wq) => first_any nm wh fr tl el tn tu tr true on es hl LA lc wq (H.out.ext (ext_trans HX.out hq)))
  rw [← hX] at HC1 HC2
  have hdr := ext_drewN w2 1
  clear h hx1 hx2 hX hXf
  go_enter Tryz.func90, Tryz.ntmps90
  go_wp2_with fail
  rw [← hw2]
  clear hw2
  go_region_held3 (fun w' => w'.cell? ⟨w.heap.size, 0, none⟩ = some (.string ⟨nm.toArray⟩) ∧ w'.cell? ⟨w.heap.size, 1, none⟩ = some (.string ⟨wh.toArray⟩) ∧ w'.cell? ⟨w.heap.size, 2, none⟩ = some (.int .i64 fr) ∧ w'.cell? ⟨w.heap.size, 3, none⟩ = some (.int .i64 tl) ∧ w'.cell? ⟨w.heap.size, 4, none⟩ = some (.string ⟨el.toArray⟩) ∧ w'.cell? ⟨w.heap.size, 5, none⟩ = some (.int .i64 tn) ∧ w'.cell? ⟨w.heap.size, 6, none⟩ = some (.int .i64 tu) ∧ w'.cell? ⟨w.heap.size, 7, none⟩ = some (.int .i64 tr))
    ((first | exact ⟨cell_ext hdr x0, cell_ext hdr x1, cell_ext hdr x2, cell_ext hdr x3, cell_ext hdr x4, cell_ext hdr x5, cell_ext hdr x6, cell_ext hdr x7⟩ | exact ⟨cell_ext HBa.out x0, cell_ext HBa.out x1, cell_ext HBa.out x2, cell_ext HBa.out x3, cell_ext HBa.out x4, cell_ext HBa.out x5, cell_ext HBa.out x6, cell_ext HBa.out x7⟩ | exact ⟨cell_ext HBb.out x0, cell_ext HBb.out x1, cell_ext HBb.out x2, cell_ext HBb.out x3, cell_ext HBb.out x4, cell_ext HBb.out x5, cell_ext HBb.out x6, cell_ext HBb.out x7⟩))
    ((first
      | (go_at_call 123; have hba := HBa.out; refine (HC2.out _ hba).mono ?_; rintro e w4 ⟨rfl, hb⟩; have HBb := Lib.hid (ext_trans hba hb); clear hb hba)
      | (go_at_call 123; refine (HC1.out _ hdr).mono ?_; rintro e w3 ⟨rfl, hb⟩; have HBa := Lib.hid (ext_trans hdr hb); clear hb)))
  have HB4 := Lib.hid (ext_trans HX.out HBb.out)
  have HK4 := Lib.hid (Sol.blk_ext HK.out HBb.out)
  have HS4 := Lib.hid (Sol.blk_ext HS.out HBb.out)
  clear HC1 HC2 x0 x1 x2 x3 x4 x5 x6 x7
  have x0 := HK4.out.cell 0 rfl
  have x1 := HK4.out.cell 1 rfl
  have x2 := HK4.out.cell 2 rfl
  have x3 := HK4.out.cell 3 rfl
  have x4 := HK4.out.cell 4 rfl
  have x5 := HK4.out.cell 5 rfl
  have x6 := HK4.out.cell 6 rfl
  have x7 := HK4.out.cell 7 rfl
  have z0 := HS4.out.cell 0 rfl
  have z1 := HS4.out.cell 1 rfl
  have z2 := HS4.out.cell 2 rfl
  have z3 := HS4.out.cell 3 rfl
  have z4 := HS4.out.cell 4 rfl
  have z5 := HS4.out.cell 5 rfl
  have z6 := HS4.out.cell 6 rfl
  have z7 := HS4.out.cell 7 rfl
  have z8 := HS4.out.cell 8 rfl
  have z9 := HS4.out.cell 9 rfl
  have z10 := HS4.out.cell 10 rfl
  have f0 := HS4.out.free 0
  have f1 := HS4.out.free 1
  have f2 := HS4.out.free 2
  have f3 := HS4.out.free 3
  have f4 := HS4.out.free 4
  have f5 := HS4.out.free 5
  have f6 := HS4.out.free 6
  have f7 := HS4.out.free 7
  have f8 := HS4.out.free 8
  have f9 := HS4.out.free 9
  have f10 := HS4.out.free 10
  generalize firstP X true on es = o at *
  generalize firstP X false on es = f at *
  by_cases c1 : 0 < o
  · by_cases c2 : f = 0
    · have q2 : (f == 0) = true := by rw [c2]; rfl
      have hc : 0 < o ∧ (f = 0 ∨ o ≤ f) := ⟨c1, .inl c2⟩
      have hv := HSP.out
      rw [if_pos hc] at hv
      have HV := Lib.hid hv
      clear hv
      go_wp2_with fail
      have hE := (((((((((((HS4.out.set 0 (.string ⟨nm.toArray⟩)).set 1 (.string ⟨wh.toArray⟩)).set 2 (.int .i64 fr)).set 3 (.int .i64 tl)).set 4 (.string ⟨el.toArray⟩)).set 5 (.int .i64 tn)).set 6 (.int .i64 tu)).set 7 (.int .i64 tr)).set 8 (.int .i64 4)).set 9 (.int .i64 o)).set 10 (.int .i64 (-1)))
      have s0 := hE.cell 0 rfl
      have s1 := hE.cell 1 rfl
      have s2 := hE.cell 2 rfl
      have s3 := hE.cell 3 rfl
      have s4 := hE.cell 4 rfl
      have s5 := hE.cell 5 rfl
      have s6 := hE.cell 6 rfl
      have s7 := hE.cell 7 rfl
      have s8 := hE.cell 8 rfl
      have s9 := hE.cell 9 rfl
      have s10 := hE.cell 10 rfl
      refine bodyPost_ret (v := .agg #[.string ⟨nm.toArray⟩, .string ⟨wh.toArray⟩, .int .i64 fr, .int .i64 tl, .string ⟨el.toArray⟩, .int .i64 tn, .int .i64 tu, .int .i64 tr, .int .i64 4, .int .i64 o, .int .i64 (-1)]) (by simp [results, Tryz.results90, go_sem, s0, s1, s2, s3, s4, s5, s6, s7, s8, s9, s10]) rfl ⟨by rw [HV.out], ?_⟩
      exact (((((((((((HB4.out.setCell (by simp) _).setCell (by simp) _).setCell (by simp) _).setCell (by simp) _).setCell (by simp) _).setCell (by simp) _).setCell (by simp) _).setCell (by simp) _).setCell (by simp) _).setCell (by simp) _).setCell (by simp) _)
    · have q2 : (f == 0) = false := by rw [beq_eq_false_iff_ne]; exact c2
      by_cases c3 : o ≤ f
      · have hc : 0 < o ∧ (f = 0 ∨ o ≤ f) := ⟨c1, .inr c3⟩
        have hv := HSP.out
        rw [if_pos hc] at hv
        have HV := Lib.hid hv
        clear hv
        go_wp2_with fail
        have hE := (((((((((((HS4.out.set 0 (.string ⟨nm.toArray⟩)).set 1 (.string ⟨wh.toArray⟩)).set 2 (.int .i64 fr)).set 3 (.int .i64 tl)).set 4 (.string ⟨el.toArray⟩)).set 5 (.int .i64 tn)).set 6 (.int .i64 tu)).set 7 (.int .i64 tr)).set 8 (.int .i64 4)).set 9 (.int .i64 o)).set 10 (.int .i64 (-1)))
        have s0 := hE.cell 0 rfl
        have s1 := hE.cell 1 rfl
        have s2 := hE.cell 2 rfl
        have s3 := hE.cell 3 rfl
        have s4 := hE.cell 4 rfl
        have s5 := hE.cell 5 rfl
        have s6 := hE.cell 6 rfl
        have s7 := hE.cell 7 rfl
        have s8 := hE.cell 8 rfl
        have s9 := hE.cell 9 rfl
        have s10 := hE.cell 10 rfl
        refine bodyPost_ret (v := .agg #[.string ⟨nm.toArray⟩, .string ⟨wh.toArray⟩, .int .i64 fr, .int .i64 tl, .string ⟨el.toArray⟩, .int .i64 tn, .int .i64 tu, .int .i64 tr, .int .i64 4, .int .i64 o, .int .i64 (-1)]) (by simp [results, Tryz.results90, go_sem, s0, s1, s2, s3, s4, s5, s6, s7, s8, s9, s10]) rfl ⟨by rw [HV.out], ?_⟩
        exact (((((((((((HB4.out.setCell (by simp) _).setCell (by simp) _).setCell (by simp) _).setCell (by simp) _).setCell (by simp) _).setCell (by simp) _).setCell (by simp) _).setCell (by simp) _).setCell (by simp) _).setCell (by simp) _).setCell (by simp) _)
      · have hc : ¬ (0 < o ∧ (f = 0 ∨ o ≤ f)) := fun h => h.2.elim c2 c3
        by_cases d1 : 0 < f
        · by_cases d2 : f ≤ tl
          · skip
            have hv := HSP.out
            rw [if_neg hc] at hv
            rw [if_pos ⟨d1, d2⟩] at hv
            have HV := Lib.hid hv
            clear hv
            go_wp2_with fail
            have hE := (((((((((((HS4.out.set 0 (.string ⟨nm.toArray⟩)).set 1 (.string ⟨wh.toArray⟩)).set 2 (.int .i64 fr)).set 3 (.int .i64 tl)).set 4 (.string ⟨el.toArray⟩)).set 5 (.int .i64 tn)).set 6 (.int .i64 tu)).set 7 (.int .i64 tr)).set 8 (.int .i64 1)).set 9 (.int .i64 f)).set 10 (.int .i64 (-1)))
            have s0 := hE.cell 0 rfl
            have s1 := hE.cell 1 rfl
            have s2 := hE.cell 2 rfl
            have s3 := hE.cell 3 rfl
            have s4 := hE.cell 4 rfl
            have s5 := hE.cell 5 rfl
            have s6 := hE.cell 6 rfl
            have s7 := hE.cell 7 rfl
            have s8 := hE.cell 8 rfl
            have s9 := hE.cell 9 rfl
            have s10 := hE.cell 10 rfl
            refine bodyPost_ret (v := .agg #[.string ⟨nm.toArray⟩, .string ⟨wh.toArray⟩, .int .i64 fr, .int .i64 tl, .string ⟨el.toArray⟩, .int .i64 tn, .int .i64 tu, .int .i64 tr, .int .i64 1, .int .i64 f, .int .i64 (-1)]) (by simp [results, Tryz.results90, go_sem, s0, s1, s2, s3, s4, s5, s6, s7, s8, s9, s10]) rfl ⟨by rw [HV.out], ?_⟩
            exact (((((((((((HB4.out.setCell (by simp) _).setCell (by simp) _).setCell (by simp) _).setCell (by simp) _).setCell (by simp) _).setCell (by simp) _).setCell (by simp) _).setCell (by simp) _).setCell (by simp) _).setCell (by simp) _).setCell (by simp) _)
          · skip
            have hv := HSP.out
            rw [if_neg hc] at hv
            rw [if_neg (fun h => d2 h.2)] at hv
            rw [if_pos d1] at hv
            have HV := Lib.hid hv
            clear hv
            go_wp2_with fail
            have hE := (((((((((((HS4.out.set 0 (.string ⟨nm.toArray⟩)).set 1 (.string ⟨wh.toArray⟩)).set 2 (.int .i64 fr)).set 3 (.int .i64 tl)).set 4 (.string ⟨el.toArray⟩)).set 5 (.int .i64 tn)).set 6 (.int .i64 tu)).set 7 (.int .i64 tr)).set 8 (.int .i64 2)).set 9 (.int .i64 f)).set 10 (.int .i64 (-1)))
            have s0 := hE.cell 0 rfl
            have s1 := hE.cell 1 rfl
            have s2 := hE.cell 2 rfl
            have s3 := hE.cell 3 rfl
            have s4 := hE.cell 4 rfl
            have s5 := hE.cell 5 rfl
            have s6 := hE.cell 6 rfl
            have s7 := hE.cell 7 rfl
            have s8 := hE.cell 8 rfl
            have s9 := hE.cell 9 rfl
            have s10 := hE.cell 10 rfl
            refine bodyPost_ret (v := .agg #[.string ⟨nm.toArray⟩, .string ⟨wh.toArray⟩, .int .i64 fr, .int .i64 tl, .string ⟨el.toArray⟩, .int .i64 tn, .int .i64 tu, .int .i64 tr, .int .i64 2, .int .i64 f, .int .i64 (-1)]) (by simp [results, Tryz.results90, go_sem, s0, s1, s2, s3, s4, s5, s6, s7, s8, s9, s10]) rfl ⟨by rw [HV.out], ?_⟩
            exact (((((((((((HB4.out.setCell (by simp) _).setCell (by simp) _).setCell (by simp) _).setCell (by simp) _).setCell (by simp) _).setCell (by simp) _).setCell (by simp) _).setCell (by simp) _).setCell (by simp) _).setCell (by simp) _).setCell (by simp) _)
        · by_cases d3 : tl < on
          · skip
            have hv := HSP.out
            rw [if_neg hc] at hv
            rw [if_neg (fun h => d1 h.1)] at hv
            rw [if_neg d1] at hv
            rw [if_pos d3] at hv
            have HV := Lib.hid hv
            clear hv
            go_wp2_with fail
            have hE := (((((((((((HS4.out.set 0 (.string ⟨nm.toArray⟩)).set 1 (.string ⟨wh.toArray⟩)).set 2 (.int .i64 fr)).set 3 (.int .i64 tl)).set 4 (.string ⟨el.toArray⟩)).set 5 (.int .i64 tn)).set 6 (.int .i64 tu)).set 7 (.int .i64 tr)).set 8 (.int .i64 3)).set 9 (.int .i64 (wrap64 (tl + 1)))).set 10 (.int .i64 (-1)))
            have s0 := hE.cell 0 rfl
            have s1 := hE.cell 1 rfl
            have s2 := hE.cell 2 rfl
            have s3 := hE.cell 3 rfl
            have s4 := hE.cell 4 rfl
            have s5 := hE.cell 5 rfl
            have s6 := hE.cell 6 rfl
            have s7 := hE.cell 7 rfl
            have s8 := hE.cell 8 rfl
            have s9 := hE.cell 9 rfl
            have s10 := hE.cell 10 rfl
            refine bodyPost_ret (v := .agg #[.string ⟨nm.toArray⟩, .string ⟨wh.toArray⟩, .int .i64 fr, .int .i64 tl, .string ⟨el.toArray⟩, .int .i64 tn, .int .i64 tu, .int .i64 tr, .int .i64 3, .int .i64 (wrap64 (tl + 1)), .int .i64 (-1)]) (by simp [results, Tryz.results90, go_sem, s0, s1, s2, s3, s4, s5, s6, s7, s8, s9, s10]) rfl ⟨by rw [HV.out], ?_⟩
            exact (((((((((((HB4.out.setCell (by simp) _).setCell (by simp) _).setCell (by simp) _).setCell (by simp) _).setCell (by simp) _).setCell (by simp) _).setCell (by simp) _).setCell (by simp) _).setCell (by simp) _).setCell (by simp) _).setCell (by simp) _)
          · skip
            have hv := HSP.out
            rw [if_neg hc] at hv
            rw [if_neg (fun h => d1 h.1)] at hv
            rw [if_neg d1] at hv
            rw [if_neg d3] at hv
            have HV := Lib.hid hv
            clear hv
            go_wp2_with fail
            have hE := (((((((((((HS4.out.set 0 (.string ⟨nm.toArray⟩)).set 1 (.string ⟨wh.toArray⟩)).set 2 (.int .i64 fr)).set 3 (.int .i64 tl)).set 4 (.string ⟨el.toArray⟩)).set 5 (.int .i64 tn)).set 6 (.int .i64 tu)).set 7 (.int .i64 tr)).set 8 (.int .i64 0)).set 9 (.int .i64 fr)).set 10 (.int .i64 (-1)))
            have s0 := hE.cell 0 rfl
            have s1 := hE.cell 1 rfl
            have s2 := hE.cell 2 rfl
            have s3 := hE.cell 3 rfl
            have s4 := hE.cell 4 rfl
            have s5 := hE.cell 5 rfl
            have s6 := hE.cell 6 rfl
            have s7 := hE.cell 7 rfl
            have s8 := hE.cell 8 rfl
            have s9 := hE.cell 9 rfl
            have s10 := hE.cell 10 rfl
            refine bodyPost_ret (v := .agg #[.string ⟨nm.toArray⟩, .string ⟨wh.toArray⟩, .int .i64 fr, .int .i64 tl, .string ⟨el.toArray⟩, .int .i64 tn, .int .i64 tu, .int .i64 tr, .int .i64 0, .int .i64 fr, .int .i64 (-1)]) (by simp [results, Tryz.results90, go_sem, s0, s1, s2, s3, s4, s5, s6, s7, s8, s9, s10]) rfl ⟨by rw [HV.out], ?_⟩
            exact (((((((((((HB4.out.setCell (by simp) _).setCell (by simp) _).setCell (by simp) _).setCell (by simp) _).setCell (by simp) _).setCell (by simp) _).setCell (by simp) _).setCell (by simp) _).setCell (by simp) _).setCell (by simp) _).setCell (by simp) _)
  · have hc : ¬ (0 < o ∧ (f = 0 ∨ o ≤ f)) := fun h => c1 h.1
    by_cases d1 : 0 < f
    · by_cases d2 : f ≤ tl
      · skip
        have hv := HSP.out
        rw [if_neg hc] at hv
        rw [if_pos ⟨d1, d2⟩] at hv
        have HV := Lib.hid hv
        clear hv
        go_wp2_with fail
        have hE := (((((((((((HS4.out.set 0 (.string ⟨nm.toArray⟩)).set 1 (.string ⟨wh.toArray⟩)).set 2 (.int .i64 fr)).set 3 (.int .i64 tl)).set 4 (.string ⟨el.toArray⟩)).set 5 (.int .i64 tn)).set 6 (.int .i64 tu)).set 7 (.int .i64 tr)).set 8 (.int .i64 1)).set 9 (.int .i64 f)).set 10 (.int .i64 (-1)))
        have s0 := hE.cell 0 rfl
        have s1 := hE.cell 1 rfl
        have s2 := hE.cell 2 rfl
        have s3 := hE.cell 3 rfl
        have s4 := hE.cell 4 rfl
        have s5 := hE.cell 5 rfl
        have s6 := hE.cell 6 rfl
        have s7 := hE.cell 7 rfl
        have s8 := hE.cell 8 rfl
        have s9 := hE.cell 9 rfl
        have s10 := hE.cell 10 rfl
        refine bodyPost_ret (v := .agg #[.string ⟨nm.toArray⟩, .string ⟨wh.toArray⟩, .int .i64 fr, .int .i64 tl, .string ⟨el.toArray⟩, .int .i64 tn, .int .i64 tu, .int .i64 tr, .int .i64 1, .int .i64 f, .int .i64 (-1)]) (by simp [results, Tryz.results90, go_sem, s0, s1, s2, s3, s4, s5, s6, s7, s8, s9, s10]) rfl ⟨by rw [HV.out], ?_⟩
        exact (((((((((((HB4.out.setCell (by simp) _).setCell (by simp) _).setCell (by simp) _).setCell (by simp) _).setCell (by simp) _).setCell (by simp) _).setCell (by simp) _).setCell (by simp) _).setCell (by simp) _).setCell (by simp) _).setCell (by simp) _)
      · skip
        have hv := HSP.out
        rw [if_neg hc] at hv
        rw [if_neg (fun h => d2 h.2)] at hv
        rw [if_pos d1] at hv
        have HV := Lib.hid hv
        clear hv
        go_wp2_with fail
        have hE := (((((((((((HS4.out.set 0 (.string ⟨nm.toArray⟩)).set 1 (.string ⟨wh.toArray⟩)).set 2 (.int .i64 fr)).set 3 (.int .i64 tl)).set 4 (.string ⟨el.toArray⟩)).set 5 (.int .i64 tn)).set 6 (.int .i64 tu)).set 7 (.int .i64 tr)).set 8 (.int .i64 2)).set 9 (.int .i64 f)).set 10 (.int .i64 (-1)))
        have s0 := hE.cell 0 rfl
        have s1 := hE.cell 1 rfl
        have s2 := hE.cell 2 rfl
        have s3 := hE.cell 3 rfl
        have s4 := hE.cell 4 rfl
        have s5 := hE.cell 5 rfl
        have s6 := hE.cell 6 rfl
        have s7 := hE.cell 7 rfl
        have s8 := hE.cell 8 rfl
        have s9 := hE.cell 9 rfl
        have s10 := hE.cell 10 rfl
        refine bodyPost_ret (v := .agg #[.string ⟨nm.toArray⟩, .string ⟨wh.toArray⟩, .int .i64 fr, .int .i64 tl, .string ⟨el.toArray⟩, .int .i64 tn, .int .i64 tu, .int .i64 tr, .int .i64 2, .int .i64 f, .int .i64 (-1)]) (by simp [results, Tryz.results90, go_sem, s0, s1, s2, s3, s4, s5, s6, s7, s8, s9, s10]) rfl ⟨by rw [HV.out], ?_⟩
        exact (((((((((((HB4.out.setCell (by simp) _).setCell (by simp) _).setCell (by simp) _).setCell (by simp) _).setCell (by simp) _).setCell (by simp) _).setCell (by simp) _).setCell (by simp) _).setCell (by simp) _).setCell (by simp) _).setCell (by simp) _)
    · by_cases d3 : tl < on
      · skip
        have hv := HSP.out
        rw [if_neg hc] at hv
        rw [if_neg (fun h => d1 h.1)] at hv
        rw [if_neg d1] at hv
        rw [if_pos d3] at hv
        have HV := Lib.hid hv
        clear hv
        go_wp2_with fail
        have hE := (((((((((((HS4.out.set 0 (.string ⟨nm.toArray⟩)).set 1 (.string ⟨wh.toArray⟩)).set 2 (.int .i64 fr)).set 3 (.int .i64 tl)).set 4 (.string ⟨el.toArray⟩)).set 5 (.int .i64 tn)).set 6 (.int .i64 tu)).set 7 (.int .i64 tr)).set 8 (.int .i64 3)).set 9 (.int .i64 (wrap64 (tl + 1)))).set 10 (.int .i64 (-1)))
        have s0 := hE.cell 0 rfl
        have s1 := hE.cell 1 rfl
        have s2 := hE.cell 2 rfl
        have s3 := hE.cell 3 rfl
        have s4 := hE.cell 4 rfl
        have s5 := hE.cell 5 rfl
        have s6 := hE.cell 6 rfl
        have s7 := hE.cell 7 rfl
        have s8 := hE.cell 8 rfl
        have s9 := hE.cell 9 rfl
        have s10 := hE.cell 10 rfl
        refine bodyPost_ret (v := .agg #[.string ⟨nm.toArray⟩, .string ⟨wh.toArray⟩, .int .i64 fr, .int .i64 tl, .string ⟨el.toArray⟩, .int .i64 tn, .int .i64 tu, .int .i64 tr, .int .i64 3, .int .i64 (wrap64 (tl + 1)), .int .i64 (-1)]) (by simp [results, Tryz.results90, go_sem, s0, s1, s2, s3, s4, s5, s6, s7, s8, s9, s10]) rfl ⟨by rw [HV.out], ?_⟩
        exact (((((((((((HB4.out.setCell (by simp) _).setCell (by simp) _).setCell (by simp) _).setCell (by simp) _).setCell (by simp) _).setCell (by simp) _).setCell (by simp) _).setCell (by simp) _).setCell (by simp) _).setCell (by simp) _).setCell (by simp) _)
      · skip
        have hv := HSP.out
        rw [if_neg hc] at hv
        rw [if_neg (fun h => d1 h.1)] at hv
        rw [if_neg d1] at hv
        rw [if_neg d3] at hv
        have HV := Lib.hid hv
        clear hv
        go_wp2_with fail
        have hE := (((((((((((HS4.out.set 0 (.string ⟨nm.toArray⟩)).set 1 (.string ⟨wh.toArray⟩)).set 2 (.int .i64 fr)).set 3 (.int .i64 tl)).set 4 (.string ⟨el.toArray⟩)).set 5 (.int .i64 tn)).set 6 (.int .i64 tu)).set 7 (.int .i64 tr)).set 8 (.int .i64 0)).set 9 (.int .i64 fr)).set 10 (.int .i64 (-1)))
        have s0 := hE.cell 0 rfl
        have s1 := hE.cell 1 rfl
        have s2 := hE.cell 2 rfl
        have s3 := hE.cell 3 rfl
        have s4 := hE.cell 4 rfl
        have s5 := hE.cell 5 rfl
        have s6 := hE.cell 6 rfl
        have s7 := hE.cell 7 rfl
        have s8 := hE.cell 8 rfl
        have s9 := hE.cell 9 rfl
        have s10 := hE.cell 10 rfl
        refine bodyPost_ret (v := .agg #[.string ⟨nm.toArray⟩, .string ⟨wh.toArray⟩, .int .i64 fr, .int .i64 tl, .string ⟨el.toArray⟩, .int .i64 tn, .int .i64 tu, .int .i64 tr, .int .i64 0, .int .i64 fr, .int .i64 (-1)]) (by simp [results, Tryz.results90, go_sem, s0, s1, s2, s3, s4, s5, s6, s7, s8, s9, s10]) rfl ⟨by rw [HV.out], ?_⟩
        exact (((((((((((HB4.out.setCell (by simp) _).setCell (by simp) _).setCell (by simp) _).setCell (by simp) _).setCell (by simp) _).setCell (by simp) _).setCell (by simp) _).setCell (by simp) _).setCell (by simp) _).setCell (by simp) _).setCell (by simp) _)
end Go.Proofs.YtcpcejmlnhflpaaGreatDoor.Dut
namespace Go.Proofs.YtcpcejmlnhflpaaGreatDoor.Dut
open Go.RowKit Mem Nest Sol App

set_option maxRecDepth 100000 in
set_option maxHeartbeats 4000000 in
theorem eventsOf_any (l : List Ev) (hl : l.length ≤ 1000) (LA : Option Addr) (lc : Nat) (w : World) (h : Rd w LA (l.flatMap evCells)) :
    Calls Tryz.prog 21 #[.slice LA l.length lc] w (SlPost (l.flatMap evCells) l.length w) := by
  have H := Lib.hid h
  obtain ⟨i0, hi, hz0, hz1, hz2⟩ := info_parts event_info
  have HI := Lib.hid hi
  have HZ0 := Lib.hid hz0
  have HZ1 := Lib.hid hz1
  have HZ2 := Lib.hid hz2
  have mixed : Tryz.prog.follows Departure.mixedOrders = true := by kernel_rfl
  clear h hi hz0 hz1 hz2
  go_enter Tryz.func21, Tryz.ntmps21
  go_wp2_with fail
  go_loopw [3, 4] (fun t3 t4 wr => ∃ j : Nat, t4 = .int .i64 j ∧ j ≤ l.length ∧ Hid (Below w.heap.size w wr) ∧ Hid (wr.ownsRow w.heap.size 141 4 t3 j ((l.take j).flatMap evCells))) (fun _ t4 _ => l.length - (intOf t4).toNat)
  case atStart => exact ⟨0, rfl, Nat.zero_le _, Below.refl _ _, World.ownsRow_nil _ _ _ _⟩
  case round =>
    obtain ⟨j, rfl, hj, HB, HO⟩ := hrel
    by_cases hlt : j < l.length
    · have hcl : (j : Int) < (l.length : Int) := by omega
      obtain ⟨b, o, rfl, r0, r1, r2, r3⟩ := ev_at H.out hlt
      obtain ⟨x, hx⟩ : ∃ x, x = l[j] := ⟨_, rfl⟩
      rw [← hx] at r0 r1 r2 r3
      have HX := Lib.hid hx
      clear hx
      obtain ⟨xd, xn, xw, xv⟩ := x
      simp only at r0 r1 r2 r3
      have C0 := Lib.hid r0
      have C1 := Lib.hid r1
      have C2 := Lib.hid r2
      have C3 := Lib.hid r3
      clear r0 r1 r2 r3
      have HO1 := Lib.hid (own_ext HO.out (ext_trans (ext_drewN wr 1) (ext_alloc (wr.drewN 1) (.cells #[.int .i64 xd, .string ⟨xn.toArray⟩, .string ⟨xw.toArray⟩, .bool xv] 141))))
      have HBd := Lib.hid (ext_trans HB.out (ext_trans (ext_drewN wr 1) (ext_alloc (wr.drewN 1) (.cells #[.int .i64 xd, .string ⟨xn.toArray⟩, .string ⟨xw.toArray⟩, .bool xv] 141))))
      have HSz := Lib.hid (show w.heap.size ≤ ((wr.drewN 1).alloc (.cells #[.int .i64 xd, .string ⟨xn.toArray⟩, .string ⟨xw.toArray⟩, .bool xv] 141)).heap.size from HBd.out.size)
      have HNw := Lib.hid (show Rd ((wr.drewN 1).alloc (.cells #[.int .i64 xd, .string ⟨xn.toArray⟩, .string ⟨xw.toArray⟩, .bool xv] 141)) (some ⟨wr.heap.size, 0, none⟩) (evCells ⟨xd, xn, xw, xv⟩) from fun j u hj => ⟨wr.heap.size, 0, rfl, by rw [Nat.zero_add]; exact (Blk.new (wr.drewN 1) 141 (evCells ⟨xd, xn, xw, xv⟩)).cell j hj⟩)
      have d0 := cell_ext (ext_drewN wr 1) (cell_ext HB.out C0.out)
      have d1 := cell_ext (ext_drewN wr 1) (cell_ext HB.out C1.out)
      have d2 := cell_ext (ext_drewN wr 1) (cell_ext HB.out C2.out)
      have d3 := cell_ext (ext_drewN wr 1) (cell_ext HB.out C3.out)
      go_wp2_with fail
      refine wp_region_held_drew (S := (fun w' => w'.cell? ⟨b, o + j * 4, none⟩ = some (.int .i64 xd) ∧ w'.cell? ⟨b, o + j * 4 + 1, none⟩ = some (.string ⟨xn.toArray⟩) ∧ w'.cell? ⟨b, o + j * 4 + 2, none⟩ = some (.string ⟨xw.toArray⟩) ∧ w'.cell? ⟨b, o + j * 4 + 3, none⟩ = some (.bool xv))) (by kernel_rfl) ?_ (fun hHeld => ?_)
      · exact ⟨d0, d1, d2, d3⟩
      refine wpAnyH_take (i := 0) (v := ?_) rfl (by kernel_rfl) (by kernel_rfl) (by kernel_rfl) (fun _ _ _ h => h) (Or.inl ⟨by rfl, ?_⟩) (by assumption) ?_
      rotate_left
      · intro w hSw; (try dsimp only at hSw); go_simp; try with_reducible rfl
      (try dsimp only [Act.put, List.setIfInBounds_toArray, List.set_cons_zero, List.set_cons_succ])
      refine wpAnyH_take (i := 1) (v := ?_) rfl (by kernel_rfl) (by kernel_rfl) (by kernel_rfl) (fun _ _ _ h => h) (Or.inl ⟨by rfl, ?_⟩) (by assumption) ?_
      rotate_left
      · intro w hSw; (try dsimp only at hSw); go_simp; try with_reducible rfl
      (try dsimp only [Act.put, List.setIfInBounds_toArray, List.set_cons_zero, List.set_cons_succ])
      refine wpAnyH_take (i := 2) (v := ?_) rfl (by kernel_rfl) (by kernel_rfl) (by kernel_rfl) (fun _ _ _ h => h) (Or.inl ⟨by rfl, ?_⟩) (by assumption) ?_
      rotate_left
      · intro w hSw; (try dsimp only at hSw); go_simp; try with_reducible rfl
      (try dsimp only [Act.put, List.setIfInBounds_toArray, List.set_cons_zero, List.set_cons_succ])
      refine wpAnyH_take (i := 3) (v := ?_) rfl (by kernel_rfl) (by kernel_rfl) (by kernel_rfl) (fun _ _ _ h => h) (Or.inl ⟨by rfl, ?_⟩) (by assumption) ?_
      rotate_left
      · intro w hSw; (try dsimp only at hSw); go_simp; try with_reducible rfl
      (try dsimp only [Act.put, List.setIfInBounds_toArray, List.set_cons_zero, List.set_cons_succ])
      refine wpAnyH_take (i := 4) (v := ?_) rfl (by kernel_rfl) (by kernel_rfl) (by kernel_rfl) (fun _ _ _ h => h) (Or.inl ⟨by rfl, ?_⟩) (by assumption) ?_
      rotate_left
      · intro w hSw; (try dsimp only at hSw); go_simp; try with_reducible rfl
      (try dsimp only [Act.put, List.setIfInBounds_toArray, List.set_cons_zero, List.set_cons_succ])
      refine wpAnyH_take (i := 5) (v := ?_) rfl (by kernel_rfl) (by kernel_rfl) (by kernel_rfl) (fun _ _ _ h => h) (Or.inl ⟨by rfl, ?_⟩) (by assumption) ?_
      rotate_left
      · intro w hSw; (try dsimp only at hSw); go_simp; try with_reducible rfl
      (try dsimp only [Act.put, List.setIfInBounds_toArray, List.set_cons_zero, List.set_cons_succ])
      refine wpAnyH_take (i := 6) (v := ?_) rfl (by kernel_rfl) (by kernel_rfl) (by kernel_rfl) (fun _ _ _ h => h) (Or.inl ⟨by rfl, ?_⟩) (by assumption) ?_
      rotate_left
      · intro w hSw; (try dsimp only at hSw); go_simp; try with_reducible rfl
      (try dsimp only [Act.put, List.setIfInBounds_toArray, List.set_cons_zero, List.set_cons_succ])
      refine wpAnyH_take (i := 7) (v := ?_) rfl (by kernel_rfl) (by kernel_rfl) (by kernel_rfl) (fun _ _ _ h => h) (Or.inl ⟨by rfl, ?_⟩) (by assumption) ?_
      rotate_left
      · intro w hSw; (try dsimp only at hSw); go_simp; try with_reducible rfl
      (try dsimp only [Act.put, List.setIfInBounds_toArray, List.set_cons_zero, List.set_cons_succ])
      refine wpAnyH_take (i := 8) (v := ?_) rfl (by kernel_rfl) (by kernel_rfl) (by kernel_rfl) (fun _ _ _ h => h) (Or.inl ⟨by rfl, ?_⟩) (by assumption) ?_
      rotate_left
      · intro w hSw; (try dsimp only at hSw); go_simp; try with_reducible rfl
      (try dsimp only [Act.put, List.setIfInBounds_toArray, List.set_cons_zero, List.set_cons_succ])
      refine wpAnyH_take (i := 9) (v := ?_) rfl (by kernel_rfl) (by kernel_rfl) (by kernel_rfl) (fun _ _ _ h => h) (Or.inl ⟨by rfl, ?_⟩) (by assumption) ?_
      rotate_left
      · intro w hSw; (try dsimp only at hSw); go_simp; try with_reducible rfl
      (try dsimp only [Act.put, List.setIfInBounds_toArray, List.set_cons_zero, List.set_cons_succ])
      refine wpAnyH_take (i := 10) (v := ?_) rfl (by kernel_rfl) (by kernel_rfl) (by kernel_rfl) (fun _ _ _ h => h) (Or.inl ⟨by rfl, ?_⟩) (by assumption) ?_
      rotate_left
      · intro w hSw; (try dsimp only at hSw); go_simp; try with_reducible rfl
      (try dsimp only [Act.put, List.setIfInBounds_toArray, List.set_cons_zero, List.set_cons_succ])
      refine wpAnyH_take (i := 11) (v := ?_) rfl (by kernel_rfl) (by kernel_rfl) (by kernel_rfl) (fun _ _ _ h => h) (Or.inl ⟨by rfl, ?_⟩) (by assumption) ?_
      rotate_left
      · intro w hSw; (try dsimp only at hSw); go_simp; try with_reducible rfl
      (try dsimp only [Act.put, List.setIfInBounds_toArray, List.set_cons_zero, List.set_cons_succ])
      refine wpAnyH_take (i := 12) (v := ?_) rfl (by kernel_rfl) (by kernel_rfl) (by kernel_rfl) (fun _ _ _ h => h) (Or.inl ⟨by rfl, ?_⟩) (by assumption) ?_
      rotate_left
      · intro w hSw; (try dsimp only at hSw); go_simp; try with_reducible rfl
      (try dsimp only [Act.put, List.setIfInBounds_toArray, List.set_cons_zero, List.set_cons_succ])
      refine wpAnyH_take (i := 13) (v := ?_) rfl (by kernel_rfl) (by kernel_rfl) (by kernel_rfl) (fun _ _ _ h => h) (Or.inl ⟨by rfl, ?_⟩) (by assumption) ?_
      rotate_left
      · intro w hSw; (try dsimp only at hSw); go_simp; try with_reducible rfl
      (try dsimp only [Act.put, List.setIfInBounds_toArray, List.set_cons_zero, List.set_cons_succ])
      refine wpAnyH_take (i := 14) (v := ?_) rfl (by kernel_rfl) (by kernel_rfl) (by kernel_rfl) (fun _ _ _ h => h) (Or.inl ⟨by rfl, ?_⟩) (by assumption) ?_
      rotate_left
      · intro w hSw; (try dsimp only at hSw); go_simp; try with_reducible rfl
      (try dsimp only [Act.put, List.setIfInBounds_toArray, List.set_cons_zero, List.set_cons_succ])
      refine wpAnyH_take (i := 15) (v := ?_) rfl (by kernel_rfl) (by kernel_rfl) (by kernel_rfl) (fun _ _ _ h => h) (Or.inl ⟨by rfl, ?_⟩) (by assumption) ?_
      rotate_left
      · intro w hSw; (try dsimp only at hSw); go_simp; try with_reducible rfl
      (try dsimp only [Act.put, List.setIfInBounds_toArray, List.set_cons_zero, List.set_cons_succ])
      refine wpAnyH_take (i := 16) (v := ?_) rfl (by kernel_rfl) (by kernel_rfl) (by kernel_rfl) (fun _ _ _ h => h) (Or.inl ⟨by rfl, ?_⟩) (by assumption) ?_
      rotate_left
      · intro w hSw; (try dsimp only at hSw); go_simp; try with_reducible rfl
      (try dsimp only [Act.put, List.setIfInBounds_toArray, List.set_cons_zero, List.set_cons_succ])
      refine wpAnyH_take (i := 17) (v := ?_) rfl (by kernel_rfl) (by kernel_rfl) (by kernel_rfl) (fun _ _ _ h => h) (Or.inl ⟨by rfl, ?_⟩) (by assumption) ?_
      rotate_left
      · intro w hSw; (try dsimp only at hSw); go_simp; try with_reducible rfl
      (try dsimp only [Act.put, List.setIfInBounds_toArray, List.set_cons_zero, List.set_cons_succ])
      refine wpAnyH_take (i := 18) (v := ?_) rfl (by kernel_rfl) (by kernel_rfl) (by kernel_rfl) (fun _ _ _ h => h) (Or.inl ⟨by rfl, ?_⟩) (by assumption) ?_
      rotate_left
      · intro w hSw; (try dsimp only at hSw); go_simp; try with_reducible rfl
      (try dsimp only [Act.put, List.setIfInBounds_toArray, List.set_cons_zero, List.set_cons_succ])
      refine wpAnyH_take (i := 19) (v := ?_) rfl (by kernel_rfl) (by kernel_rfl) (by kernel_rfl) (fun _ _ _ h => h) (Or.inl ⟨by rfl, ?_⟩) (by assumption) ?_
      rotate_left
      · intro w hSw; (try dsimp only at hSw); go_simp; try with_reducible rfl
      (try dsimp only [Act.put, List.setIfInBounds_toArray, List.set_cons_zero, List.set_cons_succ])
      refine wpAnyH_take (i := 20) (v := ?_) rfl (by kernel_rfl) (by kernel_rfl) (by kernel_rfl) (fun _ _ _ h => h) (Or.inl ⟨by rfl, ?_⟩) (by assumption) ?_
      rotate_left
      · intro w hSw; (try dsimp only at hSw); go_simp; try with_reducible rfl
      (try dsimp only [Act.put, List.setIfInBounds_toArray, List.set_cons_zero, List.set_cons_succ])
      refine wpAnyH_take (i := 21) (v := ?_) rfl (by kernel_rfl) (by kernel_rfl) (by kernel_rfl) (fun _ _ _ h => h) (Or.inl ⟨by rfl, ?_⟩) (by assumption) ?_
      rotate_left
      · intro w hSw; (try dsimp only at hSw); go_simp; try with_reducible rfl
      (try dsimp only [Act.put, List.setIfInBounds_toArray, List.set_cons_zero, List.set_cons_succ])
      refine wpAnyH_ready (rs := [22]) (by kernel_rfl) (by simp) ?_
      refine AllReadyH.cons rfl (fun K hK => ?_) ?_
      · go_simp
        refine hK.out _ _ ?_ (fun hHeld => ?_)
        · exact ⟨cell_ext (ext_alloc _ _) d0, cell_ext (ext_alloc _ _) d1, cell_ext (ext_alloc _ _) d2, cell_ext (ext_alloc _ _) d3⟩
        clear hK K
        (try dsimp only [Act.put, List.setIfInBounds_toArray, List.set_cons_zero, List.set_cons_succ])
        refine wpAnyH_ready (rs := [23]) (by kernel_rfl) (by simp) ?_
        refine AllReadyH.cons rfl (fun K hK => ?_) ?_
        · refine step_append_rd _ (by rfl) _ _ _ (by rfl) w.heap.size 141 i0 _ 4 48 Tryz.underlying70 HI.out HZ0.out HZ1.out HZ2.out (by rfl) (by omega) u3 j _ (by rfl) HO1.out (some ⟨wr.heap.size, 0, none⟩) 1 1 (evCells ⟨xd, xn, xw, xv⟩) (by rfl) (fun h => by cases h) (by rfl) HNw.out (evs_one _) (by simp only [maxLen]; omega) (by omega) HSz.out ?_
          intro v1 w1 hown1 hg1
          obtain ⟨A1, c1, hv1, _⟩ := own_slice hown1
          subst hv1
          have HO2 := Lib.hid hown1
          have HB2 := Lib.hid (Below.grown HBd.out hg1 HSz.out (fun g hg => (HO1.out.lt g hg).1))
          clear hown1 hg1
          refine hK.out _ _ ?_ (fun hHeld => ?_)
          · exact ⟨cell_ext HB2.out C0.out, cell_ext HB2.out C1.out, cell_ext HB2.out C2.out, cell_ext HB2.out C3.out⟩
          clear hK K
          (try dsimp only [Act.put, List.setIfInBounds_toArray, List.set_cons_zero, List.set_cons_succ])
          refine wpAnyH_take (i := 24) (v := ?_) rfl (by kernel_rfl) (by kernel_rfl) (by kernel_rfl) (fun _ _ _ h => h) (Or.inl ⟨by rfl, ?_⟩) (by assumption) ?_
          rotate_left
          · intro w hSw; (try dsimp only at hSw); go_simp; try with_reducible rfl
          (try dsimp only [Act.put, List.setIfInBounds_toArray, List.set_cons_zero, List.set_cons_succ])
          refine wpAnyH_done (by kernel_rfl) ?_ _
          go_wp2_with fail
          go_roundw
          case rel =>
            refine ⟨j + 1, by go_num, by omega, HB2.out, ?_⟩
            have ho := HO2.out
            show World.ownsRow _ _ _ _ _ _ _
            rw [List.take_succ_eq_append_getElem hlt, List.flatMap_append, ← HX.out]
            simpa using ho
          case measure => simp [intOf] <;> omega
        exact AllReadyH.nil
      exact AllReadyH.nil
    · obtain rfl : l.length = j := by omega
      obtain ⟨A, c, rfl, hc1, hc2⟩ := own_slice HO.out
      go_wp2_with fail
      go_ret
      have h := Rd.of_own HO.out
      rw [List.take_length] at h
      exact ⟨A, c, rfl, h, hc1, hc2, HB.out⟩
end Go.Proofs.YtcpcejmlnhflpaaGreatDoor.Dut

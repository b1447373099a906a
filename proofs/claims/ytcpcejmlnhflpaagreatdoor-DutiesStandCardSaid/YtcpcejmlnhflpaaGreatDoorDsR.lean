/- The document's DutiesValid. How a duty stands on a day, as the document goes: day by day. (printed by gen_dsq.py) The document's StatesOf. (printed by gen_dst.py) -/
import Derived.Test.YtcpcejmlnhflpaaGreatDoorDsV
import Derived.Test.YtcpcejmlnhflpaaGreatDoorDueP
namespace Go.Proofs.YtcpcejmlnhflpaaGreatDoor.Dut
open Go.RowKit Mem Nest Sol App CdP CdM Solve Err RefDay

theorem isday_d (d : Int) (w : World) : Calls Tryz.prog 39 #[.int .i64 d] w fun e w' => e = .returned (.bool (decide (Gd d))) ∧ w = w' := by
  by_cases h : Gd d
  · rw [decide_eq_true h]; exact isday_yes d h.1 h.2 w
  · rw [decide_eq_false h]; exact isday_no d (by unfold Gd at h; omega) w
theorem EG.iff {es : List Ev} {k : Nat} (hk : k < es.length) : EG (es.take (k + 1)) ↔ EG (es.take k) ∧ Gd es[k].day := by
  refine ⟨fun h => ⟨fun e he => h e ?_, h _ ?_⟩, fun h => h.1.succ hk h.2⟩
  · rw [List.take_succ_eq_append_getElem hk]
    exact List.mem_append_left _ he
  · rw [List.take_succ_eq_append_getElem hk]
    exact List.mem_append_right _ (List.mem_singleton.2 rfl)
def RvPost (c : Cd) (l : List Dt) (es : List Ev) (on : Int) (w : World) (e : Ending) (w' : World) : Prop := e = .returned (.int .i64 (codeV c l es on)) ∧ Below w.heap.size w w'
theorem due_codes {c : Cd} {d n u how o1 o2 : Int} (h : DueP c d n u how (o1, o2)) : o2 = 0 ∨ 0 < o2 := by
  have := h.code
  unfold CodeOk at this
  simp only at this
  omega
set_option maxRecDepth 100000 in
set_option maxHeartbeats 8000000 in
theorem rvalid_any (l : List Dt) (hl : l.length ≤ 1000) (es : List Ev) (he : es.length ≤ 1000) (c : Cd) (hh : c.hol.length ≤ 1048576) (cb co : Nat) (H : Option Addr) (hc : Nat) (on : Int) (LA EA : Option Addr) (lc ec : Nat) (w : World)
    (hd : Rd w LA (l.flatMap dtCells)) (hv : Rd w EA (es.flatMap evCells)) (hC : CdA w cb co c H hc) :
    Calls Tryz.prog 23 #[.slice LA l.length lc, .slice EA es.length ec, .pointer (some ⟨cb, co, none⟩), .int .i64 on] w (RvPost c l es on w) := by
  have HD := Lib.hid hd
  have HV := Lib.hid hv
  have HC := Lib.hid hC
  clear hd hv hC
  go_enter Tryz.func23, Tryz.ntmps23
  by_cases n1 : 200 < l.length
  · have n1' : (200 : Int) < (l.length : Int) := by omega
    go_wp2_with fail
    go_ret
    exact ⟨by rw [codeV_two (.inl n1)]; rfl, Below.refl _ _⟩
  · have n1' : ¬ (200 : Int) < (l.length : Int) := by omega
    by_cases n2 : 400 < es.length
    · have n2' : (400 : Int) < (es.length : Int) := by omega
      go_wp2_with fail
      go_ret
      exact ⟨by rw [codeV_two (.inr n2)]; rfl, Below.refl _ _⟩
    · have n2' : ¬ (400 : Int) < (es.length : Int) := by omega
      have HSm := Lib.hid (show ¬ (200 < l.length ∨ 400 < es.length) by omega)
      go_wp2_with fail
      refine (isday_d _ _).mono ?_
      rintro e w' ⟨rfl, rfl⟩
      have HZ := Lib.hid (show decide (Gd on) = true ↔ VOk l on 0 by simp [VOk])
      generalize decide (Gd on) = b0 at HZ
      go_wp2_with fail
      go_loopw [9, 10] (fun t9 t10 wr => ∃ (bb : Bool) (k : Nat), t9 = .bool bb ∧ t10 = .int .i64 k ∧ k ≤ l.length ∧ Hid (Below w.heap.size w wr) ∧ Hid (bb = true ↔ VOk l on k)) (fun _ t10 _ => l.length - (intOf t10).toNat)
      case atStart => exact ⟨b0, 0, rfl, rfl, by omega, Below.refl _ _, HZ.out⟩
      case round =>
        clear HZ
        obtain ⟨bb, k, rfl, rfl, hk, HB, HV2⟩ := hrel
        by_cases hlt : k < l.length
        · have hcl : (k : Int) < (l.length : Int) := by omega
          obtain ⟨b, o, rfl, hd⟩ := dt_at (HD.out.ext HB.out) hlt
          have HVS := Lib.hid (VOk.succ (on := on) hlt)
          generalize l[k] = x at hd HVS
          obtain ⟨nm, wh, fr, tl, el, tn, tu, tr⟩ := x
          obtain ⟨_, _, c2, c3, _, _, _, _⟩ := hd
          simp only at c2 c3
          go_wp2_with fail
          refine (isday_d _ _).mono ?_
          rintro e w' ⟨rfl, rfl⟩
          go_wp2_with fail
          refine (isday_d _ _).mono ?_
          rintro e w' ⟨rfl, rfl⟩
          have HD2 := Lib.hid (show VOk l on (k + 1) ↔ (bb = true ∧ decide (Gd fr) = true ∧ decide (Gd tl) = true ∧ fr ≤ tl) by
            rw [HVS.out, HV2.out]
            unfold DOk
            simp)
          generalize decide (Gd fr) = b1 at HD2
          generalize decide (Gd tl) = b2 at HD2
          clear HVS HV2
          cases bb
          · go_wp2_with fail
            go_quiet (fail)
            go_wp2_with fail
            go_roundw
            case rel => exact ⟨_, k + 1, rfl, by go_num, by omega, ext_trans HB.out (ext_drewN _ nq), by show _ ↔ _; rw [HD2.out]; simp⟩
            case measure => simp [intOf]; omega
          · cases b1
            · go_wp2_with fail
              go_quiet (fail)
              go_wp2_with fail
              go_roundw
              case rel => exact ⟨_, k + 1, rfl, by go_num, by omega, ext_trans HB.out (ext_drewN _ nq), by show _ ↔ _; rw [HD2.out]; simp⟩
              case measure => simp [intOf]; omega
            · cases b2
              · go_wp2_with fail
                go_quiet (fail)
                go_wp2_with fail
                go_roundw
                case rel => exact ⟨_, k + 1, rfl, by go_num, by omega, ext_trans HB.out (ext_drewN _ nq), by show _ ↔ _; rw [HD2.out]; simp⟩
                case measure => simp [intOf]; omega
              · go_wp2_with fail
                go_quiet (fail)
                go_wp2_with fail
                go_roundw
                case rel => exact ⟨_, k + 1, rfl, by go_num, by omega, ext_trans HB.out (ext_drewN _ nq), by show _ ↔ _; rw [HD2.out]; simp⟩
                case measure => simp [intOf]; omega
        · have hcl : ¬ (k : Int) < (l.length : Int) := by omega
          obtain rfl : l.length = k := by omega
          obtain ⟨wo, rfl⟩ : ∃ wo, wo = wr := ⟨_, rfl⟩
          go_wp2_with fail
          go_loopw [9, 13] (fun t9 t13 wr => ∃ (ba : Bool) (k : Nat), t9 = .bool ba ∧ t13 = .int .i64 k ∧ k ≤ es.length ∧ wo = wr ∧ Hid (ba = true ↔ bb = true ∧ EG (es.take k))) (fun _ t13 _ => es.length - (intOf t13).toNat)
          case atStart => exact ⟨bb, 0, rfl, rfl, by omega, rfl, by show _ ↔ _; simp [EG]⟩
          case round =>
            clear hk hlt hcl
            obtain ⟨ba, k, rfl, rfl, hk, rfl, HE2⟩ := hrel
            by_cases hlt : k < es.length
            · have hcl : (k : Int) < (es.length : Int) := by omega
              obtain ⟨b, o, rfl, c0, _, _, _⟩ := ev_at (HV.out.ext HB.out) hlt
              have HES := Lib.hid (EG.iff hlt)
              generalize es[k].day = xd at c0 HES
              go_wp2_with fail
              refine (isday_d _ _).mono ?_
              rintro e w' ⟨rfl, rfl⟩
              have HD2 := Lib.hid (show (bb = true ∧ EG (es.take (k + 1))) ↔ (ba = true ∧ decide (Gd xd) = true) by
                rw [HES.out, HE2.out]
                simp [and_assoc])
              generalize decide (Gd xd) = b1 at HD2
              clear HES HE2
              cases ba
              · go_wp2_with fail
                go_roundw
                case rel => exact ⟨_, k + 1, rfl, by go_num, by omega, trivial, by show _ ↔ _; rw [HD2.out]; simp⟩
                case measure => simp [intOf]; omega
              · go_wp2_with fail
                go_roundw
                case rel => exact ⟨_, k + 1, rfl, by go_num, by omega, trivial, by show _ ↔ _; rw [HD2.out]; simp⟩
                case measure => simp [intOf]; omega
            · have hcl : ¬ (k : Int) < (es.length : Int) := by omega
              obtain rfl : es.length = k := by omega
              have HA := Lib.hid (show ba = true ↔ (VOk l on l.length ∧ EG es) by
                rw [HE2.out, HV2.out, List.take_length])
              clear HE2 HV2
              cases ba
              · have HN := Lib.hid (show codeV c l es on = 4 from codeV_four HSm.out (fun q => by have := HA.out.2 q; cases this))
                go_wp2_with fail
                go_ret
                exact ⟨by rw [HN.out]; rfl, HB.out⟩
              · have HF := Lib.hid (HA.out.1 rfl)
                have HBd := Lib.hid (show codeV c l es on = firstBad c l from codeV_due HSm.out HF.out)
                clear HA hcl hlt hk
                go_wp2_with fail
                go_loopw [15] (fun t15 wi => ∃ k : Nat, t15 = .int .i64 k ∧ k ≤ l.length ∧ Hid (Below w.heap.size w wi) ∧ Hid (DueOk c (l.take k))) (fun t15 _ => l.length - (intOf t15).toNat)
                case atStart => exact ⟨0, rfl, by omega, HB.out, fun x hx => by simp at hx⟩
                case round =>
                  clear HB
                  obtain ⟨k, rfl, hk, HB, HDo⟩ := hrel
                  by_cases hlt : k < l.length
                  · have hcl : (k : Int) < (l.length : Int) := by omega
                    obtain ⟨b, o, rfl, hd⟩ := dt_at (HD.out.ext HB.out) hlt
                    have HM := Lib.hid (List.getElem_mem hlt)
                    have HNx := Lib.hid (fun (g : l[k].els ≠ [] → (dueF c l[k]).2 = 0) => HDo.out.succ hlt g)
                    have HAt := Lib.hid (fun (h1 : l[k].els ≠ []) (h2 : (dueF c l[k]).2 ≠ 0) => bad_at hlt HDo.out h1 h2)
                    generalize l[k] = x at hd HM HNx HAt
                    obtain ⟨nm, wh, fr, tl, el, tn, tu, tr⟩ := x
                    have htl : Gd tl := (HF.out.1.2 _ (show (⟨nm, wh, fr, tl, el, tn, tu, tr⟩ : Dt) ∈ l.take l.length by rw [List.take_of_length_le (by omega)]; exact HM.out)).2.1
                    have ht1 := htl.1
                    have ht2 := htl.2
                    clear htl
                    obtain ⟨_, _, _, c3, c4, c5, c6, c7⟩ := hd
                    simp only at c3 c4 c5 c6 c7
                    cases el with
                    | nil =>
                      go_wp2_with fail
                      go_roundw
                      case rel => exact ⟨k + 1, by go_num, by omega, HB.out, HNx.out (fun h => absurd rfl h)⟩
                      case measure => simp [intOf]; omega
                    | cons e0 er =>
                      have hdr := ext_drewN wr 1
                      have hwr : IntKind.i64.wrap (tl + 1) = tl + 1 := IntWalk.i64_in _ (by omega)
                      go_wp2_with fail
                      go_region_held3 (fun w' => w'.cell? ⟨b, o + k * 8 + 3, none⟩ = some (.int .i64 tl) ∧ w'.cell? ⟨b, o + k * 8 + 5, none⟩ = some (.int .i64 tn) ∧ w'.cell? ⟨b, o + k * 8 + 6, none⟩ = some (.int .i64 tu) ∧ w'.cell? ⟨b, o + k * 8 + 7, none⟩ = some (.int .i64 tr))
                        ((first | exact ⟨cell_ext hdr c3, cell_ext hdr c5, cell_ext hdr c6, cell_ext hdr c7⟩ | exact ⟨cell_ext HBs.out c3, cell_ext HBs.out c5, cell_ext HBs.out c6, cell_ext HBs.out c7⟩))
                        ((go_at_call 64; refine (rdue_any c hh cb co H hc (tl + 1) tn tu tr _ (HC.out.ext (ext_trans HB.out hdr))).mono ?_; rintro e w9 ⟨⟨o1, o2⟩, hdu, rfl, hb9⟩; have HDu := Lib.hid (due_eq (x := ⟨nm, wh, fr, tl, e0 :: er, tn, tu, tr⟩) hdu); have HCo := Lib.hid (due_codes hdu); have HBs := Lib.hid (ext_trans hdr hb9); clear hb9 hdu))
                      have HB4 := Lib.hid (ext_trans HB.out HBs.out)
                      clear c3 c4 c5 c6 c7 hdr hwr
                      by_cases z : 0 < o2
                      · have HZ := Lib.hid (show codeV c l es on = o2 by rw [HBd.out, HAt.out (by simp) (by rw [HDu.out]; show o2 ≠ 0; omega), HDu.out])
                        go_wp2_with fail
                        go_ret
                        exact ⟨by rw [HZ.out]; rfl, HB4.out⟩
                      · have hz : o2 = 0 := by have := HCo.out; omega
                        subst hz
                        go_wp2_with fail
                        go_roundw
                        case rel => exact ⟨k + 1, by go_num, by omega, HB4.out, HNx.out (fun _ => by rw [HDu.out])⟩
                        case measure => simp [intOf]; omega
                  · have hcl : ¬ (k : Int) < (l.length : Int) := by omega
                    go_wp2_with fail
                    go_ret
                    exact ⟨by rw [HBd.out, bad_none (HDo.out.full (by omega))]; rfl, HB.out⟩
end Go.Proofs.YtcpcejmlnhflpaaGreatDoor.Dut
namespace Go.Proofs.YtcpcejmlnhflpaaGreatDoor.Dut
open Go.RowKit Mem Nest Sol App CdP CdM Solve Err

set_option maxRecDepth 100000 in
set_option maxHeartbeats 16000000 in
theorem rstate_any (nm wh : List UInt8) (fr tl : Int) (el : List UInt8) (tn tu tr : Int) (on : Int) (h1 : 1 ≤ fr) (h2 : fr ≤ 3652060) (h3 : on ≤ 3652059) (es : List Ev) (hl : es.length ≤ 1000) (LA : Option Addr) (lc : Nat) (w : World) (h : Rd w LA (es.flatMap evCells)) :
    Calls Tryz.prog 65 #[.agg #[.string ⟨nm.toArray⟩, .string ⟨wh.toArray⟩, .int .i64 fr, .int .i64 tl, .string ⟨el.toArray⟩, .int .i64 tn, .int .i64 tu, .int .i64 tr], .slice LA es.length lc, .int .i64 on] w fun e w' => e = .returned (.agg #[.string ⟨nm.toArray⟩, .string ⟨wh.toArray⟩, .int .i64 fr, .int .i64 tl, .string ⟨el.toArray⟩, .int .i64 tn, .int .i64 tu, .int .i64 tr, .int .i64 (stP ⟨nm, wh, fr, tl, el, tn, tu, tr⟩ es on).1, .int .i64 (stP ⟨nm, wh, fr, tl, el, tn, tu, tr⟩ es on).2, .int .i64 (-1)]) ∧ Below w.heap.size w w' := by
  have H := Lib.hid h
  have hx1 := ext_alloc w (.cells #[.string ⟨nm.toArray⟩, .string ⟨wh.toArray⟩, .int .i64 fr, .int .i64 tl, .string ⟨el.toArray⟩, .int .i64 tn, .int .i64 tu, .int .i64 tr] 133)
  have hx2 := ext_alloc (w.alloc (.cells #[.string ⟨nm.toArray⟩, .string ⟨wh.toArray⟩, .int .i64 fr, .int .i64 tl, .string ⟨el.toArray⟩, .int .i64 tn, .int .i64 tu, .int .i64 tr] 133)) (.cells #[.string ⟨#[]⟩, .string ⟨#[]⟩, .int .i64 0, .int .i64 0, .string ⟨#[]⟩, .int .i64 0, .int .i64 0, .int .i64 0, .int .i64 0, .int .i64 0, .int .i64 0] 150)
  have HX := Lib.hid (ext_trans hx1 hx2)
  have HK := Lib.hid (Sol.blk_ext (Blk.new w 133 [.string ⟨nm.toArray⟩, .string ⟨wh.toArray⟩, .int .i64 fr, .int .i64 tl, .string ⟨el.toArray⟩, .int .i64 tn, .int .i64 tu, .int .i64 tr]) hx2)
  have HS := Lib.hid (show Blk ((w.alloc (.cells #[.string ⟨nm.toArray⟩, .string ⟨wh.toArray⟩, .int .i64 fr, .int .i64 tl, .string ⟨el.toArray⟩, .int .i64 tn, .int .i64 tu, .int .i64 tr] 133)).alloc (.cells #[.string ⟨#[]⟩, .string ⟨#[]⟩, .int .i64 0, .int .i64 0, .string ⟨#[]⟩, .int .i64 0, .int .i64 0, .int .i64 0, .int .i64 0, .int .i64 0, .int .i64 0] 150)) (w.heap.size + 1) 150 [.string ⟨#[]⟩, .string ⟨#[]⟩, .int .i64 0, .int .i64 0, .string ⟨#[]⟩, .int .i64 0, .int .i64 0, .int .i64 0, .int .i64 0, .int .i64 0, .int .i64 0] by simpa using Blk.new (w.alloc (.cells #[.string ⟨nm.toArray⟩, .string ⟨wh.toArray⟩, .int .i64 fr, .int .i64 tl, .string ⟨el.toArray⟩, .int .i64 tn, .int .i64 tu, .int .i64 tr] 133)) 150 [.string ⟨#[]⟩, .string ⟨#[]⟩, .int .i64 0, .int .i64 0, .string ⟨#[]⟩, .int .i64 0, .int .i64 0, .int .i64 0, .int .i64 0, .int .i64 0, .int .i64 0])
  obtain ⟨w2, hw2⟩ : ∃ w2, w2 = (w.alloc (.cells #[.string ⟨nm.toArray⟩, .string ⟨wh.toArray⟩, .int .i64 fr, .int .i64 tl, .string ⟨el.toArray⟩, .int .i64 tn, .int .i64 tu, .int .i64 tr] 133)).alloc (.cells #[.string ⟨#[]⟩, .string ⟨#[]⟩, .int .i64 0, .int .i64 0, .string ⟨#[]⟩, .int .i64 0, .int .i64 0, .int .i64 0, .int .i64 0, .int .i64 0, .int .i64 0] 150) := ⟨_, rfl⟩
  rw [← hw2] at HX HK HS
  obtain ⟨X, hX⟩ : ∃ X : Dt, X = ⟨nm, wh, fr, tl, el, tn, tu, tr⟩ := ⟨_, rfl⟩
  rw [← hX]
  have hXn : X.name = nm := by rw [hX]
  have hXw : X.who = wh := by rw [hX]
  have hXf : X.fr = fr := by rw [hX]
  have hXt : X.till = tl := by rw [hX]
  obtain ⟨B, hB⟩ : ∃ B, B = w.heap.size := ⟨_, rfl⟩
  rw [← hB] at HK HS
  have HBs := Lib.hid (show w.heap.size ≤ B by omega)
  have y2 := HK.out.cell 2 rfl
  have HX1 := Lib.hid (show 1 ≤ X.fr by rw [hXf]; exact h1)
  have HXf := Lib.hid hXf
  have HXt := Lib.hid hXt
  have HXn := Lib.hid hXn
  have HXw := Lib.hid hXw
  clear h hx1 hx2 hX hXn hXw hXf hXt
  go_enter Tryz.func65, Tryz.ntmps65
  go_upto_region 1 with fail
  rw [← hw2, ← hB]
  clear hw2 hB
  go_wp2_with fail
  go_loopw [7] (fun t7 wr => ∃ dy : Int, t7 = .int .i64 dy ∧ fr ≤ dy ∧ dy ≤ 3652060 ∧ Hid (Below w2.heap.size w2 wr) ∧ Hid (Clear X es dy)) (fun t7 _ => (on + 1 - intOf t7).toNat)
  case atStart => exact ⟨fr, rfl, by omega, by omega, Below.refl _ _, by have h := Clear.start X es; rw [HXf.out] at h; exact h⟩
  case round =>
    clear y2
    obtain ⟨dy, rfl, hd1, hd2, HB, HC⟩ := hrel
    obtain ⟨wo, rfl⟩ : ∃ wo, wo = wr := ⟨_, rfl⟩
    have HKo := Lib.hid (Sol.blk_ext HK.out HB.out)
    have HSo := Lib.hid (Sol.blk_ext HS.out HB.out)
    by_cases hle : dy ≤ on
    · go_wp2_with fail
      go_loopw [8, 9, 10] (fun t8 t9 t10 wi => ∃ (bd bo : Bool) (k : Nat), t8 = .bool bd ∧ t9 = .bool bo ∧ t10 = .int .i64 k ∧ k ≤ es.length ∧ Hid (Below wo.heap.size wo wi) ∧ Hid (bd = evB X false dy (es.take k)) ∧ Hid (bo = evB X true dy (es.take k))) (fun _ _ t10 _ => es.length - (intOf t10).toNat)
      case atStart => exact ⟨false, false, 0, rfl, rfl, rfl, by omega, Below.refl _ _, rfl, rfl⟩
      case round =>
        obtain ⟨bd, bo, k, rfl, rfl, rfl, hk, HBi, HE1, HE2⟩ := hrel
        by_cases hlt : k < es.length
        · have hcl : (k : Int) < (es.length : Int) := by omega
          have HT1 := Lib.hid (ev_take (x := X) (wv := false) (dy := dy) hlt)
          have HT2 := Lib.hid (ev_take (x := X) (wv := true) (dy := dy) hlt)
          obtain ⟨b, o, rfl, r0, r1, r2, r3⟩ := ev_at (H.out.ext (ext_trans HX.out (ext_trans HB.out HBi.out))) hlt
          rw [← HE1.out, HXn.out, HXw.out] at HT1
          rw [← HE2.out, HXn.out, HXw.out] at HT2
          generalize es[k] = x at r0 r1 r2 r3 HT1 HT2
          obtain ⟨xd, xn, xw, xv⟩ := x
          simp only at r0 r1 r2 r3 HT1 HT2
          have hx1 := ext_alloc wr (.cells (List.toArray [.int .i64 xd, .string ⟨xn.toArray⟩, .string ⟨xw.toArray⟩, .bool xv]) 78)
          have bx := Blk.new wr 78 [.int .i64 xd, .string ⟨xn.toArray⟩, .string ⟨xw.toArray⟩, .bool xv]
          obtain ⟨W, hW⟩ : ∃ W, W = wr.alloc (.cells (List.toArray [.int .i64 xd, .string ⟨xn.toArray⟩, .string ⟨xw.toArray⟩, .bool xv]) 78) := ⟨_, rfl⟩
          obtain ⟨K, hK⟩ : ∃ K, K = wr.heap.size := ⟨_, rfl⟩
          rw [← hW] at hx1 bx
          rw [← hK] at bx
          go_upto_region 10 with fail
          rw [show wr.alloc (.cells (List.toArray [.int .i64 xd, .string ⟨xn.toArray⟩, .string ⟨xw.toArray⟩, .bool xv]) 78) = W from hW.symm, ← hK]
          have HB2 := Lib.hid (ext_trans HBi.out hx1)
          have bk := Sol.blk_ext HKo.out HB2.out
          have m0 := bx.cell 0 rfl
          have m1 := bx.cell 1 rfl
          have m2 := bx.cell 2 rfl
          have m3 := bx.cell 3 rfl
          have y0 := bk.cell 0 rfl
          have y1 := bk.cell 1 rfl
          clear hW hK bx bk hx1 r0 r1 r2 r3 HE1 HE2
          by_cases p1 : xd = dy
          · have q1 : (xd == dy) = true := by simp [p1]
            by_cases p2 : xn = nm
            · have q2 : (xn == nm) = true := by simp [p2]
              by_cases p3 : xw = wh
              · have q3 : (xw == wh) = true := by simp [p3]
                have HP := Lib.hid (And.intro p1 (And.intro p2 p3))
                clear p1 p2 p3
                cases xv
                · cases bd
                  · cases bo
                    · skip
                      go_wp2_with fail
                      go_roundw
                      case rel => exact ⟨_, _, k + 1, rfl, rfl, by go_num, by omega, HB2.out, by show _ = _; rw [HT1.out]; simp [HP.out.1, HP.out.2.1, HP.out.2.2], by show _ = _; rw [HT2.out]; simp [HP.out.1, HP.out.2.1, HP.out.2.2]⟩
                      case measure => simp [intOf]; omega
                    · skip
                      go_wp2_with fail
                      go_roundw
                      case rel => exact ⟨_, _, k + 1, rfl, rfl, by go_num, by omega, HB2.out, by show _ = _; rw [HT1.out]; simp [HP.out.1, HP.out.2.1, HP.out.2.2], by show _ = _; rw [HT2.out]; simp [HP.out.1, HP.out.2.1, HP.out.2.2]⟩
                      case measure => simp [intOf]; omega
                  · cases bo
                    · skip
                      go_wp2_with fail
                      go_roundw
                      case rel => exact ⟨_, _, k + 1, rfl, rfl, by go_num, by omega, HB2.out, by show _ = _; rw [HT1.out]; simp [HP.out.1, HP.out.2.1, HP.out.2.2], by show _ = _; rw [HT2.out]; simp [HP.out.1, HP.out.2.1, HP.out.2.2]⟩
                      case measure => simp [intOf]; omega
                    · skip
                      go_wp2_with fail
                      go_roundw
                      case rel => exact ⟨_, _, k + 1, rfl, rfl, by go_num, by omega, HB2.out, by show _ = _; rw [HT1.out]; simp [HP.out.1, HP.out.2.1, HP.out.2.2], by show _ = _; rw [HT2.out]; simp [HP.out.1, HP.out.2.1, HP.out.2.2]⟩
                      case measure => simp [intOf]; omega
                · cases bd
                  · cases bo
                    · skip
                      go_wp2_with fail
                      go_roundw
                      case rel => exact ⟨_, _, k + 1, rfl, rfl, by go_num, by omega, HB2.out, by show _ = _; rw [HT1.out]; simp [HP.out.1, HP.out.2.1, HP.out.2.2], by show _ = _; rw [HT2.out]; simp [HP.out.1, HP.out.2.1, HP.out.2.2]⟩
                      case measure => simp [intOf]; omega
                    · skip
                      go_wp2_with fail
                      go_roundw
                      case rel => exact ⟨_, _, k + 1, rfl, rfl, by go_num, by omega, HB2.out, by show _ = _; rw [HT1.out]; simp [HP.out.1, HP.out.2.1, HP.out.2.2], by show _ = _; rw [HT2.out]; simp [HP.out.1, HP.out.2.1, HP.out.2.2]⟩
                      case measure => simp [intOf]; omega
                  · cases bo
                    · skip
                      go_wp2_with fail
                      go_roundw
                      case rel => exact ⟨_, _, k + 1, rfl, rfl, by go_num, by omega, HB2.out, by show _ = _; rw [HT1.out]; simp [HP.out.1, HP.out.2.1, HP.out.2.2], by show _ = _; rw [HT2.out]; simp [HP.out.1, HP.out.2.1, HP.out.2.2]⟩
                      case measure => simp [intOf]; omega
                    · skip
                      go_wp2_with fail
                      go_roundw
                      case rel => exact ⟨_, _, k + 1, rfl, rfl, by go_num, by omega, HB2.out, by show _ = _; rw [HT1.out]; simp [HP.out.1, HP.out.2.1, HP.out.2.2], by show _ = _; rw [HT2.out]; simp [HP.out.1, HP.out.2.1, HP.out.2.2]⟩
                      case measure => simp [intOf]; omega
              · have q3 : (xw == wh) = false := by simpa using p3
                have HP := Lib.hid p3
                clear p3
                go_wp2_with fail
                go_roundw
                case rel => exact ⟨bd, bo, k + 1, rfl, rfl, by go_num, by omega, HB2.out, by show _ = _; rw [HT1.out]; simp [HP.out], by show _ = _; rw [HT2.out]; simp [HP.out]⟩
                case measure => simp [intOf]; omega
            · have q2 : (xn == nm) = false := by simpa using p2
              have HP := Lib.hid p2
              clear p2
              go_wp2_with fail
              go_roundw
              case rel => exact ⟨bd, bo, k + 1, rfl, rfl, by go_num, by omega, HB2.out, by show _ = _; rw [HT1.out]; simp [HP.out], by show _ = _; rw [HT2.out]; simp [HP.out]⟩
              case measure => simp [intOf]; omega
          · have q1 : (xd == dy) = false := by simpa using p1
            have HP := Lib.hid p1
            clear p1
            go_wp2_with fail
            go_roundw
            case rel => exact ⟨bd, bo, k + 1, rfl, rfl, by go_num, by omega, HB2.out, by show _ = _; rw [HT1.out]; simp [HP.out], by show _ = _; rw [HT2.out]; simp [HP.out]⟩
            case measure => simp [intOf]; omega
        · have hcl : ¬ (k : Int) < (es.length : Int) := by omega
          obtain rfl : es.length = k := by omega
          rw [List.take_length] at HE1 HE2
          have HSi := Lib.hid (Sol.blk_ext HSo.out HBi.out)
          have bk := Sol.blk_ext HKo.out HBi.out
          have HBz := Lib.hid (ext_trans HX.out (ext_trans HB.out HBi.out))
          have HC1 := Lib.hid (show X.fr ≤ dy by rw [HXf.out]; exact hd1)
          cases bo
          · cases bd
            · have HCn := Lib.hid (HC.out.next HE2.out.symm HE1.out.symm)
              clear bk
              go_wp2_with fail
              go_roundw
              case rel => exact ⟨dy + 1, by go_num, by omega, by omega, ext_trans HB.out HBi.out, HCn.out⟩
              case measure => simp [intOf]; omega
            · by_cases ht : dy ≤ tl
              · have HV := Lib.hid (day_met HX1.out HC.out HC1.out hle HE2.out.symm HE1.out.symm (by rw [HXt.out]; exact ht))
                have g0 := HSi.out
                have k0 := g0.cell 0 rfl
                have f0 := g0.free 0
                have g1 := g0.set 0 (.string ⟨nm.toArray⟩)
                have k1 := g1.cell 1 rfl
                have f1 := g1.free 1
                have g2 := g1.set 1 (.string ⟨wh.toArray⟩)
                have k2 := g2.cell 2 rfl
                have f2 := g2.free 2
                have g3 := g2.set 2 (.int .i64 fr)
                have k3 := g3.cell 3 rfl
                have f3 := g3.free 3
                have g4 := g3.set 3 (.int .i64 tl)
                have k4 := g4.cell 4 rfl
                have f4 := g4.free 4
                have g5 := g4.set 4 (.string ⟨el.toArray⟩)
                have k5 := g5.cell 5 rfl
                have f5 := g5.free 5
                have g6 := g5.set 5 (.int .i64 tn)
                have k6 := g6.cell 6 rfl
                have f6 := g6.free 6
                have g7 := g6.set 6 (.int .i64 tu)
                have k7 := g7.cell 7 rfl
                have f7 := g7.free 7
                have g8 := g7.set 7 (.int .i64 tr)
                have k8 := g8.cell 8 rfl
                have f8 := g8.free 8
                have g9 := g8.set 8 (.int .i64 1)
                have k9 := g9.cell 9 rfl
                have f9 := g9.free 9
                have g10 := g9.set 9 (.int .i64 dy)
                have k10 := g10.cell 10 rfl
                have f10 := g10.free 10
                have g11 := g10.set 10 (.int .i64 (-1))
                clear g0 g1 g2 g3 g4 g5 g6 g7 g8 g9 g10 g11
                have z0 := bk.cell 0 rfl
                have z1 := bk.cell 1 rfl
                have z2 := bk.cell 2 rfl
                have z3 := bk.cell 3 rfl
                have z4 := bk.cell 4 rfl
                have z5 := bk.cell 5 rfl
                have z6 := bk.cell 6 rfl
                have z7 := bk.cell 7 rfl
                go_wp2_with fail
                have hE := (((((((((((HSi.out.set 0 (.string ⟨nm.toArray⟩)).set 1 (.string ⟨wh.toArray⟩)).set 2 (.int .i64 fr)).set 3 (.int .i64 tl)).set 4 (.string ⟨el.toArray⟩)).set 5 (.int .i64 tn)).set 6 (.int .i64 tu)).set 7 (.int .i64 tr)).set 8 (.int .i64 1)).set 9 (.int .i64 dy)).set 10 (.int .i64 (-1)))
                have s0 := hE.cell 0 rfl
                have s1 := hE.cell 1 rfl
                have s2 := hE.cell 2 rfl
                have s3 := hE.cell 3 rfl
                have s4 := hE.cell 4 rfl
                have s5 := hE.cell 5 rfl
                have s6 := hE.cell 6 rfl
                have s7 := hE.cell 7 rfl
                have s8 := hE.cell 8 rfl
                have s9 := hE.cell 9 rfl
                have s10 := hE.cell 10 rfl
                refine bodyPost_ret (v := .agg #[.string ⟨nm.toArray⟩, .string ⟨wh.toArray⟩, .int .i64 fr, .int .i64 tl, .string ⟨el.toArray⟩, .int .i64 tn, .int .i64 tu, .int .i64 tr, .int .i64 1, .int .i64 dy, .int .i64 (-1)]) (by simp [results, Tryz.results65, go_sem, s0, s1, s2, s3, s4, s5, s6, s7, s8, s9, s10]) rfl ⟨by rw [HV.out], ?_⟩
                exact (((((((((((HBz.out.setCell (by have := HBs.out; simp; omega) _).setCell (by have := HBs.out; simp; omega) _).setCell (by have := HBs.out; simp; omega) _).setCell (by have := HBs.out; simp; omega) _).setCell (by have := HBs.out; simp; omega) _).setCell (by have := HBs.out; simp; omega) _).setCell (by have := HBs.out; simp; omega) _).setCell (by have := HBs.out; simp; omega) _).setCell (by have := HBs.out; simp; omega) _).setCell (by have := HBs.out; simp; omega) _).setCell (by have := HBs.out; simp; omega) _)
              · have HV := Lib.hid (day_late HX1.out HC.out HC1.out hle HE2.out.symm HE1.out.symm (by rw [HXt.out]; exact ht))
                have g0 := HSi.out
                have k0 := g0.cell 0 rfl
                have f0 := g0.free 0
                have g1 := g0.set 0 (.string ⟨nm.toArray⟩)
                have k1 := g1.cell 1 rfl
                have f1 := g1.free 1
                have g2 := g1.set 1 (.string ⟨wh.toArray⟩)
                have k2 := g2.cell 2 rfl
                have f2 := g2.free 2
                have g3 := g2.set 2 (.int .i64 fr)
                have k3 := g3.cell 3 rfl
                have f3 := g3.free 3
                have g4 := g3.set 3 (.int .i64 tl)
                have k4 := g4.cell 4 rfl
                have f4 := g4.free 4
                have g5 := g4.set 4 (.string ⟨el.toArray⟩)
                have k5 := g5.cell 5 rfl
                have f5 := g5.free 5
                have g6 := g5.set 5 (.int .i64 tn)
                have k6 := g6.cell 6 rfl
                have f6 := g6.free 6
                have g7 := g6.set 6 (.int .i64 tu)
                have k7 := g7.cell 7 rfl
                have f7 := g7.free 7
                have g8 := g7.set 7 (.int .i64 tr)
                have k8 := g8.cell 8 rfl
                have f8 := g8.free 8
                have g9 := g8.set 8 (.int .i64 2)
                have k9 := g9.cell 9 rfl
                have f9 := g9.free 9
                have g10 := g9.set 9 (.int .i64 dy)
                have k10 := g10.cell 10 rfl
                have f10 := g10.free 10
                have g11 := g10.set 10 (.int .i64 (-1))
                clear g0 g1 g2 g3 g4 g5 g6 g7 g8 g9 g10 g11
                have z0 := bk.cell 0 rfl
                have z1 := bk.cell 1 rfl
                have z2 := bk.cell 2 rfl
                have z3 := bk.cell 3 rfl
                have z4 := bk.cell 4 rfl
                have z5 := bk.cell 5 rfl
                have z6 := bk.cell 6 rfl
                have z7 := bk.cell 7 rfl
                go_wp2_with fail
                have hE := (((((((((((HSi.out.set 0 (.string ⟨nm.toArray⟩)).set 1 (.string ⟨wh.toArray⟩)).set 2 (.int .i64 fr)).set 3 (.int .i64 tl)).set 4 (.string ⟨el.toArray⟩)).set 5 (.int .i64 tn)).set 6 (.int .i64 tu)).set 7 (.int .i64 tr)).set 8 (.int .i64 2)).set 9 (.int .i64 dy)).set 10 (.int .i64 (-1)))
                have s0 := hE.cell 0 rfl
                have s1 := hE.cell 1 rfl
                have s2 := hE.cell 2 rfl
                have s3 := hE.cell 3 rfl
                have s4 := hE.cell 4 rfl
                have s5 := hE.cell 5 rfl
                have s6 := hE.cell 6 rfl
                have s7 := hE.cell 7 rfl
                have s8 := hE.cell 8 rfl
                have s9 := hE.cell 9 rfl
                have s10 := hE.cell 10 rfl
                refine bodyPost_ret (v := .agg #[.string ⟨nm.toArray⟩, .string ⟨wh.toArray⟩, .int .i64 fr, .int .i64 tl, .string ⟨el.toArray⟩, .int .i64 tn, .int .i64 tu, .int .i64 tr, .int .i64 2, .int .i64 dy, .int .i64 (-1)]) (by simp [results, Tryz.results65, go_sem, s0, s1, s2, s3, s4, s5, s6, s7, s8, s9, s10]) rfl ⟨by rw [HV.out], ?_⟩
                exact (((((((((((HBz.out.setCell (by have := HBs.out; simp; omega) _).setCell (by have := HBs.out; simp; omega) _).setCell (by have := HBs.out; simp; omega) _).setCell (by have := HBs.out; simp; omega) _).setCell (by have := HBs.out; simp; omega) _).setCell (by have := HBs.out; simp; omega) _).setCell (by have := HBs.out; simp; omega) _).setCell (by have := HBs.out; simp; omega) _).setCell (by have := HBs.out; simp; omega) _).setCell (by have := HBs.out; simp; omega) _).setCell (by have := HBs.out; simp; omega) _)
          · have HV := Lib.hid (day_off HX1.out HC.out HC1.out hle HE2.out.symm)
            have g0 := HSi.out
            have k0 := g0.cell 0 rfl
            have f0 := g0.free 0
            have g1 := g0.set 0 (.string ⟨nm.toArray⟩)
            have k1 := g1.cell 1 rfl
            have f1 := g1.free 1
            have g2 := g1.set 1 (.string ⟨wh.toArray⟩)
            have k2 := g2.cell 2 rfl
            have f2 := g2.free 2
            have g3 := g2.set 2 (.int .i64 fr)
            have k3 := g3.cell 3 rfl
            have f3 := g3.free 3
            have g4 := g3.set 3 (.int .i64 tl)
            have k4 := g4.cell 4 rfl
            have f4 := g4.free 4
            have g5 := g4.set 4 (.string ⟨el.toArray⟩)
            have k5 := g5.cell 5 rfl
            have f5 := g5.free 5
            have g6 := g5.set 5 (.int .i64 tn)
            have k6 := g6.cell 6 rfl
            have f6 := g6.free 6
            have g7 := g6.set 6 (.int .i64 tu)
            have k7 := g7.cell 7 rfl
            have f7 := g7.free 7
            have g8 := g7.set 7 (.int .i64 tr)
            have k8 := g8.cell 8 rfl
            have f8 := g8.free 8
            have g9 := g8.set 8 (.int .i64 4)
            have k9 := g9.cell 9 rfl
            have f9 := g9.free 9
            have g10 := g9.set 9 (.int .i64 dy)
            have k10 := g10.cell 10 rfl
            have f10 := g10.free 10
            have g11 := g10.set 10 (.int .i64 (-1))
            clear g0 g1 g2 g3 g4 g5 g6 g7 g8 g9 g10 g11
            have z0 := bk.cell 0 rfl
            have z1 := bk.cell 1 rfl
            have z2 := bk.cell 2 rfl
            have z3 := bk.cell 3 rfl
            have z4 := bk.cell 4 rfl
            have z5 := bk.cell 5 rfl
            have z6 := bk.cell 6 rfl
            have z7 := bk.cell 7 rfl
            go_wp2_with fail
            have hE := (((((((((((HSi.out.set 0 (.string ⟨nm.toArray⟩)).set 1 (.string ⟨wh.toArray⟩)).set 2 (.int .i64 fr)).set 3 (.int .i64 tl)).set 4 (.string ⟨el.toArray⟩)).set 5 (.int .i64 tn)).set 6 (.int .i64 tu)).set 7 (.int .i64 tr)).set 8 (.int .i64 4)).set 9 (.int .i64 dy)).set 10 (.int .i64 (-1)))
            have s0 := hE.cell 0 rfl
            have s1 := hE.cell 1 rfl
            have s2 := hE.cell 2 rfl
            have s3 := hE.cell 3 rfl
            have s4 := hE.cell 4 rfl
            have s5 := hE.cell 5 rfl
            have s6 := hE.cell 6 rfl
            have s7 := hE.cell 7 rfl
            have s8 := hE.cell 8 rfl
            have s9 := hE.cell 9 rfl
            have s10 := hE.cell 10 rfl
            refine bodyPost_ret (v := .agg #[.string ⟨nm.toArray⟩, .string ⟨wh.toArray⟩, .int .i64 fr, .int .i64 tl, .string ⟨el.toArray⟩, .int .i64 tn, .int .i64 tu, .int .i64 tr, .int .i64 4, .int .i64 dy, .int .i64 (-1)]) (by simp [results, Tryz.results65, go_sem, s0, s1, s2, s3, s4, s5, s6, s7, s8, s9, s10]) rfl ⟨by rw [HV.out], ?_⟩
            exact (((((((((((HBz.out.setCell (by have := HBs.out; simp; omega) _).setCell (by have := HBs.out; simp; omega) _).setCell (by have := HBs.out; simp; omega) _).setCell (by have := HBs.out; simp; omega) _).setCell (by have := HBs.out; simp; omega) _).setCell (by have := HBs.out; simp; omega) _).setCell (by have := HBs.out; simp; omega) _).setCell (by have := HBs.out; simp; omega) _).setCell (by have := HBs.out; simp; omega) _).setCell (by have := HBs.out; simp; omega) _).setCell (by have := HBs.out; simp; omega) _)
    · have HSi := HSo
      have bk := HKo.out
      have HBz := Lib.hid (ext_trans HX.out HB.out)
      have hend := day_end (on := on) HX1.out HC.out (by omega)
      rw [HXt.out] at hend
      by_cases ht : tl < on
      · rw [if_pos ht] at hend
        have HV := Lib.hid hend
        clear hend
        have g0 := HSi.out
        have k0 := g0.cell 0 rfl
        have f0 := g0.free 0
        have g1 := g0.set 0 (.string ⟨nm.toArray⟩)
        have k1 := g1.cell 1 rfl
        have f1 := g1.free 1
        have g2 := g1.set 1 (.string ⟨wh.toArray⟩)
        have k2 := g2.cell 2 rfl
        have f2 := g2.free 2
        have g3 := g2.set 2 (.int .i64 fr)
        have k3 := g3.cell 3 rfl
        have f3 := g3.free 3
        have g4 := g3.set 3 (.int .i64 tl)
        have k4 := g4.cell 4 rfl
        have f4 := g4.free 4
        have g5 := g4.set 4 (.string ⟨el.toArray⟩)
        have k5 := g5.cell 5 rfl
        have f5 := g5.free 5
        have g6 := g5.set 5 (.int .i64 tn)
        have k6 := g6.cell 6 rfl
        have f6 := g6.free 6
        have g7 := g6.set 6 (.int .i64 tu)
        have k7 := g7.cell 7 rfl
        have f7 := g7.free 7
        have g8 := g7.set 7 (.int .i64 tr)
        have k8 := g8.cell 8 rfl
        have f8 := g8.free 8
        have g9 := g8.set 8 (.int .i64 3)
        have k9 := g9.cell 9 rfl
        have f9 := g9.free 9
        have g10 := g9.set 9 (.int .i64 (wrap64 (tl + 1)))
        have k10 := g10.cell 10 rfl
        have f10 := g10.free 10
        have g11 := g10.set 10 (.int .i64 (-1))
        clear g0 g1 g2 g3 g4 g5 g6 g7 g8 g9 g10 g11
        have z0 := bk.cell 0 rfl
        have z1 := bk.cell 1 rfl
        have z2 := bk.cell 2 rfl
        have z3 := bk.cell 3 rfl
        have z4 := bk.cell 4 rfl
        have z5 := bk.cell 5 rfl
        have z6 := bk.cell 6 rfl
        have z7 := bk.cell 7 rfl
        go_wp2_with fail
        have hE := (((((((((((HSi.out.set 0 (.string ⟨nm.toArray⟩)).set 1 (.string ⟨wh.toArray⟩)).set 2 (.int .i64 fr)).set 3 (.int .i64 tl)).set 4 (.string ⟨el.toArray⟩)).set 5 (.int .i64 tn)).set 6 (.int .i64 tu)).set 7 (.int .i64 tr)).set 8 (.int .i64 3)).set 9 (.int .i64 (wrap64 (tl + 1)))).set 10 (.int .i64 (-1)))
        have s0 := hE.cell 0 rfl
        have s1 := hE.cell 1 rfl
        have s2 := hE.cell 2 rfl
        have s3 := hE.cell 3 rfl
        have s4 := hE.cell 4 rfl
        have s5 := hE.cell 5 rfl
        have s6 := hE.cell 6 rfl
        have s7 := hE.cell 7 rfl
        have s8 := hE.cell 8 rfl
        have s9 := hE.cell 9 rfl
        have s10 := hE.cell 10 rfl
        refine bodyPost_ret (v := .agg #[.string ⟨nm.toArray⟩, .string ⟨wh.toArray⟩, .int .i64 fr, .int .i64 tl, .string ⟨el.toArray⟩, .int .i64 tn, .int .i64 tu, .int .i64 tr, .int .i64 3, .int .i64 (wrap64 (tl + 1)), .int .i64 (-1)]) (by simp [results, Tryz.results65, go_sem, s0, s1, s2, s3, s4, s5, s6, s7, s8, s9, s10]) rfl ⟨by rw [HV.out], ?_⟩
        exact (((((((((((HBz.out.setCell (by have := HBs.out; simp; omega) _).setCell (by have := HBs.out; simp; omega) _).setCell (by have := HBs.out; simp; omega) _).setCell (by have := HBs.out; simp; omega) _).setCell (by have := HBs.out; simp; omega) _).setCell (by have := HBs.out; simp; omega) _).setCell (by have := HBs.out; simp; omega) _).setCell (by have := HBs.out; simp; omega) _).setCell (by have := HBs.out; simp; omega) _).setCell (by have := HBs.out; simp; omega) _).setCell (by have := HBs.out; simp; omega) _)
      · rw [if_neg ht, HXf.out] at hend
        have HV := Lib.hid hend
        clear hend
        have g0 := HSi.out
        have k0 := g0.cell 0 rfl
        have f0 := g0.free 0
        have g1 := g0.set 0 (.string ⟨nm.toArray⟩)
        have k1 := g1.cell 1 rfl
        have f1 := g1.free 1
        have g2 := g1.set 1 (.string ⟨wh.toArray⟩)
        have k2 := g2.cell 2 rfl
        have f2 := g2.free 2
        have g3 := g2.set 2 (.int .i64 fr)
        have k3 := g3.cell 3 rfl
        have f3 := g3.free 3
        have g4 := g3.set 3 (.int .i64 tl)
        have k4 := g4.cell 4 rfl
        have f4 := g4.free 4
        have g5 := g4.set 4 (.string ⟨el.toArray⟩)
        have k5 := g5.cell 5 rfl
        have f5 := g5.free 5
        have g6 := g5.set 5 (.int .i64 tn)
        have k6 := g6.cell 6 rfl
        have f6 := g6.free 6
        have g7 := g6.set 6 (.int .i64 tu)
        have k7 := g7.cell 7 rfl
        have f7 := g7.free 7
        have g8 := g7.set 7 (.int .i64 tr)
        have k8 := g8.cell 8 rfl
        have f8 := g8.free 8
        have g9 := g8.set 8 (.int .i64 0)
        have k9 := g9.cell 9 rfl
        have f9 := g9.free 9
        have g10 := g9.set 9 (.int .i64 fr)
        have k10 := g10.cell 10 rfl
        have f10 := g10.free 10
        have g11 := g10.set 10 (.int .i64 (-1))
        clear g0 g1 g2 g3 g4 g5 g6 g7 g8 g9 g10 g11
        have z0 := bk.cell 0 rfl
        have z1 := bk.cell 1 rfl
        have z2 := bk.cell 2 rfl
        have z3 := bk.cell 3 rfl
        have z4 := bk.cell 4 rfl
        have z5 := bk.cell 5 rfl
        have z6 := bk.cell 6 rfl
        have z7 := bk.cell 7 rfl
        go_wp2_with fail
        have hE := (((((((((((HSi.out.set 0 (.string ⟨nm.toArray⟩)).set 1 (.string ⟨wh.toArray⟩)).set 2 (.int .i64 fr)).set 3 (.int .i64 tl)).set 4 (.string ⟨el.toArray⟩)).set 5 (.int .i64 tn)).set 6 (.int .i64 tu)).set 7 (.int .i64 tr)).set 8 (.int .i64 0)).set 9 (.int .i64 fr)).set 10 (.int .i64 (-1)))
        have s0 := hE.cell 0 rfl
        have s1 := hE.cell 1 rfl
        have s2 := hE.cell 2 rfl
        have s3 := hE.cell 3 rfl
        have s4 := hE.cell 4 rfl
        have s5 := hE.cell 5 rfl
        have s6 := hE.cell 6 rfl
        have s7 := hE.cell 7 rfl
        have s8 := hE.cell 8 rfl
        have s9 := hE.cell 9 rfl
        have s10 := hE.cell 10 rfl
        refine bodyPost_ret (v := .agg #[.string ⟨nm.toArray⟩, .string ⟨wh.toArray⟩, .int .i64 fr, .int .i64 tl, .string ⟨el.toArray⟩, .int .i64 tn, .int .i64 tu, .int .i64 tr, .int .i64 0, .int .i64 fr, .int .i64 (-1)]) (by simp [results, Tryz.results65, go_sem, s0, s1, s2, s3, s4, s5, s6, s7, s8, s9, s10]) rfl ⟨by rw [HV.out], ?_⟩
        exact (((((((((((HBz.out.setCell (by have := HBs.out; simp; omega) _).setCell (by have := HBs.out; simp; omega) _).setCell (by have := HBs.out; simp; omega) _).setCell (by have := HBs.out; simp; omega) _).setCell (by have := HBs.out; simp; omega) _).setCell (by have := HBs.out; simp; omega) _).setCell (by have := HBs.out; simp; omega) _).setCell (by have := HBs.out; simp; omega) _).setCell (by have := HBs.out; simp; omega) _).setCell (by have := HBs.out; simp; omega) _).setCell (by have := HBs.out; simp; omega) _)
end Go.Proofs.YtcpcejmlnhflpaaGreatDoor.Dut
namespace Go.Proofs.YtcpcejmlnhflpaaGreatDoor.Dut
open Go.RowKit Mem Nest Sol App CdP CdM Solve Err

theorem rstate_info : (Tryz.prog.info? 150).map (fun i => (i.zero, i.size, i.bytes)) = some (some (.agg #[.string ⟨#[]⟩, .string ⟨#[]⟩, .int .i64 0, .int .i64 0, .string ⟨#[]⟩, .int .i64 0, .int .i64 0, .int .i64 0, .int .i64 0, .int .i64 0, .int .i64 0]), 11, 112) := by kernel_rfl
set_option maxRecDepth 100000 in
set_option maxHeartbeats 16000000 in
theorem rstates_any (l : List Dt) (hl : l.length ≤ 1000) (es : List Ev) (he : es.length ≤ 1000) (c : Cd) (hh : c.hol.length ≤ 1048576) (cb co : Nat) (H : Option Addr) (hc : Nat) (on : Int) (hon : on ≤ 3652059) (LA EA : Option Addr) (lc ec : Nat) (w : World)
    (hd : Rd w LA (l.flatMap dtCells)) (hv : Rd w EA (es.flatMap evCells)) (hC : CdA w cb co c H hc) (hok : ∀ x ∈ l, DOk x) :
    Calls Tryz.prog 25 #[.slice LA l.length lc, .slice EA es.length ec, .pointer (some ⟨cb, co, none⟩), .int .i64 on] w (DsPost c l es on w) := by
  have HD := Lib.hid hd
  have HV := Lib.hid hv
  have HC := Lib.hid hC
  have HOK := Lib.hid hok
  obtain ⟨i0, hi, hz0, hz1, hz2⟩ := info_parts rstate_info
  have HI := Lib.hid hi
  have HZ0 := Lib.hid hz0
  have HZ1 := Lib.hid hz1
  have HZ2 := Lib.hid hz2
  clear hd hv hC hok hi hz0 hz1 hz2
  go_enter Tryz.func25, Tryz.ntmps25
  go_wp2_with fail
  go_loopw [9, 10] (fun s9 s10 wr => ∃ k : Nat, s10 = .int .i64 k ∧ k ≤ l.length ∧ Hid (Below w.heap.size w wr) ∧ Hid (wr.ownsRow w.heap.size 150 11 s9 (baseR (l.take k) es on).length ((baseR (l.take k) es on).flatMap roCells))) (fun _ s10 _ => l.length - (intOf s10).toNat)
  case atStart => exact ⟨0, rfl, Nat.zero_le _, Below.refl _ _, World.ownsRow_nil _ _ _ _⟩
  case round =>
    obtain ⟨k, rfl, hk, HB, HO⟩ := hrel
    by_cases hlt : k < l.length
    · have hcl : (k : Int) < (l.length : Int) := by omega
      obtain ⟨b, o, rfl, hd⟩ := dt_at (HD.out.ext HB.out) hlt
      have HT := Lib.hid (base_take l es on k hlt)
      have HXok := Lib.hid (HOK.out _ (List.getElem_mem hlt))
      have hbl : (baseR (l.take k) es on).length ≤ k := by
        have := base_len (l.take k) es on
        rw [List.length_take] at this
        omega
      generalize baseR (l.take k) es on = R at HO HT hbl
      generalize l[k] = x at hd HT HXok
      obtain ⟨nm, wh, fr, tl, el, tn, tu, tr⟩ := x
      obtain ⟨c0, c1, c2, c3, c4, c5, c6, c7⟩ := hd
      simp only at c0 c1 c2 c3 c4 c5 c6 c7 HXok
      by_cases hf : fr ≤ on
      · have HFr := Lib.hid hf
        have hg1 : 1 ≤ fr := HXok.out.1.1
        have hg2 : fr ≤ 3652060 := by have := HXok.out.1.2; omega
        go_wp2_with fail
        refine (rstate_any nm wh fr tl el tn tu tr on hg1 hg2 hon es (by omega) EA ec _ (HV.out.ext HB.out)).mono ?_
        rintro e w1 ⟨rfl, hb⟩
        have HB1 := Lib.hid (ext_trans HB.out hb)
        have HO1 := Lib.hid (own_ext HO.out hb)
        clear hb c0 c1 c2 c3 c4 c5 c6 c7 hg1 hg2
        have HT2 := HT.out
        rw [if_pos HFr.out] at HT2
        have HT := Lib.hid HT2
        clear HT2
        generalize (stP ⟨nm, wh, fr, tl, el, tn, tu, tr⟩ es on).1 = s1 at *
        generalize (stP ⟨nm, wh, fr, tl, el, tn, tu, tr⟩ es on).2 = s2 at *
        go_wp2_with (at_builtin; refine wpList_append_own _ rfl _ _ _ rfl w.heap.size 150 i0 _ 11 112 Tryz.underlying74 HI.out HZ0.out HZ1.out HZ2.out rfl (by omega) u9 R.length _ rfl (World.ownsRow.alloc HO1.out _) ⟨w1.heap.size, 0, none⟩ 1 1 (roCells ⟨⟨nm, wh, fr, tl, el, tn, tu, tr⟩, s1, s2, -1⟩) rfl rfl (new_cells w1 (roCells ⟨⟨nm, wh, fr, tl, el, tn, tu, tr⟩, s1, s2, -1⟩) _ _ rfl) (ros_one _) (by simp only [maxLen]; omega) (by omega) (by have := HB1.out.size; simp; omega) ?_; intro v1 w2 hown hg _; obtain ⟨A1, c1, hv1, _⟩ := own_slice hown; subst hv1; have HO2 := Lib.hid hown; have HB2 := Lib.hid (Below.grown (ext_trans HB1.out (ext_alloc w1 _)) hg (by have := HB1.out.size; simp; omega) (fun g hg => (HO1.out.lt g hg).1)); clear hown hg)
        go_roundw
        case rel =>
          refine ⟨k + 1, by go_num, by omega, HB2.out, ?_⟩
          have ho := HO2.out
          show World.ownsRow _ _ _ _ _ _ _
          rw [HT.out, List.flatMap_append, List.length_append]
          simpa using ho
        case measure => simp [intOf] <;> omega
      · have HFr := Lib.hid hf
        have HT2 := HT.out
        rw [if_neg HFr.out, List.append_nil] at HT2
        have HT := Lib.hid HT2
        clear HT2
        go_wp2_with fail
        go_roundw
        case rel =>
          refine ⟨k + 1, by go_num, by omega, HB.out, ?_⟩
          show World.ownsRow _ _ _ _ _ _ _
          rw [HT.out]
          exact HO.out
        case measure => simp [intOf] <;> omega
    · have hcl : ¬ (k : Int) < (l.length : Int) := by omega
      obtain rfl : l.length = k := by omega
      rw [List.take_length] at HO
      have hbl := base_len l es on
      have HBM := Lib.hid (fun r (h : r ∈ baseR l es on) => base_in h)
      obtain ⟨B, hB⟩ : ∃ B, B = baseR l es on := ⟨_, rfl⟩
      rw [← hB] at HO hbl HBM
      have HBe := Lib.hid hB
      clear hB
      obtain ⟨A0, c0, rfl, hc1, hc2⟩ := own_slice HO.out
      have hBn : B.length ≤ 9223372036854775807 := by omega
      go_wp2_with fail
      go_loopw [9, 12] (fun s9 s12 wi => ∃ k : Nat, s12 = .int .i64 k ∧ k ≤ B.length ∧ Hid (Below w.heap.size w wi) ∧ Hid (wi.ownsRow w.heap.size 150 11 s9 (B.length + (moreR c es on (B.take k)).length) ((B ++ moreR c es on (B.take k)).flatMap roCells))) (fun _ s12 _ => B.length - (intOf s12).toNat)
      case atStart => exact ⟨0, rfl, Nat.zero_le _, HB.out, by show World.ownsRow _ _ _ _ _ _ _; simpa [more_nil] using HO.out⟩
      case round =>
        clear HB HO hk hcl hlt hc1 hc2
        obtain ⟨k, rfl, hk, HB, HO⟩ := hrel
        by_cases hlt : k < B.length
        · have hcl : (k : Int) < (B.length : Int) := by omega
          have HTK := Lib.hid (more_take (c := c) (es := es) (on := on) hlt)
          have hm := more_len c es on B k (by omega)
          have HMl := Lib.hid (HOK.out _ (HBM.out _ (List.getElem_mem hlt)))
          generalize moreR c es on (B.take k) = more at HO HTK hm
          obtain ⟨A1, c1, rfl, hc3, hc4⟩ := own_slice HO.out
          have hlt2 : k < (B ++ more).length := by rw [List.length_append]; omega
          have hge : (B ++ more)[k] = B[k] := List.getElem_append_left hlt
          obtain ⟨b, o, rfl, hd, c8, c9, c10⟩ := ro_at (Rd.of_own HO.out) hlt2
          rw [hge] at hd c8 c9 c10
          generalize B[k] = r at hd c8 c9 c10 HMl HTK
          clear hlt2 hge
          obtain ⟨⟨nm, wh, fr, tl, el, tn, tu, tr⟩, rs, rd, ro⟩ := r
          obtain ⟨c0, c1', c2, c3, c4, c5, c6, c7⟩ := hd
          simp only at c0 c1' c2 c3 c4 c5 c6 c7 c8 c9 c10 HMl HTK
          have ht1 : 1 ≤ tl := HMl.out.2.1.1
          have ht2 : tl ≤ 3652059 := HMl.out.2.1.2
          have hck : (k : Int) < ((B.length + more.length : Nat) : Int) := by omega
          have hwt : IntKind.i64.wrap (tl + 1) = tl + 1 := IntWalk.i64_in _ (by omega)
          have bx := Blk.new wr 133 [.string ⟨nm.toArray⟩, .string ⟨wh.toArray⟩, .int .i64 fr, .int .i64 tl, .string ⟨el.toArray⟩, .int .i64 tn, .int .i64 tu, .int .i64 tr]
          have hx1 := ext_alloc wr (.cells (List.toArray [.string ⟨nm.toArray⟩, .string ⟨wh.toArray⟩, .int .i64 fr, .int .i64 tl, .string ⟨el.toArray⟩, .int .i64 tn, .int .i64 tu, .int .i64 tr]) 133)
          obtain ⟨W, hW⟩ : ∃ W, W = wr.alloc (.cells (List.toArray [.string ⟨nm.toArray⟩, .string ⟨wh.toArray⟩, .int .i64 fr, .int .i64 tl, .string ⟨el.toArray⟩, .int .i64 tn, .int .i64 tu, .int .i64 tr]) 133) := ⟨_, rfl⟩
          obtain ⟨K, hK⟩ : ∃ K, K = wr.heap.size := ⟨_, rfl⟩
          rw [← hW] at bx hx1
          rw [← hK] at bx
          go_upto_region 12 with fail
          rw [show wr.alloc (.cells (List.toArray [.string ⟨nm.toArray⟩, .string ⟨wh.toArray⟩, .int .i64 fr, .int .i64 tl, .string ⟨el.toArray⟩, .int .i64 tn, .int .i64 tu, .int .i64 tr]) 133) = W from hW.symm, ← hK]
          have HX := Lib.hid hx1
          have HBX := Lib.hid (ext_trans HB.out hx1)
          have HKb := Lib.hid bx
          have d8 := cell_ext hx1 c8
          clear hW hK bx hx1 c0 c1' c2 c3 c4 c5 c6 c7 c8 c9 c10
          go_cut [14] (fun s14 wx => W = wx ∧ ∃ q : Bool, s14 = .bool q ∧ Hid (q = true ↔ (rs = 3 ∨ rs = 2)))
          case first =>
            by_cases z3 : rs = 3
            · subst z3
              go_wp2_with fail
              go_meet
              exact ⟨rfl, _, rfl, by show _ ↔ _; simp⟩
            · have q3 : (rs == 3) = false := by rw [beq_eq_false_iff_ne]; exact z3
              by_cases z2 : rs = 2
              · subst z2
                go_wp2_with fail
                go_meet
                exact ⟨rfl, _, rfl, by show _ ↔ _; simp⟩
              · have q2 : (rs == 2) = false := by rw [beq_eq_false_iff_ne]; exact z2
                go_wp2_with fail
                go_meet
                exact ⟨rfl, _, rfl, by show _ ↔ _; simp [z3, z2]⟩
          case rest =>
            obtain ⟨hww, q, rfl, HQ⟩ := hcut
            subst hww
            clear d8
            have x1 := HKb.out.cell 1 rfl
            have x3 := HKb.out.cell 3 rfl
            have x4 := HKb.out.cell 4 rfl
            have x5 := HKb.out.cell 5 rfl
            have x6 := HKb.out.cell 6 rfl
            have x7 := HKb.out.cell 7 rfl
            by_cases hn : Needs ⟨⟨nm, wh, fr, tl, el, tn, tu, tr⟩, rs, rd, ro⟩ on
            · have hq : q = true := HQ.out.2 hn.1
              subst hq
              have hel : el ≠ [] := hn.2.1
              have hto : tl + 1 ≤ on := hn.2.2
              have hto2 : ¬ on ≤ tl := by omega
              have qe : (el == []) = false := by cases el with | nil => exact absurd rfl hel | cons => rfl
              have qe2 : el.isEmpty = false := by cases el with | nil => exact absurd rfl hel | cons => rfl
              have HNd := Lib.hid hn
              have HCl := Lib.hid hel
              clear hn HQ hel
              go_wp2_with fail
              refine (rdue_any c hh cb co H hc (tl + 1) tn tu tr _ (HC.out.ext HBX.out)).mono ?_
              rintro e w4 ⟨⟨o1, o2⟩, hdu, rfl, hb4⟩
              have HTL := Lib.hid (HTK.out.trans (by rw [one_yes HNd.out (due_eq (x := ⟨nm, wh, fr, tl, el, tn, tu, tr⟩) hdu)]))
              clear hdu HTK
              have HK4 := Lib.hid (Sol.blk_ext HKb.out hb4)
              have HX4 := Lib.hid (ext_trans HX.out hb4)
              have HB4 := Lib.hid (ext_trans HB.out HX4.out)
              clear hb4 x1 x3 x4 x5 x6 x7
              have x1 := HK4.out.cell 1 rfl
              have x3 := HK4.out.cell 3 rfl
              have x4 := HK4.out.cell 4 rfl
              go_wp2_with fail
              refine (rstate_any el wh (tl + 1) o1 [] 0 0 0 on (by omega) (by omega) hon es (by omega) EA ec _ (HV.out.ext HB4.out)).mono ?_
              rintro e w5 ⟨rfl, hb5⟩
              have HX5 := Lib.hid (ext_trans HX4.out hb5)
              have HB5 := Lib.hid (ext_trans HB.out HX5.out)
              clear hb5 x1 x3 x4
              generalize (stP ⟨el, wh, tl + 1, o1, [], 0, 0, 0⟩ es on).1 = s1 at *
              generalize (stP ⟨el, wh, tl + 1, o1, [], 0, 0, 0⟩ es on).2 = s2 at *
              have HX6 := Lib.hid (show Below wr.heap.size wr (w5.alloc (.cells #[.string ⟨el.toArray⟩, .string ⟨wh.toArray⟩, .int .i64 (tl + 1), .int .i64 o1, .string ⟨#[]⟩, .int .i64 0, .int .i64 0, .int .i64 0, .int .i64 s1, .int .i64 s2, .int .i64 k] 150)) from ext_trans HX5.out (ext_alloc w5 _))
              have HB6 := Lib.hid (ext_trans HB.out HX6.out)
              have HO6 := Lib.hid (own_ext HO.out HX6.out)
              go_wp2_with (at_builtin; refine wpList_append_own _ rfl _ _ _ rfl w.heap.size 150 i0 _ 11 112 Tryz.underlying74 HI.out HZ0.out HZ1.out HZ2.out rfl (by omega) _ (B.length + more.length) _ rfl (World.ownsRow.alloc HO6.out _) ⟨w5.heap.size + 1, 0, none⟩ 1 1 (roCells ⟨⟨el, wh, tl + 1, o1, [], 0, 0, 0⟩, s1, s2, k⟩) rfl rfl (new_cells (w5.alloc (.cells #[.string ⟨el.toArray⟩, .string ⟨wh.toArray⟩, .int .i64 (tl + 1), .int .i64 o1, .string ⟨#[]⟩, .int .i64 0, .int .i64 0, .int .i64 0, .int .i64 s1, .int .i64 s2, .int .i64 k] 150)) (roCells ⟨⟨el, wh, tl + 1, o1, [], 0, 0, 0⟩, s1, s2, k⟩) _ _ (by simp)) (ros_one _) (by simp only [maxLen]; omega) (by omega) (by have := HB6.out.size; simp at this ⊢; omega) ?_; intro v1 w7 hown hg _; have HO7 := Lib.hid hown; have HB7 := Lib.hid (Below.grown (ext_trans HB6.out (ext_alloc (w5.alloc (.cells #[.string ⟨el.toArray⟩, .string ⟨wh.toArray⟩, .int .i64 (tl + 1), .int .i64 o1, .string ⟨#[]⟩, .int .i64 0, .int .i64 0, .int .i64 0, .int .i64 s1, .int .i64 s2, .int .i64 k] 150)) _)) hg (by have := HB6.out.size; simp at this ⊢; omega) (fun g hg => (HO6.out.lt g hg).1)); clear hown hg)
              go_roundw
              case rel =>
                refine ⟨k + 1, by go_num, by omega, HB7.out, ?_⟩
                have ho := HO7.out
                show World.ownsRow _ _ _ _ _ _ _
                rw [HTL.out]
                have e1 : B.length + (more ++ [(⟨⟨el, wh, tl + 1, o1, [], 0, 0, 0⟩, s1, s2, k⟩ : Ro)]).length = B.length + more.length + 1 := by rw [List.length_append]; rfl
                have e2 : (B ++ (more ++ [(⟨⟨el, wh, tl + 1, o1, [], 0, 0, 0⟩, s1, s2, k⟩ : Ro)])).flatMap roCells = (B ++ more).flatMap roCells ++ roCells ⟨⟨el, wh, tl + 1, o1, [], 0, 0, 0⟩, s1, s2, k⟩ := by rw [← List.append_assoc, List.flatMap_append]; simp
                rw [e1, e2]
                exact ho
              case measure => simp [intOf] <;> omega
            · have HTL := Lib.hid (HTK.out.trans (by rw [one_no hn, List.append_nil]))
              have HNd := Lib.hid hn
              clear hn HTK
              cases q
              · clear HQ
                go_wp2_with fail
                go_roundw
                case rel => exact ⟨k + 1, by go_num, by omega, HBX.out, by show World.ownsRow _ _ _ _ _ _ _; rw [HTL.out]; exact own_ext HO.out HX.out⟩
                case measure => simp [intOf] <;> omega
              · have HQ2 := Lib.hid (HQ.out.1 rfl)
                clear HQ
                cases el with
                | nil =>
                  go_wp2_with fail
                  go_roundw
                  case rel => exact ⟨k + 1, by go_num, by omega, HBX.out, by show World.ownsRow _ _ _ _ _ _ _; rw [HTL.out]; exact own_ext HO.out HX.out⟩
                  case measure => simp [intOf] <;> omega
                | cons e0 er =>
                  have hto : on ≤ tl := by
                    have h1 := HNd.out
                    have h2 := HQ2.out
                    unfold Needs at h1
                    simp only [ne_eq, reduceCtorEq, not_false_eq_true, true_and, h2] at h1
                    omega
                  go_wp2_with fail
                  go_roundw
                  case rel => exact ⟨k + 1, by go_num, by omega, HBX.out, by show World.ownsRow _ _ _ _ _ _ _; rw [HTL.out]; exact own_ext HO.out HX.out⟩
                  case measure => simp [intOf] <;> omega
        · have hcl : ¬ (k : Int) < (B.length : Int) := by omega
          obtain rfl : B.length = k := by omega
          have HSF := Lib.hid (show statesF c l es on = B ++ moreR c es on B by unfold statesF; rw [← HBe.out])
          rw [List.take_length] at HO
          obtain ⟨A1, c1, rfl, _, _⟩ := own_slice HO.out
          go_wp2_with fail
          go_ret
          show DsPost c l es on w _ _
          unfold DsPost
          rw [HSF.out]
          exact ⟨A1, c1, by rw [List.length_append]; rfl, Rd.of_own HO.out, HB.out⟩
end Go.Proofs.YtcpcejmlnhflpaaGreatDoor.Dut

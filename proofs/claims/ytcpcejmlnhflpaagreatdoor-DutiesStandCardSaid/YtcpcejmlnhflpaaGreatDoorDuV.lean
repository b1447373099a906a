/- Whether duties can be worked out. -/
import Derived.Test.YtcpcejmlnhflpaaGreatDoorDuW
import Derived.Test.YtcpcejmlnhflpaaGreatDoorDueP
import Derived.Deep.DeepCutAuto
namespace Go.Proofs.YtcpcejmlnhflpaaGreatDoor.Dut
open Go.RowKit Mem Nest Sol App CdP CdM Solve Err

theorem day_yes (d : Int) (h : Gd d) (w : World) : Calls Tryz.prog 41 #[.int .i64 d] w fun e w' => e = .returned (.bool true) ∧ w' = w :=
  (Day.good_yes d h.1 h.2 w).mono fun _ _ ⟨he, hw⟩ => ⟨he, hw.symm⟩
theorem day_no (d : Int) (h : ¬ Gd d) (w : World) : Calls Tryz.prog 41 #[.int .i64 d] w fun e w' => e = .returned (.bool false) ∧ w' = w :=
  (Day.good_no d (by unfold Gd at h; omega) w).mono fun _ _ ⟨he, hw⟩ => ⟨he, hw.symm⟩
theorem day_any (d : Int) (w : World) : Calls Tryz.prog 41 #[.int .i64 d] w fun e w' => e = .returned (.bool (decide (Gd d))) ∧ w' = w := by
  by_cases h : Gd d
  · rw [decide_eq_true h]; exact day_yes d h w
  · rw [decide_eq_false h]; exact day_no d h w
set_option maxHeartbeats 1000000 in
theorem valid1_any (xd : Int) (xn xw : List UInt8) (xv : Bool) (w : World) :
    Calls Tryz.prog 89 #[.agg #[.int .i64 xd, .string ⟨xn.toArray⟩, .string ⟨xw.toArray⟩, .bool xv]] w fun e w' => (∃ b : Bool, e = .returned (.bool b)) ∧ Below w.heap.size w w' := by
  go_enter Tryz.func89, Tryz.ntmps89
  go_wp2_with fail
  refine (day_any _ _).mono ?_
  rintro e w' ⟨rfl, rfl⟩
  go_wp2_with fail
  go_ret
  exact ⟨⟨_, rfl⟩, ext_alloc _ _⟩
set_option maxHeartbeats 1000000 in
theorem indexE_any (es : List Ev) (hl : es.length ≤ 1000) (A : Option Addr) (c : Nat) (w : World) (hr : Rd w A (es.flatMap evCells)) :
    Calls Tryz.prog 91 #[.slice A es.length c, .func (.func 89) #[] #[]] w fun e w' => (∃ r : Int, e = .returned (.int .i64 r) ∧ (es = [] → r = -1)) ∧ Below w.heap.size w w' := by
  have HR := Lib.hid hr
  clear hr
  go_enter Tryz.func91, Tryz.ntmps91
  go_wp2_with fail
  go_loopw [8] (fun i wr => ∃ k : Nat, k ≤ es.length ∧ i = .int .i64 k ∧ Hid (Below w.heap.size w wr)) (fun i _ => es.length - (intOf i).toNat)
  case atStart => exact ⟨0, Nat.zero_le _, rfl, Below.refl _ _⟩
  case round =>
    obtain ⟨k, hk, rfl, HB⟩ := hrel
    by_cases hlt : k < es.length
    · have HNE := Lib.hid (show es ≠ [] from fun h => by rw [h] at hlt; simp at hlt)
      have hcl : (k : Int) < (es.length : Int) := by omega
      obtain ⟨b, o, rfl, c0, c1, c2, c3⟩ := ev_at (HR.out.ext HB.out) hlt
      generalize es[k] = x at c0 c1 c2 c3
      obtain ⟨xd, xn, xw, xv⟩ := x
      simp only at c0 c1 c2 c3
      go_wp2_with fail
      refine (valid1_any xd xn xw xv _).mono ?_
      rintro e w' ⟨⟨bb, rfl⟩, hb⟩
      have HB2 := Lib.hid (ext_trans HB.out hb)
      clear hb c0 c1 c2 c3
      cases bb
      · go_wp2_with fail
        go_roundw
        case rel => exact ⟨k + 1, by omega, by go_num, HB2.out⟩
        case measure => simp [intOf]; omega
      · go_wp2_with fail
        go_ret
        exact ⟨⟨_, rfl, fun h => absurd h HNE.out⟩, HB2.out⟩
    · have hcl : ¬ (k : Int) < (es.length : Int) := by omega
      go_wp2_with fail
      go_ret
      exact ⟨⟨_, rfl, fun _ => rfl⟩, HB.out⟩
set_option maxHeartbeats 1000000 in
theorem containsE_any (es : List Ev) (hl : es.length ≤ 1000) (A : Option Addr) (c : Nat) (w : World) (hr : Rd w A (es.flatMap evCells)) :
    Calls Tryz.prog 88 #[.slice A es.length c, .func (.func 89) #[] #[]] w fun e w' => (∃ b : Bool, e = .returned (.bool b) ∧ (es = [] → b = false)) ∧ Below w.heap.size w w' := by
  have HI := Lib.hid (indexE_any es hl A c w hr)
  clear hr
  go_enter Tryz.func88, Tryz.ntmps88
  go_wp2_with fail
  refine HI.out.mono ?_
  rintro e w' ⟨⟨r, rfl, hf⟩, hb⟩
  have HF := Lib.hid hf
  have HB := Lib.hid hb
  clear hf hb
  by_cases hr : 0 ≤ r
  · go_wp2_with fail
    go_ret
    exact ⟨⟨_, rfl, fun h => by have := HF.out h; omega⟩, HB.out⟩
  · go_wp2_with fail
    go_ret
    exact ⟨⟨_, rfl, fun _ => decide_eq_false (by omega)⟩, HB.out⟩
/-- a duty's days -/
def DOk (x : Dt) : Prop := Gd x.fr ∧ Gd x.till ∧ x.fr ≤ x.till
def VOk (l : List Dt) (on : Int) (k : Nat) : Prop := Gd on ∧ ∀ x ∈ l.take k, DOk x
theorem VOk.succ {l : List Dt} {on : Int} {k : Nat} (h : k < l.length) : VOk l on (k + 1) ↔ VOk l on k ∧ DOk l[k] := by
  unfold VOk
  rw [List.take_succ_eq_append_getElem h]
  constructor
  · rintro ⟨a, b⟩
    exact ⟨⟨a, fun x hx => b x (List.mem_append_left _ hx)⟩, b _ (List.mem_append_right _ (by simp))⟩
  · rintro ⟨⟨a, b⟩, c⟩
    refine ⟨a, fun x hx => ?_⟩
    rcases List.mem_append.1 hx with hx | hx
    · exact b x hx
    · simp at hx; rw [hx]; exact c
/-- what is easy -/
def Easy (l : List Dt) (es : List Ev) (on : Int) : Prop := es = [] ∧ l.length ≤ 200 ∧ VOk l on l.length ∧ ∀ x ∈ l, x.els = []
def VaPost (l : List Dt) (es : List Ev) (on : Int) (w : World) (e : Ending) (w' : World) : Prop := (∃ v, e = .returned v ∧ ((v = .nilIface ∧ l.length ≤ 200 ∧ es.length ≤ 400 ∧ VOk l on l.length) ∨ ((∃ a, v = errV a) ∧ ¬ Easy l es on))) ∧ Below w.heap.size w w'
set_option maxRecDepth 100000 in
set_option maxHeartbeats 8000000 in
theorem dvalid_any (l : List Dt) (hl : l.length ≤ 1000) (es : List Ev) (he : es.length ≤ 1000) (c : Cd) (ok : CdOk c) (cb co : Nat) (H : Option Addr) (hc : Nat) (on : Int) (A : Nat → Addr) (LA EA : Option Addr) (lc ec : Nat) (w : World)
    (hd : Rd w LA (l.flatMap dtCells)) (hv : Rd w EA (es.flatMap evCells)) (hC : CdA w cb co c H hc) (hE : E3 w A) :
    Calls Tryz.prog 55 #[.slice LA l.length lc, .slice EA es.length ec, .pointer (some ⟨cb, co, none⟩), .int .i64 on] w (VaPost l es on w) := by
  have HD := Lib.hid hd
  have HV := Lib.hid hv
  have HC := Lib.hid hC
  have HE := Lib.hid hE
  have h1 := hE.v1
  have h3 := hE.v3
  unfold sentV at h1 h3
  have HG1 := Lib.hid h1
  have HG3 := Lib.hid h3
  have HOK := Lib.hid ok
  clear hd hv hC hE ok h1 h3
  go_enter Tryz.func55, Tryz.ntmps55
  by_cases n1 : 200 < l.length
  · have n1' : (200 : Int) < (l.length : Int) := by omega
    have g1 := HG1.out
    go_wp2_with fail
    go_ret
    exact ⟨⟨_, rfl, .inr ⟨⟨_, rfl⟩, fun h => absurd h.2.1 (by omega)⟩⟩, Below.refl _ _⟩
  · have n1' : ¬ (200 : Int) < (l.length : Int) := by omega
    by_cases n2 : 400 < es.length
    · have n2' : (400 : Int) < (es.length : Int) := by omega
      have g1 := HG1.out
      have HNE := Lib.hid (show es ≠ [] from fun h => by rw [h] at n2; simp at n2)
      go_wp2_with fail
      go_ret
      exact ⟨⟨_, rfl, .inr ⟨⟨_, rfl⟩, fun h => HNE.out h.1⟩⟩, Below.refl _ _⟩
    · have n2' : ¬ (400 : Int) < (es.length : Int) := by omega
      go_upto_region 3 with fail
      go_cut [9] (fun s9 wx => w = wx ∧ ∃ b0 : Bool, s9 = .bool b0 ∧ Hid (b0 = false ↔ VOk l on 0))
      case first =>
        by_cases hg : Gd on
        · have HGd := Lib.hid hg
          clear hg
          go_wp2_with fail
          refine (day_yes _ HGd.out _).mono ?_
          rintro e w' ⟨rfl, rfl⟩
          go_wp2_with fail
          go_meet
          exact ⟨rfl, _, rfl, by show _ ↔ _; simp [VOk, HGd.out]⟩
        · have HGd := Lib.hid hg
          clear hg
          go_wp2_with fail
          refine (day_no _ HGd.out _).mono ?_
          rintro e w' ⟨rfl, rfl⟩
          go_wp2_with fail
          go_meet
          exact ⟨rfl, _, rfl, by show _ ↔ _; simp [VOk, HGd.out]⟩
      case rest =>
        obtain ⟨rfl, b0, rfl, HB0⟩ := hcut
        go_wp2_with fail
        go_loopw [9, 30] (fun s9 s30 wr => ∃ (bb : Bool) (k : Nat), s9 = .bool bb ∧ s30 = .int .i64 k ∧ k ≤ l.length ∧ Hid (Below w.heap.size w wr) ∧ Hid (bb = false ↔ VOk l on k)) (fun _ s30 _ => l.length - (intOf s30).toNat)
        case atStart => exact ⟨b0, 0, rfl, rfl, by omega, Below.refl _ _, HB0.out⟩
        case round =>
          clear HB0
          obtain ⟨bb, k, rfl, rfl, hk, HB, HV2⟩ := hrel
          by_cases hlt : k < l.length
          · have hcl : (k : Int) < (l.length : Int) := by omega
            obtain ⟨b, o, rfl, hd⟩ := dt_at (HD.out.ext HB.out) hlt
            have HVS := Lib.hid (VOk.succ (on := on) hlt)
            generalize l[k] = x at hd HVS
            obtain ⟨nm, wh, fr, tl, el, tn, tu, tr⟩ := x
            obtain ⟨c0, c1, c2, c3, c4, c5, c6, c7⟩ := hd
            simp only at c0 c1 c2 c3 c4 c5 c6 c7
            have HX := Lib.hid (ext_alloc wr (.cells #[.string ⟨nm.toArray⟩, .string ⟨wh.toArray⟩, .int .i64 fr, .int .i64 tl, .string ⟨el.toArray⟩, .int .i64 tn, .int .i64 tu, .int .i64 tr] 128))
            cases bb
            · have HF := Lib.hid (HV2.out.1 rfl)
              by_cases g1 : Gd fr
              · have HA := Lib.hid g1
                clear g1
                by_cases g2 : Gd tl
                · have HBd := Lib.hid g2
                  clear g2
                  by_cases g3 : tl < fr
                  · skip
                    go_wp2_with fail
                    refine (day_yes _ HA.out _).mono ?_
                    rintro e w' ⟨rfl, rfl⟩
                    go_wp2_with fail
                    refine (day_yes _ HBd.out _).mono ?_
                    rintro e w' ⟨rfl, rfl⟩
                    go_wp2_with fail
                    go_roundw
                    case rel =>
                      refine ⟨_, k + 1, rfl, by go_num, by omega, ext_trans HB.out HX.out, ?_⟩
                      show _ ↔ _; rw [HVS.out]; simp [DOk]; omega
                    case measure => simp [intOf]; omega
                  · skip
                    go_wp2_with fail
                    refine (day_yes _ HA.out _).mono ?_
                    rintro e w' ⟨rfl, rfl⟩
                    go_wp2_with fail
                    refine (day_yes _ HBd.out _).mono ?_
                    rintro e w' ⟨rfl, rfl⟩
                    go_wp2_with fail
                    go_roundw
                    case rel =>
                      refine ⟨_, k + 1, rfl, by go_num, by omega, ext_trans HB.out HX.out, ?_⟩
                      show _ ↔ _; rw [HVS.out]; simp [DOk, HF.out, HA.out, HBd.out]
                    case measure => simp [intOf]; omega
                · have HBd := Lib.hid g2
                  clear g2
                  go_wp2_with fail
                  refine (day_yes _ HA.out _).mono ?_
                  rintro e w' ⟨rfl, rfl⟩
                  go_wp2_with fail
                  refine (day_no _ HBd.out _).mono ?_
                  rintro e w' ⟨rfl, rfl⟩
                  go_wp2_with fail
                  go_roundw
                  case rel =>
                    refine ⟨_, k + 1, rfl, by go_num, by omega, ext_trans HB.out HX.out, ?_⟩
                    show _ ↔ _; rw [HVS.out]; simp [DOk, HBd.out]
                  case measure => simp [intOf]; omega
              · have HA := Lib.hid g1
                clear g1
                go_wp2_with fail
                refine (day_no _ HA.out _).mono ?_
                rintro e w' ⟨rfl, rfl⟩
                go_wp2_with fail
                go_roundw
                case rel =>
                  refine ⟨_, k + 1, rfl, by go_num, by omega, ext_trans HB.out HX.out, ?_⟩
                  show _ ↔ _; rw [HVS.out]; simp [DOk, HA.out]
                case measure => simp [intOf]; omega
            · have HF := Lib.hid (show ¬ VOk l on k from fun h => by have := HV2.out.2 h; cases this)
              go_wp2_with fail
              go_roundw
              case rel =>
                refine ⟨_, k + 1, rfl, by go_num, by omega, ext_trans HB.out HX.out, ?_⟩
                show _ ↔ _; rw [HVS.out]; simp [HF.out]
              case measure => simp [intOf]; omega
          · have hcl : ¬ (k : Int) < (l.length : Int) := by omega
            obtain rfl : l.length = k := by omega
            have g3 := cell_ext HB.out HG3.out
            cases bb
            · have HF := Lib.hid (HV2.out.1 rfl)
              go_wp2_with fail
              refine (containsE_any es (by omega) EA ec _ (HV.out.ext HB.out)).mono ?_
              rintro e w2 ⟨⟨b2, rfl, hb2⟩, hb⟩
              have HB2 := Lib.hid (ext_trans HB.out hb)
              have g3 := cell_ext hb g3
              cases b2
              · clear hb g3 HV2 hb2
                obtain ⟨w1, hw1⟩ : ∃ w1, w1 = w2 := ⟨_, rfl⟩
                subst hw1
                go_wp2_with fail
                go_loopw [63] (fun s63 wi => ∃ k : Nat, s63 = .int .i64 k ∧ k ≤ l.length ∧ Hid (Below w.heap.size w wi)) (fun s63 _ => l.length - (intOf s63).toNat)
                case atStart => exact ⟨0, rfl, by omega, HB2.out⟩
                case round =>
                  clear HB HB2 hk hcl hlt
                  obtain ⟨k, rfl, hk, HB⟩ := hrel
                  by_cases hlt : k < l.length
                  · have hcl : (k : Int) < (l.length : Int) := by omega
                    obtain ⟨b, o, rfl, hd⟩ := dt_at (HD.out.ext HB.out) hlt
                    have HM := Lib.hid (List.getElem_mem hlt)
                    generalize l[k] = x at hd HM
                    obtain ⟨nm, wh, fr, tl, el, tn, tu, tr⟩ := x
                    have htl : Gd tl := (HF.out.2 _ (show (⟨nm, wh, fr, tl, el, tn, tu, tr⟩ : Dt) ∈ l.take l.length by rw [List.take_of_length_le (by omega)]; exact HM.out)).2.1
                    have ht1 := htl.1
                    have ht2 := htl.2
                    clear htl
                    obtain ⟨c0, c1, c2, c3, c4, c5, c6, c7⟩ := hd
                    simp only at c0 c1 c2 c3 c4 c5 c6 c7
                    have HX := Lib.hid (ext_alloc wr (.cells #[.string ⟨nm.toArray⟩, .string ⟨wh.toArray⟩, .int .i64 fr, .int .i64 tl, .string ⟨el.toArray⟩, .int .i64 tn, .int .i64 tu, .int .i64 tr] 128))
                    have HB3 := Lib.hid (ext_trans HB.out HX.out)
                    cases el with
                    | nil =>
                      go_wp2_with fail
                      go_roundw
                      case rel => exact ⟨k + 1, by go_num, by omega, HB3.out⟩
                      case measure => simp [intOf]; omega
                    | cons e0 er =>
                      have HNE := Lib.hid (show ¬ Easy l es on from fun h => by have := h.2.2.2 _ HM.out; cases this)
                      skip
                      go_wp2_with fail
                      refine (pdue_any c HOK.out cb co H hc (tl + 1) tn tu tr A _ (HC.out.ext HB3.out) (HE.out.below HB3.out)).mono ?_
                      rintro e w4 ⟨o4, ho4, rfl, hb4⟩
                      have HB4 := Lib.hid (ext_trans HB3.out hb4)
                      clear hb4 ho4 c0 c1 c2 c3 c4 c5 c6 c7
                      obtain ⟨o1, o2⟩ := o4
                      by_cases z : o2 = 0
                      · subst z
                        rw [errC_zero]
                        go_wp2_with fail
                        go_roundw
                        case rel => exact ⟨k + 1, by go_num, by omega, HB4.out⟩
                        case measure => simp [intOf]; omega
                      · have hx : errC A o2 = errV (A (o2 - 1).toNat) := by unfold errC; rw [if_neg z]
                        rw [hx]
                        unfold errV
                        clear hx
                        go_wp2_with fail
                        go_ret
                        exact ⟨⟨_, rfl, .inr ⟨⟨_, rfl⟩, HNE.out⟩⟩, HB4.out⟩
                  · have hcl : ¬ (k : Int) < (l.length : Int) := by omega
                    go_wp2_with fail
                    go_ret
                    exact ⟨⟨_, rfl, .inl ⟨rfl, by omega, by omega, HF.out⟩⟩, HB.out⟩
              · have HNE := Lib.hid (show ¬ Easy l es on from fun h => by have := hb2 h.1; cases this)
                clear hb hb2
                go_wp2_with fail
                go_ret
                exact ⟨⟨_, rfl, .inr ⟨⟨_, rfl⟩, HNE.out⟩⟩, HB2.out⟩
            · have HF := Lib.hid (show ¬ VOk l on l.length from fun h => by have := HV2.out.2 h; cases this)
              go_wp2_with fail
              go_ret
              exact ⟨⟨_, rfl, .inr ⟨⟨_, rfl⟩, fun h => HF.out h.2.2.1⟩⟩, HB.out⟩
end Go.Proofs.YtcpcejmlnhflpaaGreatDoor.Dut

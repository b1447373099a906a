/- DutiesFirm: what is done is done. -/
import Derived.Test.YtjnkcpeicocjhaaDoorDuL
import Derived.Test.YtjnkcpeicocjhaaDoorDuW2
namespace Go.Proofs.YtjnkcpeicocjhaaDoor.DutiesFirm
open Go.RowKit Mem Nest Sol App CdP CdM Solve Err Dut

/-- what States comes to, for the law -/
def UsePost (l : List Dt) (es : List Ev) (on : Int) (w : World) (e : Ending) (w' : World) : Prop :=
  ((∃ a, e = .returned (.tuple #[.slice none 0 0, errV a])) ∨
   ∃ (A : Option Addr) (c : Nat) (P : List Ro), e = .returned (.tuple #[.slice A P.length c, .nilIface]) ∧ Rd w' A (P.flatMap roCells) ∧ (∀ r ∈ P, r.of < 0 → r ∈ baseR l es on) ∧ (∀ r ∈ baseR l es on, r ∈ P) ∧ VOk l on l.length ∧ P.length ≤ 2000) ∧ Below w.heap.size w w'
theorem states_use (l : List Dt) (hl : l.length ≤ 1000) (es : List Ev) (he : es.length ≤ 1000) (on : Int) (A : Nat → Addr) (LA EA : Option Addr) (lc ec : Nat) (w : World)
    (hd : Rd w LA (l.flatMap dtCells)) (hv : Rd w EA (es.flatMap evCells)) (hE : E3 w A) :
    Calls Tryd.prog 9 #[.slice LA l.length lc, .slice EA es.length ec, .pointer none, .int .i64 on] w (UsePost l es on w) := by
  refine (states_ret l hl es he on A LA EA lc ec w hd hv hE).mono ?_
  rintro e w' ⟨⟨a, h, _⟩ | ⟨A1, c1, more, h, hr, hm, _, hml, hok, _⟩, hb⟩
  · exact ⟨.inl ⟨a, h⟩, hb⟩
  · refine ⟨.inr ⟨A1, c1, baseR l es on ++ more, ?_, hr, ?_, fun r hr => List.mem_append_left _ hr, hok, ?_⟩, hb⟩
    · rw [List.length_append]; exact h
    · intro r hr ho
      rcases List.mem_append.1 hr with hr | hr
      · exact hr
      · have := hm r hr; omega
    · have := base_len l es on
      rw [List.length_append]
      omega
theorem ro_ext {w w' : World} {b o : Nat} {r : Ro} (h : RoAt w b o r) (hb : Below w.heap.size w w') : RoAt w' b o r := ⟨h.d.ext hb, cell_ext hb h.c8, cell_ext hb h.c9, cell_ext hb h.c10⟩
def XM (x y : Ro) : Prop := y.d = x.d ∧ y.st = x.st ∧ y.day = x.day
def Sn (Q : List Ro) (x : Ro) (k : Nat) (fb : Bool) : Prop := ∀ j, j < k → ∀ h : j < Q.length, XM x Q[j] → fb = true
theorem Sn.succ {Q : List Ro} {x : Ro} {k : Nat} {fb fb' : Bool} (h : Sn Q x k fb) (hf : fb = true → fb' = true) (hk : ∀ h : k < Q.length, XM x Q[k] → fb' = true) : Sn Q x (k + 1) fb' := by
  intro j hj hq hx
  by_cases e : j = k
  · subst e; exact hk hq hx
  · exact hf (h j (by omega) hq hx)
def LawPost (w : World) (e : Ending) (w' : World) : Prop := e = .returned (.bool true) ∧ Below w.heap.size w w'
set_option maxRecDepth 100000 in
set_option maxHeartbeats 8000000 in
theorem walk (l : List Dt) (es : List Ev) (on later : Int) (A : Nat → Addr) (LA EA : Option Addr) (lc ec : Nat) (hl : l.length ≤ 9223372036854775807) (he : es.length ≤ 9223372036854775807) (w : World) (hd : Rd w LA (l.flatMap dtCells)) (hv : Rd w EA (es.flatMap evCells)) (hE : E3 w A) :
    Calls Tryd.prog 3 #[.slice LA l.length lc, .slice EA es.length ec, .int .i64 on, .int .i64 later] w (LawPost w) := by
  have HD := Lib.hid hd
  have HV := Lib.hid hv
  have HE := Lib.hid hE
  clear hd hv hE
  go_enter Tryd.func3, Tryd.ntmps3
  go_wp2_with fail
  refine (due_any A w HE.out).mono ?_
  rintro e w1 ⟨rfl, hb1⟩
  have HB1 := Lib.hid hb1
  clear hb1
  go_wp2_with fail
  refine (near_any l es on LA EA lc ec hl he w1 (HD.out.ext HB1.out)).mono ?_
  rintro e w2 ⟨⟨b, rfl, hn⟩, hb2⟩
  have HB2 := Lib.hid (ext_trans HB1.out hb2)
  clear hb2
  cases b
  · go_wp2_with fail
    go_ret
    exact ⟨rfl, HB2.out⟩
  · obtain ⟨h202, h402⟩ := hn rfl
    clear hn
    by_cases hon : later < on
    · go_wp2_with fail
      go_ret
      exact ⟨rfl, HB2.out⟩
    · have HON := Lib.hid (show on ≤ later by omega)
      go_wp2_with fail
      refine (dutiesOf_any l (by omega) LA lc _ (HD.out.ext HB2.out)).mono ?_
      rintro e w3 ⟨A3, c3, rfl, hr3, _, _, hb3⟩
      have HB3 := Lib.hid (ext_trans HB2.out hb3)
      have HR3 := Lib.hid hr3
      clear hr3 hb3
      go_wp2_with fail
      refine (eventsOf_any es (by omega) EA ec _ (HV.out.ext HB3.out)).mono ?_
      rintro e w4 ⟨A4, c4, rfl, hr4, _, _, hb4⟩
      have HB4 := Lib.hid (ext_trans HB3.out hb4)
      have HR3 := Lib.hid (HR3.out.ext hb4)
      have HR4 := Lib.hid hr4
      clear hr4 hb4
      go_wp2_with fail
      refine (states_use l (by omega) es (by omega) on A A3 A4 c3 c4 _ HR3.out HR4.out (HE.out.below HB4.out)).mono ?_
      rintro e w5 ⟨hs, hb5⟩
      have HB5 := Lib.hid (ext_trans HB4.out hb5)
      clear HR3 HR4 hb5
      rcases hs with ⟨a, rfl⟩ | ⟨PA, pc, P, rfl, hp, hp1, _, hok, hpl⟩
      · unfold errV
        go_wp2_with fail
        refine (dutiesOf_any l (by omega) LA lc _ (HD.out.ext HB5.out)).mono ?_
        rintro e w6 ⟨A6, c6, rfl, hr6, _, _, hb6⟩
        have HB6 := Lib.hid (ext_trans HB5.out hb6)
        have HR6 := Lib.hid hr6
        clear hr6 hb6
        go_wp2_with fail
        refine (eventsOf_any es (by omega) EA ec _ (HV.out.ext HB6.out)).mono ?_
        rintro e w7 ⟨A7, c7, rfl, hr7, _, _, hb7⟩
        have HB7 := Lib.hid (ext_trans HB6.out hb7)
        have HR6 := Lib.hid (HR6.out.ext hb7)
        have HR7 := Lib.hid hr7
        clear hr7 hb7
        go_wp2_with fail
        refine (states_use l (by omega) es (by omega) later A A6 A7 c6 c7 _ HR6.out HR7.out (HE.out.below HB7.out)).mono ?_
        rintro e w8 ⟨hs, hb8⟩
        have HB8 := Lib.hid (ext_trans HB7.out hb8)
        clear HR6 HR7 hb8
        rcases hs with ⟨a2, rfl⟩ | ⟨QA, qc, Q, rfl, _, _, _, _, _⟩
        · unfold errV
          go_wp2_with fail
          go_ret
          exact ⟨rfl, HB8.out⟩
        · skip
          go_wp2_with fail
          go_ret
          exact ⟨rfl, HB8.out⟩
      · have HP := Lib.hid hp
        have HP1 := Lib.hid hp1
        have HOK := Lib.hid hok
        clear hp hp1 hok
        go_wp2_with fail
        refine (dutiesOf_any l (by omega) LA lc _ (HD.out.ext HB5.out)).mono ?_
        rintro e w6 ⟨A6, c6, rfl, hr6, _, _, hb6⟩
        have HB6 := Lib.hid (ext_trans HB5.out hb6)
        have HR6 := Lib.hid hr6
        have HP6 := Lib.hid (HP.out.ext hb6)
        clear hr6 hb6
        go_wp2_with fail
        refine (eventsOf_any es (by omega) EA ec _ (HV.out.ext HB6.out)).mono ?_
        rintro e w7 ⟨A7, c7, rfl, hr7, _, _, hb7⟩
        have HB7 := Lib.hid (ext_trans HB6.out hb7)
        have HR6 := Lib.hid (HR6.out.ext hb7)
        have HR7 := Lib.hid hr7
        have HP7 := Lib.hid (HP6.out.ext hb7)
        clear hr7 hb7
        go_wp2_with fail
        refine (states_use l (by omega) es (by omega) later A A6 A7 c6 c7 _ HR6.out HR7.out (HE.out.below HB7.out)).mono ?_
        rintro e w8 ⟨hs, hb8⟩
        have HB8 := Lib.hid (ext_trans HB7.out hb8)
        have HP8 := Lib.hid (HP7.out.ext hb8)
        clear HR6 HR7 hb8 HP HP6 HP7
        rcases hs with ⟨a2, rfl⟩ | ⟨QA, qc, Q, rfl, hq, _, hq2, _, hql⟩
        · unfold errV
          go_wp2_with fail
          go_ret
          exact ⟨rfl, HB8.out⟩
        · have HQ := Lib.hid hq
          have HQ2 := Lib.hid hq2
          clear hq hq2
          go_wp2_with fail
          go_loopw [15] (fun s15 wr => ∃ i : Nat, s15 = .int .i64 i ∧ i ≤ P.length ∧ Hid (Below w8.heap.size w8 wr)) (fun s15 _ => P.length - (intOf s15).toNat)
          case atStart => exact ⟨0, rfl, Nat.zero_le _, Below.refl _ _⟩
          case round =>
            obtain ⟨i, rfl, hi, HB⟩ := hrel
            by_cases hlt : i < P.length
            · have hcl : (i : Int) < (P.length : Int) := by omega
              obtain ⟨b, o, rfl, hro⟩ := ro_at (HP8.out.ext HB.out) hlt
              have HMm := Lib.hid (List.getElem_mem hlt)
              generalize P[i] = x at hro HMm
              have HX := Lib.hid hro
              obtain ⟨⟨nm, wh, fr, tl, el, tn, tu, tr⟩, rs, rd, ro⟩ := x
              obtain ⟨_, c8, _, c10⟩ := hro
              simp only at c8 c10
              go_upto_region 12 with fail
              go_cut [86] (fun s86 wx => wr = wx ∧ ∃ q : Bool, s86 = .bool q ∧ Hid (q = false → rs ≠ 0 ∧ rs ≠ 3 ∧ ro < 0))
              case first =>
                by_cases z0 : rs = 0
                · subst z0
                  go_wp2_with fail
                  go_meet
                  exact ⟨rfl, _, rfl, fun h => by cases h⟩
                · have HZ0 := Lib.hid z0
                  have q0 : (rs == 0) = false := by rw [beq_eq_false_iff_ne]; exact z0
                  by_cases z3 : rs = 3
                  · subst z3
                    go_wp2_with fail
                    go_meet
                    exact ⟨rfl, _, rfl, fun h => by cases h⟩
                  · have HZ3 := Lib.hid z3
                    have q3 : (rs == 3) = false := by rw [beq_eq_false_iff_ne]; exact z3
                    by_cases zo : 0 ≤ ro
                    · go_wp2_with fail
                      go_meet
                      exact ⟨rfl, _, rfl, fun h => by cases h⟩
                    · go_wp2_with fail
                      go_meet
                      exact ⟨rfl, _, rfl, fun _ => ⟨HZ0.out, HZ3.out, by omega⟩⟩
              case rest =>
                obtain ⟨rfl, q, rfl, HF⟩ := hcut
                clear c8 c10
                cases q
                · have hf := HF.out rfl
                  have hbm := HP1.out _ HMm.out hf.2.2
                  have hfr : ∀ x ∈ l, 1 ≤ x.fr := fun x hx => (HOK.out.2 x (by rw [List.take_length]; exact hx)).1.1
                  have HS := Lib.hid (base_firm hfr HON.out hbm hf.1 hf.2.1)
                  clear hf hbm hfr HF
                  obtain ⟨x, hx⟩ : ∃ x : Ro, x = ⟨⟨nm, wh, fr, tl, el, tn, tu, tr⟩, rs, rd, ro⟩ := ⟨_, rfl⟩
                  rw [← hx] at HS HX HMm
                  have HXe := Lib.hid hx
                  clear hx
                  go_wp2_with fail
                  go_loopw [16, 17] (fun s16 s17 wi => ∃ (fb : Bool) (k : Nat), s16 = .bool fb ∧ s17 = .int .i64 k ∧ k ≤ Q.length ∧ Hid (Below wr.heap.size wr wi) ∧ Hid (Sn Q x k fb)) (fun _ s17 _ => Q.length - (intOf s17).toNat)
                  case atStart => exact ⟨false, 0, rfl, rfl, Nat.zero_le _, Below.refl _ _, fun j hj => absurd hj (by omega)⟩
                  case round =>
                    obtain ⟨fb, k, rfl, rfl, hk, HBi, HSn⟩ := hrel
                    by_cases hlk : k < Q.length
                    · have hck : (k : Int) < (Q.length : Int) := by omega
                      obtain ⟨b2, o2, rfl, hro2⟩ := ro_at (HQ.out.ext (ext_trans HB.out HBi.out)) hlk
                      have hro1 := ro_ext HX.out HBi.out
                      have HSu := Lib.hid (fun (fb' : Bool) (hf : fb = true → fb' = true) (hk : XM x Q[k] → fb' = true) => HSn.out.succ hf (fun _ => hk))
                      generalize Q[k] = y at hro2 HSu
                      rw [HXe.out] at hro1 HSu
                      obtain ⟨⟨nm2, wh2, fr2, tl2, el2, tn2, tu2, tr2⟩, rs2, rd2, ro2⟩ := y
                      obtain ⟨⟨c0, c1, c2, c3, c4, c5, c6, c7⟩, c8, c9, _⟩ := hro1
                      obtain ⟨⟨d0, d1, d2, d3, d4, d5, d6, d7⟩, d8, d9, _⟩ := hro2
                      simp only at c0 c1 c2 c3 c4 c5 c6 c7 c8 c9 d0 d1 d2 d3 d4 d5 d6 d7 d8 d9
                      have hge := duty_guard
                      cases fb
                      · obtain ⟨r, hr⟩ : ∃ r, r = dtEq ⟨nm2, wh2, fr2, tl2, el2, tn2, tu2, tr2⟩ ⟨nm, wh, fr, tl, el, tn, tu, tr⟩ := ⟨_, rfl⟩
                        have hqe : ∀ w, Sem.run Tryd.prog (binOp .eql 38 (.agg #[.string ⟨nm2.toArray⟩, .string ⟨wh2.toArray⟩, .int .i64 fr2, .int .i64 tl2, .string ⟨el2.toArray⟩, .int .i64 tn2, .int .i64 tu2, .int .i64 tr2]) (.agg #[.string ⟨nm.toArray⟩, .string ⟨wh.toArray⟩, .int .i64 fr, .int .i64 tl, .string ⟨el.toArray⟩, .int .i64 tn, .int .i64 tu, .int .i64 tr])) w = .ok (.bool r) w := fun w => by rw [hr]; exact duty_eql _ _ _ _ _ _ _ _ _ _ _ _ _ _ _ _ w
                        have HQe := Lib.hid (show r = true ↔ (⟨nm2, wh2, fr2, tl2, el2, tn2, tu2, tr2⟩ : Dt) = ⟨nm, wh, fr, tl, el, tn, tu, tr⟩ by rw [hr]; exact dtEq_iff _ _)
                        clear hr
                        cases r
                        · have HNo := Lib.hid (show ¬ XM ⟨⟨nm, wh, fr, tl, el, tn, tu, tr⟩, rs, rd, ro⟩ ⟨⟨nm2, wh2, fr2, tl2, el2, tn2, tu2, tr2⟩, rs2, rd2, ro2⟩ from fun h => by have := HQe.out.2 h.1; cases this)
                          go_wp2_with fail
                          go_quiet (fail)
                          go_wp2_with fail
                          go_roundw
                          case rel => exact ⟨_, k + 1, rfl, by go_num, by omega, ext_trans HBi.out (ext_drewN _ nq), by show Sn Q x (k + 1) _; rw [HXe.out]; exact HSu.out _ (fun h => by cases h) (fun h => absurd h HNo.out)⟩
                          case measure => simp [intOf] <;> omega
                        · by_cases z1 : rs2 = rs
                          · have q1 : (rs2 == rs) = true := by rw [z1]; simp
                            by_cases z2 : rd2 = rd
                            · have q2 : (rd2 == rd) = true := by rw [z2]; simp
                              clear z1 z2
                              go_wp2_with fail
                              go_quiet (fail)
                              go_wp2_with fail
                              go_roundw
                              case rel => exact ⟨_, k + 1, rfl, by go_num, by omega, ext_trans HBi.out (ext_drewN _ nq), by show Sn Q x (k + 1) _; rw [HXe.out]; exact HSu.out _ (fun _ => rfl) (fun _ => rfl)⟩
                              case measure => simp [intOf] <;> omega
                            · have q2 : (rd2 == rd) = false := by rw [beq_eq_false_iff_ne]; exact z2
                              have HNo := Lib.hid (show ¬ XM ⟨⟨nm, wh, fr, tl, el, tn, tu, tr⟩, rs, rd, ro⟩ ⟨⟨nm2, wh2, fr2, tl2, el2, tn2, tu2, tr2⟩, rs2, rd2, ro2⟩ from fun h => z2 h.2.2)
                              clear z1 z2
                              go_wp2_with fail
                              go_quiet (fail)
                              go_wp2_with fail
                              go_roundw
                              case rel => exact ⟨_, k + 1, rfl, by go_num, by omega, ext_trans HBi.out (ext_drewN _ nq), by show Sn Q x (k + 1) _; rw [HXe.out]; exact HSu.out _ (fun h => by cases h) (fun h => absurd h HNo.out)⟩
                              case measure => simp [intOf] <;> omega
                          · have q1 : (rs2 == rs) = false := by rw [beq_eq_false_iff_ne]; exact z1
                            have HNo := Lib.hid (show ¬ XM ⟨⟨nm, wh, fr, tl, el, tn, tu, tr⟩, rs, rd, ro⟩ ⟨⟨nm2, wh2, fr2, tl2, el2, tn2, tu2, tr2⟩, rs2, rd2, ro2⟩ from fun h => z1 h.2.1)
                            clear z1
                            go_wp2_with fail
                            go_quiet (fail)
                            go_wp2_with fail
                            go_roundw
                            case rel => exact ⟨_, k + 1, rfl, by go_num, by omega, ext_trans HBi.out (ext_drewN _ nq), by show Sn Q x (k + 1) _; rw [HXe.out]; exact HSu.out _ (fun h => by cases h) (fun h => absurd h HNo.out)⟩
                            case measure => simp [intOf] <;> omega
                      · skip
                        go_wp2_with fail
                        go_quiet (fail)
                        go_wp2_with fail
                        go_roundw
                        case rel => exact ⟨_, k + 1, rfl, by go_num, by omega, ext_trans HBi.out (ext_drewN _ nq), by show Sn Q x (k + 1) _; rw [HXe.out]; exact HSu.out _ (fun _ => rfl) (fun _ => rfl)⟩
                        case measure => simp [intOf] <;> omega
                    · have hck : ¬ (k : Int) < (Q.length : Int) := by omega
                      have hfb : fb = true := by
                        obtain ⟨y, hy, h1, h2, h3⟩ := HS.out
                        obtain ⟨j, hj, rfl⟩ := List.mem_iff_getElem.1 (HQ2.out _ hy)
                        exact HSn.out j (by omega) hj ⟨h1, h2, h3⟩
                      subst hfb
                      go_wp2_with fail
                      go_roundw
                      case rel => exact ⟨i + 1, by go_num, by omega, ext_trans HB.out HBi.out⟩
                      case measure => simp [intOf] <;> omega
                · go_wp2_with fail
                  go_roundw
                  case rel => exact ⟨i + 1, by go_num, by omega, HB.out⟩
                  case measure => simp [intOf] <;> omega
            · have hcl : ¬ (i : Int) < (P.length : Int) := by omega
              go_wp2_with fail
              go_ret
              exact ⟨rfl, ext_trans HB8.out HB.out⟩
end Go.Proofs.YtjnkcpeicocjhaaDoor.DutiesFirm

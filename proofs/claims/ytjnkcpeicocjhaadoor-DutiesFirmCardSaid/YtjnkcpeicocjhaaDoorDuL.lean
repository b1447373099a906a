/- States of duties; the law's small tests. -/
import Derived.Test.YtjnkcpeicocjhaaDoorDuE
namespace Go.Proofs.YtjnkcpeicocjhaaDoor.Dut
open Go.RowKit Mem Nest Sol App CdP CdM Solve Err

/-- what States comes to -/
def SsPost (l : List Dt) (es : List Ev) (on : Int) (w : World) (e : Ending) (w' : World) : Prop :=
  ((∃ a, e = .returned (.tuple #[.slice none 0 0, errV a]) ∧ ¬ Easy l es on) ∨
   ∃ (A : Option Addr) (c : Nat) (more : List Ro), e = .returned (.tuple #[.slice A ((baseR l es on).length + more.length) c, .nilIface]) ∧ Rd w' A ((baseR l es on ++ more).flatMap roCells) ∧ (∀ r ∈ more, 0 ≤ r.of) ∧ ((∀ x ∈ l, x.els = []) → more = []) ∧ more.length ≤ l.length ∧ VOk l on l.length ∧ l.length ≤ 200) ∧ Below w.heap.size w w'
def noCd : Cd := ⟨[false, false, false, false, false, false, false], [], rfl⟩
theorem noCd_ok : CdOk noCd := ⟨by simp [noCd], by simp [noCd]⟩
def ZC : Array Value := #[.bool false, .bool false, .bool false, .bool false, .bool false, .bool false, .bool false, .slice none 0 0]
theorem noCd_at (w : World) (T : TypeId) : CdA (w.alloc (.cells #[.bool false, .bool false, .bool false, .bool false, .bool false, .bool false, .bool false, .slice none 0 0] T)) w.heap.size 0 noCd none 0 := by
  have h := Blk.new w T [.bool false, .bool false, .bool false, .bool false, .bool false, .bool false, .bool false, .slice none 0 0]
  refine ⟨fun j hj => ?_, h.cell 7 rfl, Rd.nil⟩
  rw [Nat.zero_add]
  have : j = 0 ∨ j = 1 ∨ j = 2 ∨ j = 3 ∨ j = 4 ∨ j = 5 ∨ j = 6 := by omega
  rcases this with rfl | rfl | rfl | rfl | rfl | rfl | rfl
  · exact h.cell 0 rfl
  · exact h.cell 1 rfl
  · exact h.cell 2 rfl
  · exact h.cell 3 rfl
  · exact h.cell 4 rfl
  · exact h.cell 5 rfl
  · exact h.cell 6 rfl
set_option maxRecDepth 100000 in
set_option maxHeartbeats 4000000 in
theorem states_ret (l : List Dt) (hl : l.length ≤ 1000) (es : List Ev) (he : es.length ≤ 1000) (on : Int) (A : Nat → Addr) (LA EA : Option Addr) (lc ec : Nat) (w : World)
    (hd : Rd w LA (l.flatMap dtCells)) (hv : Rd w EA (es.flatMap evCells)) (hE : E3 w A) :
    Calls Tryd.prog 9 #[.slice LA l.length lc, .slice EA es.length ec, .pointer none, .int .i64 on] w (SsPost l es on w) := by
  have HX := Lib.hid (ext_alloc w (.cells #[.bool false, .bool false, .bool false, .bool false, .bool false, .bool false, .bool false, .slice none 0 0] 102))
  have HD := Lib.hid (hd.ext HX.out)
  have HV := Lib.hid (hv.ext HX.out)
  have HE := Lib.hid (hE.below HX.out)
  have HC := Lib.hid (noCd_at w 102)
  clear hd hv hE
  go_enter Tryd.func9, Tryd.ntmps9
  go_wp2_with fail
  refine (dvalid_any l hl es he noCd noCd_ok w.heap.size 0 none 0 on A LA EA lc ec _ HD.out HV.out HC.out HE.out).mono ?_
  rintro e w2 ⟨⟨v, rfl, hv⟩, hb⟩
  have HB := Lib.hid hb
  clear hb
  rcases hv with ⟨rfl, hl2, he2, hok⟩ | ⟨⟨a, rfl⟩, hne⟩
  · have HOK := Lib.hid hok
    clear hok
    go_wp2_with fail
    refine (dstates_any l hl es he noCd noCd_ok w.heap.size 0 none 0 on A LA EA lc ec _ (HD.out.ext HB.out) (HV.out.ext HB.out) (HC.out.ext HB.out) (HE.out.below HB.out) HOK.out).mono ?_
    rintro e w3 ⟨A1, c1, more, rfl, hr, hm, hn, hml, hb3⟩
    have HR := Lib.hid hr
    have HM := Lib.hid hm
    have HN := Lib.hid hn
    have HB3 := Lib.hid (ext_trans HX.out (ext_trans HB.out hb3))
    clear hr hm hn hb3
    go_wp2_with fail
    refine bodyPost_ret (v := .tuple #[.slice A1 ((baseR l es on).length + more.length) c1, .nilIface]) (by simp [results, Tryd.results9, go_sem]) rfl ?_
    exact ⟨.inr ⟨A1, c1, more, rfl, HR.out, HM.out, HN.out, hml, HOK.out, hl2⟩, HB3.out⟩
  · have HNE := Lib.hid hne
    clear hne
    unfold errV
    go_wp2_with fail
    refine bodyPost_ret (v := .tuple #[.slice none 0 0, errV a]) (by simp [results, Tryd.results9, go_sem, errV]) rfl ?_
    exact ⟨.inl ⟨a, rfl, HNE.out⟩, ext_trans HX.out HB.out⟩
def dueD : Dt := ⟨[97], [], 1, 2, [], 0, 0, 0⟩
theorem dueD_easy : Easy [dueD] [] 5 := by
  refine ⟨rfl, by simp, ⟨⟨by omega, by omega⟩, ?_⟩, ?_⟩
  · intro x hx
    simp at hx
    subst hx
    exact ⟨⟨by simp [dueD], by simp [dueD]⟩, ⟨by simp [dueD], by simp [dueD]⟩, by simp [dueD]⟩
  · intro x hx
    simp at hx
    subst hx
    rfl
theorem dueD_base : baseR [dueD] [] 5 = [⟨dueD, 3, 3, -1⟩] := by
  simp [baseR, dueD, stP, firstP, wrap64]
set_option maxRecDepth 100000 in
set_option maxHeartbeats 4000000 in
theorem due_any (A : Nat → Addr) (w : World) (hE : E3 w A) : Calls Tryd.prog 7 #[] w fun e w' => e = .returned (.bool true) ∧ Below w.heap.size w w' := by
  have hX := ext_alloc w (.cells #[.string ⟨#[97]⟩, .string ⟨#[]⟩, .int .i64 1, .int .i64 2, .string ⟨#[]⟩, .int .i64 0, .int .i64 0, .int .i64 0] 38)
  have HX := Lib.hid hX
  have HE := Lib.hid (hE.below hX)
  have HR := Lib.hid (show Rd (w.alloc (.cells #[.string ⟨#[97]⟩, .string ⟨#[]⟩, .int .i64 1, .int .i64 2, .string ⟨#[]⟩, .int .i64 0, .int .i64 0, .int .i64 0] 38)) (some ⟨w.heap.size, 0, none⟩) ([dueD].flatMap dtCells) from
    fun j u hj => ⟨w.heap.size, 0, rfl, by rw [Nat.zero_add]; exact (Blk.new w 38 ([dueD].flatMap dtCells)).cell j hj⟩)
  clear hE hX
  go_enter Tryd.func7, Tryd.ntmps7
  go_wp2_with fail
  refine (states_ret [dueD] (by simp) [] (by simp) 5 A (some ⟨w.heap.size, 0, none⟩) none 1 0 _ HR.out Rd.nil HE.out).mono ?_
  rintro e w2 ⟨h | ⟨A1, c1, more, rfl, hr, _, hn, _, _⟩, hb⟩
  · obtain ⟨a, _, h⟩ := h
    exact absurd dueD_easy h
  · have hn := hn dueD_easy.2.2.2
    subst hn
    rw [List.append_nil, dueD_base] at hr
    obtain ⟨b, o, rfl, _, c8, _, _⟩ := ro_at hr (k := 0) (by simp)
    simp only [Nat.zero_mul, Nat.add_zero, List.getElem_cons_zero] at c8
    have hl1 : (baseR [dueD] [] 5).length = 1 := by rw [dueD_base]; rfl
    simp only [hl1, List.length_nil, Nat.add_zero]
    have HB := Lib.hid (ext_trans HX.out hb)
    clear hb hr hl1
    go_wp2_with fail
    go_ret
    exact ⟨rfl, HB.out⟩
def NearPost (l : List Dt) (es : List Ev) (w : World) (e : Ending) (w' : World) : Prop := (∃ b : Bool, e = .returned (.bool b) ∧ (b = true → l.length ≤ 202 ∧ es.length ≤ 402)) ∧ Below w.heap.size w w'
set_option maxRecDepth 100000 in
set_option maxHeartbeats 4000000 in
theorem near_any (l : List Dt) (es : List Ev) (on : Int) (LA EA : Option Addr) (lc ec : Nat) (hl : l.length ≤ 9223372036854775807) (he : es.length ≤ 9223372036854775807) (w : World) (hd : Rd w LA (l.flatMap dtCells)) :
    Calls Tryd.prog 8 #[.slice LA l.length lc, .slice EA es.length ec, .int .i64 on] w (NearPost l es w) := by
  have HD := Lib.hid hd
  clear hd
  go_enter Tryd.func8, Tryd.ntmps8
  by_cases n1 : (202 : Int) < (l.length : Int)
  · go_wp2_with fail
    go_ret
    exact ⟨⟨_, rfl, fun h => by cases h⟩, Below.refl _ _⟩
  · by_cases n2 : (402 : Int) < (es.length : Int)
    · go_wp2_with fail
      go_ret
      exact ⟨⟨_, rfl, fun h => by cases h⟩, Below.refl _ _⟩
    · have hmul : (0 : Int) ≤ (l.length : Int) * (es.length : Int) ∧ (l.length : Int) * (es.length : Int) ≤ 81204 := ⟨Int.mul_nonneg (by omega) (by omega), by
        have h := Int.mul_le_mul (show (l.length : Int) ≤ 202 by omega) (show (es.length : Int) ≤ 402 by omega) (by omega) (by omega)
        omega⟩
      have hm1 := hmul.1
      have hm2 := hmul.2
      clear hmul
      go_wp2_with fail
      go_loopw [7] (fun s7 wr => ∃ k : Nat, s7 = .int .i64 k ∧ k ≤ l.length ∧ Hid (Below w.heap.size w wr)) (fun s7 _ => l.length - (intOf s7).toNat)
      case atStart => exact ⟨0, rfl, Nat.zero_le _, Below.refl _ _⟩
      case round =>
        obtain ⟨k, rfl, hk, HB⟩ := hrel
        by_cases hlt : k < l.length
        · have hcl : (k : Int) < (l.length : Int) := by omega
          obtain ⟨b, o, rfl, hd⟩ := dt_at (HD.out.ext HB.out) hlt
          generalize l[k] = x at hd
          obtain ⟨nm, wh, fr, tl, el, tn, tu, tr⟩ := x
          obtain ⟨c0, c1, c2, c3, c4, c5, c6, c7⟩ := hd
          simp only at c0 c1 c2 c3 c4 c5 c6 c7
          go_upto_region 6 with fail
          go_cut [66] (fun s66 wx => wr = wx ∧ ∃ q : Bool, s66 = .bool q)
          case first =>
            by_cases p1 : (1500 : Int) < wrap64 (on - fr)
            · go_wp2_with fail
              go_meet
              exact ⟨rfl, _, rfl⟩
            · by_cases p2 : (1099511627776 : Int) < wrap64 (fr - on)
              · go_wp2_with fail
                go_meet
                exact ⟨rfl, _, rfl⟩
              · by_cases p3 : tu = 1
                · subst p3
                  by_cases p4 : 1500 < tn
                  · by_cases p5 : tn ≤ 100000
                    · go_wp2_with fail
                      go_meet
                      exact ⟨rfl, _, rfl⟩
                    · go_wp2_with fail
                      go_meet
                      exact ⟨rfl, _, rfl⟩
                  · go_wp2_with fail
                    go_meet
                    exact ⟨rfl, _, rfl⟩
                · have q3 : (tu == 1) = false := by rw [beq_eq_false_iff_ne]; exact p3
                  go_wp2_with fail
                  go_meet
                  exact ⟨rfl, _, rfl⟩
          case rest =>
            obtain ⟨rfl, q, rfl⟩ := hcut
            cases q
            · go_upto_region 8 with fail
              go_cut [87] (fun s87 wx => Hid (Below wr.heap.size wr wx) ∧ ∃ q : Bool, s87 = .bool q)
              case first =>
                go_quiet (fail)
                go_wp2_with fail
                go_meet
                exact ⟨ext_drewN wr nq, _, rfl⟩
              case rest =>
                obtain ⟨HBr, q, rfl⟩ := hcut
                have HB2 := Lib.hid (ext_trans HB.out HBr.out)
                cases q
                · go_wp2_with fail
                  go_roundw
                  case rel => exact ⟨k + 1, by go_num, by omega, HB2.out⟩
                  case measure => simp [intOf] <;> omega
                · go_wp2_with fail
                  go_ret
                  exact ⟨⟨_, rfl, fun h => by cases h⟩, HB2.out⟩
            · go_wp2_with fail
              go_ret
              exact ⟨⟨_, rfl, fun h => by cases h⟩, HB.out⟩
        · have hcl : ¬ (k : Int) < (l.length : Int) := by omega
          go_wp2_with fail
          go_ret
          exact ⟨⟨_, rfl, fun _ => ⟨by omega, by omega⟩⟩, HB.out⟩
end Go.Proofs.YtjnkcpeicocjhaaDoor.Dut

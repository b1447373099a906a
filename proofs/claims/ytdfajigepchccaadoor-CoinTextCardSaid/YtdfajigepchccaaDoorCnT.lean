/- A number's text as an amount: the program's coin.Text. -/
import Derived.Test.YtdfajigepchccaaDoorCnB
import Derived.Test.YtdfajigepchccaaDoorCnK
import Derived.Test.YtdfajigepchccaaDoorFmtU
import Derived.Laws.RangeString
import Derived.WalkKit
import Derived.WalkSpells
import Derived.WalkSmall
import Derived.BigRegion
import Derived.BigQuiet
import Derived.IntWalk
import Derived.Lib.Hide
import Derived.Deep.DeepCutAuto
import Derived.Deep.LoopGhost
namespace Go.Proofs.YtdfajigepchccaaDoor.Cn
open Go.RowKit Mem Rd Tabs

theorem enc_digit (c : UInt8) (h : isD c = true) : Utf8.encode (c.toNat : Int) = ⟨#[c]⟩ := by
  unfold isD at h
  simp only [Bool.and_eq_true, decide_eq_true_eq] at h
  obtain ⟨d, hd⟩ : ∃ d, d = c.toNat := ⟨_, rfl⟩
  have hc : c = UInt8.ofNat d := by rw [hd]; simp
  rw [← hd] at h ⊢
  have : d = 48 ∨ d = 49 ∨ d = 50 ∨ d = 51 ∨ d = 52 ∨ d = 53 ∨ d = 54 ∨ d = 55 ∨ d = 56 ∨ d = 57 := by omega
  rw [hc]
  clear h hd hc
  rcases this with h | h | h | h | h | h | h | h | h | h <;> rw [h] <;> rfl
theorem asc_digit {c : UInt8} (h : isD c = true) : c.toNat < 128 := by
  unfold isD at h
  simp only [Bool.and_eq_true, decide_eq_true_eq] at h
  omega
theorem iter_below (w : World) (s : ByteArray) (p : Nat) : Below w.heap.size w (w.iter s p) := ext_alloc w _
/-- the digits written so far, with their commas -/
def Em (D : List UInt8) (p : Nat) (out : List UInt8) : Prop :=
  out ++ (if 0 < p ∧ p < D.length ∧ (D.length - p) % 3 = 0 then [44] else []) ++ emit (D.drop p) 0 = emit D 0
theorem Em.start (D : List UInt8) : Em D 0 [] := by simp [Em]
theorem Em.done {D out : List UInt8} (h : Em D D.length out) : out = emit D 0 := by
  unfold Em at h
  rw [if_neg (by omega)] at h
  simpa [emit] using h
theorem Em.step {D out : List UInt8} {p : Nat} (h : Em D p out) (hp : p < D.length) : Em D (p + 1) (out ++ (if 0 < p ∧ (D.length - p) % 3 = 0 then [44] else []) ++ [D[p]]) := by
  unfold Em at h ⊢
  rw [← h]
  have e : D.drop p = D[p] :: D.drop (p + 1) := (List.getElem_cons_drop hp).symm
  rw [e]
  conv => rhs; unfold emit
  have hl : (D.drop (p + 1)).length = D.length - (p + 1) := List.length_drop
  rw [hl]
  have c1 : (0 < p ∧ p < D.length ∧ (D.length - p) % 3 = 0) ↔ (0 < p ∧ (D.length - p) % 3 = 0) := by omega
  have c2 : (0 < p + 1 ∧ p + 1 < D.length ∧ (D.length - (p + 1)) % 3 = 0) ↔ (0 < 0 + (D.length - (p + 1)) ∧ (0 + (D.length - (p + 1))) % 3 = 0) := by omega
  simp only [c1, c2, List.append_assoc, List.cons_append, List.nil_append]
theorem emit_next {D out : List UInt8} {p : Nat} (h : Em D p out) (hp : p < D.length) (c : UInt8) (hc : D[p] = c) (hg : ¬ (0 < p ∧ (D.length - p) % 3 = 0)) : Em D (p + 1) (out ++ [c]) := by
  have := h.step hp
  rw [if_neg hg, List.append_nil, hc] at this
  exact this
theorem emit_comma {D out : List UInt8} {p : Nat} (h : Em D p out) (hp : p < D.length) (c : UInt8) (hc : D[p] = c) (hg : 0 < p ∧ (D.length - p) % 3 = 0) : Em D (p + 1) (out ++ [44] ++ [c]) := by
  have := h.step hp
  rw [if_pos hg, hc] at this
  exact this
theorem two_digits (u : Nat) : Lib.decDigits (100 + u % 100) = 49 :: pad 2 (u % 100) := dec_one 2 (u % 100) (Nat.mod_lt _ (by omega))
set_option maxRecDepth 100000 in
set_option maxHeartbeats 8000000 in
theorem ctext_any (n : Int) (h0 : -9223372036854775808 ≤ n) (h1 : n ≤ 9223372036854775807) (w : World) (hp : Pow w) :
    Calls Tryd.prog 26 #[.int .i64 n] w (StrPost (coinT n) w) := by
  have HP := Lib.hid hp
  clear hp
  obtain ⟨u, hu⟩ : ∃ u, u = n.natAbs := ⟨_, rfl⟩
  obtain ⟨sg, hsg⟩ : ∃ sg : List UInt8, sg = if n < 0 then [45] else [] := ⟨_, rfl⟩
  have hu64 : u ≤ 9223372036854775808 := by omega
  have HC := Lib.hid (show coinT n = sg ++ emit (Lib.decDigits (u / 100)) 0 ++ 46 :: pad 2 (u % 100) by rw [hu, hsg]; rfl)
  have hsl : sg.length ≤ 1 := by rw [hsg]; split <;> simp
  have hw1 : 0 ≤ n → IntKind.u64.wrap n = (u : Int) := fun h => by rw [IntKind.wrap_u64]; omega
  have hw2 : n < 0 → IntKind.u64.wrap (-IntKind.u64.wrap n) = (u : Int) := fun h => by rw [IntKind.wrap_u64, IntKind.wrap_u64]; omega
  have HU := Lib.hid hu
  clear hu
  go_enter Tryd.func26, Tryd.ntmps26
  go_upto_if 12 with fail
  go_cut [3, 4] (fun s3 s4 wx => w = wx ∧ s3 = .string ⟨sg.toArray⟩ ∧ s4 = .int .u64 (u : Int))
  case first =>
    by_cases hn : n < 0
    · have hw := hw2 hn
      have e : sg = [45] := by rw [hsg, if_pos hn]
      rw [show decide (n < 0) = true by simp [hn]]
      go_wp2_with fail
      go_meet
      exact ⟨rfl, by rw [e], rfl⟩
    · have hw := hw1 (by omega)
      have e : sg = [] := by rw [hsg, if_neg hn]
      rw [show decide (n < 0) = false by simp; omega]
      go_wp2_with fail
      go_meet
      exact ⟨rfl, by rw [e], rfl⟩
  case rest =>
    clear hw1 hw2 hsg
    obtain ⟨hwx, rfl, rfl⟩ := hcut
    subst hwx
    have E1 := Lib.hid (show (u : Int) / 100 = ((u / 100 : Nat) : Int) by omega)
    have E2 := Lib.hid (show 100 + (u : Int) % 100 = ((100 + u % 100 : Nat) : Int) by omega)
    have huc : (u : Int) ≤ 9223372036854775808 := by omega
    go_wp2_with fail
    rw [E1.out]
    refine (fmtu_any (u / 100) (by omega) _ HP.out).mono ?_
    rintro e w1 ⟨rfl, hb1⟩
    have HB1 := Lib.hid hb1
    clear hb1
    have HD := Lib.hid (dec_isD (u / 100))
    obtain ⟨D, hD⟩ : ∃ D, D = Lib.decDigits (u / 100) := ⟨_, rfl⟩
    have hDl : D.length ≤ 20 := by rw [hD]; exact Nat.le_trans (dec_wide 19 (u / 100) (by omega)).1 (by omega)
    rw [← hD] at HC HD ⊢
    clear hD
    go_wp2_with fail
    go_loopg [3] D.length (fun g s3 wx => ∃ (p : Nat) (out : List UInt8), p + g = D.length ∧ s3 = .string ⟨(sg ++ out).toArray⟩ ∧ out.length ≤ 2 * p ∧ Hid (Em D p out) ∧ wx = w1.iter ⟨D.toArray⟩ p)
    case atStart => exact ⟨0, [], by omega, by simp, by simp, Em.start D, rfl⟩
    case round =>
      obtain ⟨p, out, hg, rfl, hol, HEm, rfl⟩ := hrel
      by_cases hp : p < D.length
      · have hsz : p < (ByteArray.mk D.toArray).size := hp
        obtain ⟨c, hc⟩ : ∃ c, D[p] = c := ⟨_, rfl⟩
        have hcd : isD c = true := HD.out c (by rw [← hc]; exact List.getElem_mem hp)
        have hnx := fun ty => run_next_ascii (P := Tryd.prog) w1 ⟨D.toArray⟩ p ty hsz (by show (D[p]).toNat < 128; rw [hc]; exact asc_digit hcd)
        have hcc : ((ByteArray.mk D.toArray)[p]'hsz) = c := hc
        rw [hcc] at hnx
        obtain ⟨eb, heb⟩ : ∃ eb : ByteArray, eb = ⟨#[c]⟩ := ⟨_, rfl⟩
        obtain ⟨z, hz⟩ : ∃ z : Int, z = (c.toNat : Int) := ⟨_, rfl⟩
        have henc : Utf8.encode z = eb := by rw [heb, hz]; exact enc_digit c hcd
        have hes : eb.size = 1 := by rw [heb]; rfl
        have HEb := Lib.hid heb
        have HZ := Lib.hid hz
        rw [← hz] at hnx
        clear heb hz
        have HC2 := Lib.hid hc
        clear hcc hc hcd
        obtain ⟨q, hq⟩ : ∃ q : Int, (D.length : Int) - (p : Int) = q := ⟨_, rfl⟩
        have hq0 : 0 < q := by omega
        have hq00 : 0 ≤ q := by omega
        have hpnn : (0 : Int) ≤ (p : Int) := by omega
        have hq1 : q ≤ 20 := by omega
        have hpb : (p : Int) ≤ 20 := by omega
        have HG := Lib.hid hg
        clear hg
        have hll : (sg ++ out).length ≤ 100 := by rw [List.length_append]; omega
        obtain ⟨so, hso⟩ : ∃ so, so = sg ++ out := ⟨_, rfl⟩
        rw [← hso] at hll ⊢
        have HSo := Lib.hid hso
        clear hso
        by_cases hgd : 0 < p ∧ (D.length - p) % 3 = 0
        · have hp0 : (0 : Int) < (p : Int) := by omega
          have h3 : (q % 3 == 0) = true := by rw [beq_iff_eq]; omega
          have HEm2 := Lib.hid (emit_comma HEm.out hp c HC2.out hgd)
          clear hgd
          go_upto_region 10 with fail
          clear hq hnx
          go_wp2_with fail
          go_roundg (gk - 1)
          case measure => have := HG.out; omega
          case rel => exact ⟨p + 1, out ++ [44] ++ [c], by have := HG.out; omega, by rw [HEb.out, ba_cat, ba_cat, HSo.out]; simp, by simp; omega, HEm2.out, rfl⟩
        · have HEm2 := Lib.hid (emit_next HEm.out hp c HC2.out hgd)
          by_cases hp0 : (0 : Int) < (p : Int)
          · have h3 : (q % 3 == 0) = false := by rw [beq_eq_false_iff_ne]; omega
            clear hgd
            go_upto_region 10 with fail
            clear hq hnx
            go_wp2_with fail
            go_roundg (gk - 1)
            case measure => have := HG.out; omega
            case rel => exact ⟨p + 1, out ++ [c], by have := HG.out; omega, by rw [HEb.out, ba_cat, HSo.out]; simp, by simp; omega, HEm2.out, rfl⟩
          · clear hgd
            go_wp2_with fail
            go_roundg (gk - 1)
            case measure => have := HG.out; omega
            case rel => exact ⟨p + 1, out ++ [c], by have := HG.out; omega, by rw [HEb.out, ba_cat, HSo.out]; simp, by simp; omega, HEm2.out, rfl⟩
      · have hnx := fun ty => run_next_end (P := Tryd.prog) w1 ⟨D.toArray⟩ p ty hp
        obtain rfl : p = D.length := by omega
        have HOut := Lib.hid HEm.out.done
        have hll : (sg ++ out).length ≤ 100 := by rw [List.length_append]; omega
        obtain ⟨so, hso⟩ : ∃ so, so = sg ++ out := ⟨_, rfl⟩
        rw [← hso] at hll ⊢
        have HSo := Lib.hid hso
        clear hso hg
        obtain ⟨w2, hw2⟩ : ∃ w2, w2 = w1.iter ⟨D.toArray⟩ D.length := ⟨_, rfl⟩
        have HB2 := Lib.hid (show Below w.heap.size w w2 by rw [hw2]; exact ext_trans HB1.out (iter_below _ _ _))
        rw [← hw2] at hnx ⊢
        clear hw2
        go_wp2_with fail
        rw [E2.out]
        refine (fmtu_any (100 + u % 100) (by omega) _ (HP.out.ext HB2.out)).mono ?_
        rintro e w3 ⟨rfl, hb3⟩
        have HB3 := Lib.hid (ext_trans HB2.out hb3)
        rw [two_digits u]
        obtain ⟨tl, htl⟩ : ∃ tl, tl = pad 2 (u % 100) := ⟨_, rfl⟩
        have htll : tl.length = 2 := by rw [htl]; exact pad_len 2 _
        rw [← htl]
        have HTl := Lib.hid htl
        clear hb3 htl
        go_wp2_with fail
        go_ret
        refine ⟨?_, HB3.out⟩
        have et : ((49 :: tl).drop 1).take (3 - 1) = tl := List.take_of_length_le (show tl.length ≤ 2 by omega)
        simp only [ba_cut, et, ba_cat]
        rw [HC.out, ← HOut.out, ← HTl.out, ← HSo.out]
        rw [show so ++ [46] ++ tl = so ++ 46 :: tl by simp]
        rfl
end Go.Proofs.YtdfajigepchccaaDoor.Cn

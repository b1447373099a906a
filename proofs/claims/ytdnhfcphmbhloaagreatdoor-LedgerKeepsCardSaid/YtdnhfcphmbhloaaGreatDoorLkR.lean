/- LedgerKeeps: the document's Post. -/
import Derived.Test.YtdnhfcphmbhloaaGreatDoorLkP
import Derived.Test.YtdnhfcphmbhloaaGreatDoorLkE
namespace Go.Proofs.YtdnhfcphmbhloaaGreatDoor.Lk
open Go.RowKit Mem Nest Fk Msi Err

/-- the document's ledger at block G -/
structure Rl (B : World) (G : Nat) (rs : List En) (w : World) : Prop where
  below : Below B.heap.size B w
  hG : B.heap.size ≤ G
  blk : ∃ A c, Blk w G 27 [.slice A rs.length c] ∧ w.ownsRow (G + 1) 30 3 (.slice A rs.length c) rs.length (rs.flatMap enCells)
  lns : ∀ r ∈ rs, Rd B r.A (r.lines.flatMap lnCells)
theorem Rl.ext {B : World} {G : Nat} {rs : List En} {w w' : World} (h : Rl B G rs w) (hb : Below w.heap.size w w') : Rl B G rs w' := by
  obtain ⟨h1, h2, ⟨A, c, h3, h4⟩, h5⟩ := h
  exact ⟨ext_trans h1 hb, h2, ⟨A, c, blk_ext2 h3 hb, own_ext h4 hb⟩, h5⟩
theorem Rl.ens {B : World} {G : Nat} {rs : List En} {w : World} (h : Rl B G rs w) : ∃ A c, w.cell? ⟨G, 0, none⟩ = some (.slice A rs.length c) ∧ Ens w A rs := by
  obtain ⟨A, c, h3, h4⟩ := h.blk
  exact ⟨A, c, h3.cell 0 rfl, ⟨Rd.of_own h4, fun r hr => (h.lns r hr).ext h.below⟩⟩
def RpPost (B : World) (G : Nat) (rs : List En) (d : Int) (x : Tx) (ls : List Ln) (A : Option Addr) (c : Nat) (w : World) (e : Ending) (w' : World) : Prop :=
  e = .returned (.int .i64 (postC rs d (Gp.lineC x) ls)) ∧ ((postC rs d (Gp.lineC x) ls ≠ 0 ∧ Below w.heap.size w w') ∨ (postC rs d (Gp.lineC x) ls = 0 ∧ Rl B G (rs ++ [⟨d, x, ls, A, c⟩]) w' ∧ Lf G 27 30 w w'))
theorem ren_info : (Tryz.prog.info? 30).map (fun i => (i.zero, i.size, i.bytes)) = some (some (.agg #[.int .i64 0, .string ⟨#[]⟩, .slice none 0 0]), 3, 48) := by kernel_rfl
theorem small_false {rs : List En} {ls : List Ln} {q : Bool} {j : Nat} (hq : q = ls.all fun x => coinB x.2) (h : (q && (ls.take j).all fun x => coinB (totS rs ls x.1)) = false) : smallE rs ls = false := by
  cases hs : smallE rs ls with
  | false => rfl
  | true =>
    unfold smallE at hs
    rw [Bool.and_eq_true] at hs
    rw [hq, hs.1, Bool.true_and] at h
    have h2 : ((ls.take j).all fun x => coinB (totS rs ls x.1)) = true := List.all_eq_true.2 fun x hx => List.all_eq_true.1 hs.2 x (List.mem_of_mem_take hx)
    rw [h2] at h
    cases h
theorem alls_take (ls : List Ln) {i : Nat} (h : i < ls.length) : ((ls.take (i + 1)).all fun x => coinB x.2) = (((ls.take i).all fun x => coinB x.2) && coinB ls[i].2) := by
  rw [List.take_succ_eq_append_getElem h, List.all_append]
  simp
theorem anyw_take (ls : List Ln) {i : Nat} (h : i < ls.length) : ((ls.take (i + 1)).any fun x => !wordB x.1) = (((ls.take i).any fun x => !wordB x.1) || !wordB ls[i].1) := by
  rw [List.take_succ_eq_append_getElem h, List.any_append]
  simp
set_option maxRecDepth 100000 in
set_option maxHeartbeats 4000000 in
theorem rpost (B : World) (G : Nat) (rs : List En) (hrs : rs.length ≤ 402) (hsm : ∀ r ∈ rs, r.lines.length ≤ 30 ∧ ∀ x ∈ r.lines, Small1 x.2) (d : Int) (x : Tx) (hx : x.length ≤ 1000) (ls : List Ln) (hl : ls.length ≤ 30) (hw : ∀ x ∈ ls, x.1.length ≤ 9223372036854775807) (A : Option Addr) (c : Nat) (w : World) (h : Rl B G rs w) (hA : Rd B A (ls.flatMap lnCells)) :
    Calls Tryz.prog 12 #[.pointer (some ⟨G, 0, none⟩), .agg #[.int .i64 d, .string ⟨x.toArray⟩, .slice A ls.length c]] w (RpPost B G rs d x ls A c w) := by
  have xa := ext_alloc w (.cells #[.int .i64 d, .string ⟨x.toArray⟩, .slice A ls.length c] 30)
  have ba := Blk.new w 30 [.int .i64 d, .string ⟨x.toArray⟩, .slice A ls.length c]
  obtain ⟨V, hV⟩ : ∃ V, V = w.alloc (.cells #[.int .i64 d, .string ⟨x.toArray⟩, .slice A ls.length c] 30) := ⟨_, rfl⟩
  obtain ⟨R, hR⟩ : ∃ R, R = w.heap.size := ⟨_, rfl⟩
  rw [← hV] at xa ba
  rw [← hR] at ba
  have HX := Lib.hid xa
  have HRl := Lib.hid (h.ext xa)
  have HBa := Lib.hid ba
  have HLs := Lib.hid (hA.ext (h.ext xa).below)
  have HA0 := Lib.hid hA
  have HR0 := Lib.hid h
  obtain ⟨LA, lc, hk, ho⟩ := (h.ext xa).blk
  have k0 := hk.cell 0 rfl
  have m2 := ba.cell 2 rfl
  have HK := Lib.hid hk
  have HO := Lib.hid ho
  have HPc := Lib.hid (show ∀ e : Int, e = postC rs d (Gp.lineC x) ls → e ≠ 0 → ∀ w', Below w.heap.size w w' → RpPost B G rs d x ls A c w (.returned (.int .i64 e)) w' from fun e he hn w' hb => ⟨by rw [he], .inl ⟨he ▸ hn, hb⟩⟩)
  clear h hA xa ba hk ho
  go_enter Tryz.func12, Tryz.ntmps12
  go_upto_region 1 with fail
  rw [← hV, ← hR]
  clear hV hR
  by_cases g1 : 400 ≤ rs.length
  · have g1' : (400 : Int) ≤ rs.length := by omega
    have HF := Lib.hid (show (2 : Int) = postC rs d (Gp.lineC x) ls from by unfold postC; rw [if_pos (.inl g1)])
    clear g1
    go_wp2_with fail
    go_ret
    exact HPc.out 2 HF.out (by omega) _ HX.out
  by_cases g2 : 20 < ls.length
  · have g1' : ¬ (400 : Int) ≤ rs.length := by omega
    have g2' : (20 : Int) < ls.length := by omega
    have HF := Lib.hid (show (2 : Int) = postC rs d (Gp.lineC x) ls from by unfold postC; rw [if_pos (.inr g2)])
    clear g1 g2
    go_wp2_with fail
    go_ret
    exact HPc.out 2 HF.out (by omega) _ HX.out
  have g1' : ¬ (400 : Int) ≤ rs.length := by omega
  have g2' : ¬ (20 : Int) < ls.length := by omega
  have HG := Lib.hid (show ¬ (400 ≤ rs.length ∨ 20 < ls.length) from by omega)
  have hrl : rs.length ≤ 400 := by omega
  have hll : ls.length ≤ 20 := by omega
  clear g1 g2 hrs hl
  obtain ⟨dy, hdy⟩ : ∃ dy, dy = dayB d := ⟨_, rfl⟩
  have HDay := Lib.hid (show Calls Tryz.prog 48 #[.int .i64 d] V (RetB dy V) from by rw [hdy]; exact isday_any d V)
  have HDy := Lib.hid hdy
  clear hdy
  have m0 := HBa.out.cell 0 rfl
  go_wp2_with fail
  refine HDay.out.mono ?_
  rintro e w' ⟨rfl, rfl⟩
  go_upto_region 5 with fail
  go_cut [50] (fun t w9 => ∃ b : Bool, t = .bool b ∧ Hid (b = true ↔ (dayB d = false ∨ lateE rs d = true)) ∧ Hid (Below V.heap.size V w9))
  case first =>
    have HD := Lib.hid (ext_drewN V)
    cases dy with
    | false =>
      have HB := Lib.hid (show true = true ↔ (dayB d = false ∨ lateE rs d = true) from ⟨fun _ => .inl HDy.out.symm, fun _ => rfl⟩)
      go_quiet (fail)
      go_wp2_with fail
      go_meet
      exact ⟨true, rfl, ⟨fun _ => HB.out.1 (by trivial), fun _ => rfl⟩, HD.out _⟩
    | true =>
      by_cases hn : rs.length = 0
      · have HB := Lib.hid (show ¬ (dayB d = false ∨ lateE rs d = true) from by
          rw [← HDy.out, List.eq_nil_of_length_eq_zero hn]
          simp [lateE])
        obtain rfl := List.eq_nil_of_length_eq_zero hn
        clear hn
        go_quiet (fail)
        go_wp2_with fail
        go_meet
        exact ⟨false, rfl, ⟨(fun h => by cases h), fun h => absurd h HB.out⟩, HD.out _⟩
      · obtain ⟨m, hm⟩ : ∃ m, rs.length = m + 1 := ⟨rs.length - 1, by omega⟩
        have hml : m < rs.length := by omega
        obtain ⟨lb, lo, eL, x0, _, _⟩ := en_at (Rd.of_own HO.out) hml
        have HLt := Lib.hid (show lateE rs d = decide (d < rs[m].day) from by
          unfold lateE
          rw [List.getLast?_eq_getElem?, show rs.length - 1 = m by omega, List.getElem?_eq_getElem hml])
        subst eL
        generalize rs[m].day = ld at x0 HLt
        have hn1 : (0 : Int) < (rs.length : Int) := by omega
        have hm1 : (rs.length : Int) - 1 = (m : Int) := by omega
        have hmc : (m : Int) < (rs.length : Int) := by omega
        have hn2 : 0 < rs.length := by omega
        have hn3 : rs ≠ [] := fun e => by rw [e] at hn2; simp at hn2
        clear hn hm
        by_cases g : d < ld
        · have HB := Lib.hid (show dayB d = false ∨ lateE rs d = true from .inr (by rw [HLt.out]; simpa using g))
          go_quiet (fail)
          go_wp2_with fail
          go_meet
          exact ⟨true, rfl, ⟨fun _ => HB.out, fun _ => rfl⟩, HD.out _⟩
        · have g' : ¬ ld > d := g
          have HB := Lib.hid (show ¬ (dayB d = false ∨ lateE rs d = true) from by
            rw [← HDy.out, HLt.out]
            simp
            omega)
          go_quiet (fail)
          go_wp2_with fail
          go_meet
          exact ⟨false, rfl, ⟨(fun h => by cases h), fun h => absurd h HB.out⟩, HD.out _⟩
  case rest =>
    obtain ⟨b, rfl, HB, HB9⟩ := hcut
    cases b with
    | true =>
      have HF := Lib.hid (show (4 : Int) = postC rs d (Gp.lineC x) ls from by unfold postC; rw [if_neg HG.out, if_pos (HB.out.1 rfl)])
      have HXe := Lib.hid (ext_trans HX.out HB9.out)
      go_wp2_with fail
      go_ret
      exact HPc.out 4 HF.out (by omega) _ HXe.out
    | false =>
      have HN4 := Lib.hid (show ¬ (dayB d = false ∨ lateE rs d = true) from fun h => by have := HB.out.2 h; cases this)
      have HXe := Lib.hid (ext_trans HX.out HB9.out)
      have HRe := Lib.hid (HRl.out.ext HB9.out)
      have HBe := Lib.hid (blk_ext2 HBa.out HB9.out)
      have HLe := Lib.hid (HLs.out.ext HB9.out)
      have m1 := HBe.out.cell 1 rfl
      have m2 := HBe.out.cell 2 rfl
      obtain ⟨W9, rfl⟩ : ∃ W9, W9 = wc := ⟨_, rfl⟩
      obtain ⟨lx, hlx⟩ : ∃ lx, lx = Gp.lineC x := ⟨_, rfl⟩
      have HLc := Lib.hid (show Calls Tryz.prog 49 #[.string ⟨x.toArray⟩] W9 fun e w' => e = .returned (.int .i64 lx) ∧ W9 = w' from by rw [hlx]; exact Gp.rline_any x (by omega) W9)
      have HLx := Lib.hid hlx
      clear hlx HB HB9 m0 k0 HRl HBa HLs HK HO HX
      go_wp2_with fail
      refine HLc.out.mono ?_
      rintro e w' ⟨rfl, rfl⟩
      by_cases g3 : 0 < lx
      · have HF := Lib.hid (show (1 : Int) = postC rs d (Gp.lineC x) ls from by unfold postC; rw [if_neg HG.out, if_neg HN4.out, if_pos (by rw [← HLx.out]; exact g3)])
        go_wp2_with fail
        go_ret
        exact HPc.out 1 HF.out (by omega) _ HXe.out
      have HN1 := Lib.hid (show ¬ 0 < Gp.lineC x from by rw [← HLx.out]; exact g3)
      go_wp2_with fail
      go_loopw [7, 8, 9] (fun s7 s8 s9 wr => ∃ (s : Int) (q : Bool) (i : Nat), s7 = .int .i64 s ∧ s8 = .bool q ∧ s9 = .int .i64 i ∧ i ≤ ls.length ∧ -(1000000000000 * (i : Int)) ≤ s ∧ s ≤ 1000000000000 * (i : Int) ∧ Hid (q = true → s = sumE (ls.take i)) ∧ Hid (q = (ls.take i).all fun x => coinB x.2) ∧ Hid (((ls.take i).any fun x => !wordB x.1) = false) ∧ wr = W9) (fun _ _ s9 _ => ls.length - (intOf s9).toNat)
      case atStart => exact ⟨0, true, 0, rfl, rfl, rfl, Nat.zero_le _, by omega, by omega, (fun _ => by simp [sumE]), by show _ = _; simp, by show _ = _; simp, rfl⟩
      case round =>
        obtain ⟨s, q, i, rfl, rfl, rfl, hi, hs1, hs2, HSu, HSm, HWd, rfl⟩ := hrel
        by_cases hlt : i < ls.length
        · have hcl : (i : Int) < (ls.length : Int) := by omega
          have hi20 : (i : Int) ≤ 20 := by omega
          have HWl := Lib.hid (hw _ (List.getElem_mem hlt))
          have HT1 := Lib.hid (sume_take ls hlt)
          have HT2 := Lib.hid (alls_take ls hlt)
          have HT3 := Lib.hid (anyw_take ls hlt)
          have HBd := Lib.hid (show wordB ls[i].1 = false → (ls.any fun x => !wordB x.1) = true from fun hf => List.any_eq_true.2 ⟨ls[i], List.getElem_mem hlt, by simp [hf]⟩)
          obtain ⟨lb, lo, eA, y0, y1⟩ := ln_at HLe.out hlt
          subst eA
          generalize ls[i] = z at y0 y1 HWl HT1 HT2 HT3 HBd
          obtain ⟨zn, zc⟩ := z
          simp only at y0 y1
          obtain ⟨wd, hwd⟩ : ∃ wd, wd = wordB zn := ⟨_, rfl⟩
          have HWc := Lib.hid (show Calls Tryz.prog 50 #[.string ⟨zn.toArray⟩] wr (RetB wd wr) from by rw [hwd]; exact rword_any zn HWl.out wr)
          have HWd2 := Lib.hid hwd
          clear hwd
          go_wp2_with fail
          refine HWc.out.mono ?_
          rintro e w' ⟨rfl, rfl⟩
          cases wd with
          | false =>
            have HF := Lib.hid (show (7 : Int) = postC rs d (Gp.lineC x) ls from by unfold postC; rw [if_neg HG.out, if_neg HN4.out, if_neg (show ¬ 0 < Gp.lineC x from by have := HN1.out; omega), if_pos (HBd.out HWd2.out.symm)])
            go_wp2_with fail
            go_ret
            exact HPc.out 7 HF.out (by omega) _ HXe.out
          | true =>
            obtain ⟨cb, hcb⟩ : ∃ cb, cb = coinB zc := ⟨_, rfl⟩
            have HCc := Lib.hid (show Calls Tryz.prog 51 #[.int .i64 zc] wr (RetB cb wr) from by rw [hcb]; exact rsmall_any zc wr)
            have HCb := Lib.hid hcb
            clear hcb
            go_wp2_with fail
            refine HCc.out.mono ?_
            rintro e w' ⟨rfl, rfl⟩
            have HNw := Lib.hid (show ((ls.take (i + 1)).any fun x => !wordB x.1) = false from by rw [HT3.out, HWd.out, ← HWd2.out]; rfl)
            cases cb with
            | false =>
              have HNs := Lib.hid (show false = (ls.take (i + 1)).all fun x => coinB x.2 from by rw [HT2.out, ← HCb.out, Bool.and_false])
              cases q with
              | true =>
                go_wp2_with fail
                go_roundw
                case rel => exact ⟨s, false, i + 1, rfl, rfl, by go_num, by omega, by omega, by omega, (fun h => by cases h), HNs.out, HNw.out, by trivial⟩
                case measure => show ls.length - (i + 1) < ls.length - i; omega
              | false =>
                go_wp2_with fail
                go_roundw
                case rel => exact ⟨s, false, i + 1, rfl, rfl, by go_num, by omega, by omega, by omega, (fun h => by cases h), HNs.out, HNw.out, by trivial⟩
                case measure => show ls.length - (i + 1) < ls.length - i; omega
            | true =>
              have hz := coinb_small HCb.out.symm
              obtain ⟨hz1, hz2⟩ := hz
              have HNs := Lib.hid (show q = (ls.take (i + 1)).all fun x => coinB x.2 from by rw [HT2.out, ← HCb.out, Bool.and_true]; exact HSm.out)
              have HNu := Lib.hid (show q = true → s + zc = sumE (ls.take (i + 1)) from fun h => by rw [HT1.out, ← HSu.out h])
              cases q with
              | true =>
                go_wp2_with fail
                go_roundw
                case rel => exact ⟨s + zc, true, i + 1, by go_num, rfl, by go_num, by omega, by omega, by omega, (fun _ => HNu.out (by trivial)), HNs.out, HNw.out, by trivial⟩
                case measure => show ls.length - (i + 1) < ls.length - i; omega
              | false =>
                go_wp2_with fail
                go_roundw
                case rel => exact ⟨s + zc, false, i + 1, by go_num, rfl, by go_num, by omega, by omega, by omega, (fun h => by cases h), HNs.out, HNw.out, by trivial⟩
                case measure => show ls.length - (i + 1) < ls.length - i; omega
        · have hcl : ¬ (i : Int) < (ls.length : Int) := by omega
          have HWx := Lib.hid (show (ls.any fun x => !wordB x.1) = false from by have h := HWd.out; rwa [List.take_of_length_le (by omega)] at h)
          have HSn := Lib.hid (show q = ls.all fun x => coinB x.2 from by have h := HSm.out; rwa [List.take_of_length_le (by omega)] at h)
          have HSv := Lib.hid (show q = true → s = sumE ls from by have h := HSu.out; rwa [List.take_of_length_le (by omega)] at h)
          have hi20 : (i : Int) ≤ 20 := by omega
          have HW0 := Lib.hid (Below.refl wr.heap.size wr)
          obtain ⟨W0, rfl⟩ : ∃ W0, W0 = wr := ⟨_, rfl⟩
          go_wp2_with fail
          go_loopw [8, 12] (fun s8 s12 wr => ∃ (p : Bool) (j : Nat), s8 = .bool p ∧ s12 = .int .i64 j ∧ j ≤ ls.length ∧ Hid (p = (q && (ls.take j).all fun x => coinB (totS rs ls x.1))) ∧ Hid (Below W0.heap.size W0 wr)) (fun _ s12 _ => ls.length - (intOf s12).toNat)
          case atStart => exact ⟨q, 0, rfl, rfl, Nat.zero_le _, by show _ = _; simp, HW0.out⟩
          case round =>
            obtain ⟨p, j, rfl, rfl, hj, HPj, HBj⟩ := hrel
            have m2 := cell_ext HBj.out m2
            by_cases hjl : j < ls.length
            · have hjc : (j : Int) < (ls.length : Int) := by omega
              have hj20 : (j : Int) ≤ 20 := by omega
              cases p with
              | false =>
                have HF := Lib.hid (show (3 : Int) = postC rs d (Gp.lineC x) ls from by unfold postC; rw [if_neg HG.out, if_neg HN4.out, if_neg (show ¬ 0 < Gp.lineC x from by have := HN1.out; omega), if_neg (by rw [HWx.out]; decide), if_pos (small_false HSn.out HPj.out.symm)])
                have HXf := Lib.hid (ext_trans HXe.out HBj.out)
                go_wp2_with fail
                go_ret
                exact HPc.out 3 HF.out (by omega) _ HXf.out
              | true =>
                have hq : q = true := by
                  have h := HPj.out
                  cases q with
                  | false => simp at h
                  | true => rfl
                have HSa := Lib.hid (show ∀ x ∈ ls, Small1 x.2 from fun x hx => coinb_small (List.all_eq_true.1 (HSn.out.symm.trans hq) x hx))
                have HAll := Lib.hid (show ((ls.take j).all fun x => coinB (totS rs ls x.1)) = true from by have h := HPj.out; rw [hq, Bool.true_and] at h; exact h.symm)
                have Hq := Lib.hid hq
                clear hq HPj
                obtain ⟨LA2, lc2, hG2, hE2⟩ := (HRe.out.ext HBj.out).ens
                obtain ⟨lb, lo, eA, y0, _⟩ := ln_at (HLe.out.ext HBj.out) hjl
                have HTj := Lib.hid (show ((ls.take (j + 1)).all fun x => coinB (totS rs ls x.1)) = (((ls.take j).all fun x => coinB (totS rs ls x.1)) && coinB (totS rs ls ls[j].1)) from by rw [List.take_succ_eq_append_getElem hjl, List.all_append]; simp)
                have HBal := Lib.hid (rbal G 0 LA2 lc2 rs (by omega) hsm ls[j].1 3652059 wr hG2 hE2)
                clear hG2 hE2
                obtain ⟨a, ha⟩ : ∃ a, a = ls[j].1 := ⟨_, rfl⟩
                rw [← ha] at y0 HTj HBal
                have HAj := Lib.hid ha
                clear ha
                have hbb := bal_small a 3652059 rs hsm
                obtain ⟨bs, hbs⟩ : ∃ bs, bs = balS a 3652059 rs := ⟨_, rfl⟩
                rw [← hbs] at HBal hbb
                have HBs := Lib.hid hbs
                have hb1 : -12000000000000000 ≤ bs := by omega
                have hb2 : bs ≤ 12000000000000000 := by omega
                clear hbs hbb
                subst eA
                obtain ⟨W1, hW1⟩ : ∃ W1, W1 = wr := ⟨_, rfl⟩
                subst hW1
                go_wp2_with fail
                refine HBal.out.mono ?_
                rintro e w2 ⟨rfl, hb⟩
                have HB2 := Lib.hid (ext_trans HBj.out hb)
                clear hb HBal
                have m2 := cell_ext HB2.out (HBe.out.cell 2 rfl)
                go_wp2_with fail
                go_loopw [13, 14] (fun s13 s14 wr => ∃ (t : Int) (k : Nat), s13 = .int .i64 t ∧ s14 = .int .i64 k ∧ k ≤ ls.length ∧ Hid (t = bs + lnS a 0 0 (ls.take k)) ∧ Hid (Below W0.heap.size W0 wr)) (fun _ s14 _ => ls.length - (intOf s14).toNat)
                case atStart => exact ⟨bs, 0, rfl, rfl, Nat.zero_le _, by show _ = _; simp [lnS], HB2.out⟩
                case round =>
                  obtain ⟨t, k, rfl, rfl, hk, HT, HB3⟩ := hrel
                  have htb : -12020000000000000 ≤ t ∧ t ≤ 12020000000000000 := by
                    have := lns_small a 0 0 (ls.take k) (fun x hx => HSa.out x (List.mem_of_mem_take hx))
                    have ht := HT.out
                    rw [List.length_take] at this
                    omega
                  obtain ⟨ht1, ht2⟩ := htb
                  have m2 := cell_ext HB3.out (HBe.out.cell 2 rfl)
                  clear y0
                  by_cases hkl : k < ls.length
                  · have hkc : (k : Int) < (ls.length : Int) := by omega
                    have hki : (k : Int) ≤ 30 := by omega
                    obtain ⟨b3, o3, e3, y0, _⟩ := ln_at (HLe.out.ext HB3.out) hjl
                    rw [← HAj.out] at y0
                    obtain ⟨b4, o4, e4, z0, z1⟩ := ln_at (HLe.out.ext HB3.out) hkl
                    cases e3
                    cases e4
                    have HTl := Lib.hid (lns_take a 0 0 ls hkl)
                    have HSx := Lib.hid (HSa.out _ (List.getElem_mem hkl))
                    generalize ls[k] = x at z0 z1 HTl HSx
                    obtain ⟨xn, xc⟩ := x
                    simp only at z0 z1
                    have hx1 : -1000000000000 ≤ xc := HSx.out.1
                    have hx2 : xc ≤ 1000000000000 := HSx.out.2
                    cases f1 : (xn == a) with
                    | true =>
                      have hxa : xn = a := by simpa using f1
                      have HN := Lib.hid (show t + xc = bs + lnS a 0 0 (ls.take (k + 1)) from by
                        rw [HTl.out, HT.out]
                        unfold lnA
                        rw [show (decide ((0 : Int) ≤ 0) && (xn == a)) = true from by rw [f1]; rfl]
                        simp
                        omega)
                      go_wp2_with fail
                      go_quiet (fail)
                      go_wp2_with fail
                      go_roundw
                      case rel => exact ⟨t + xc, k + 1, by go_num, by go_num, by omega, HN.out, ext_trans HB3.out (ext_drewN wr nq)⟩
                      case measure => show ls.length - (k + 1) < ls.length - k; omega
                    | false =>
                      have HN := Lib.hid (show t = bs + lnS a 0 0 (ls.take (k + 1)) from by
                        rw [HTl.out, HT.out]
                        unfold lnA
                        rw [f1, Bool.and_false]
                        simp)
                      go_wp2_with fail
                      go_quiet (fail)
                      go_wp2_with fail
                      go_roundw
                      case rel => exact ⟨t, k + 1, rfl, by go_num, by omega, HN.out, ext_trans HB3.out (ext_drewN wr nq)⟩
                      case measure => show ls.length - (k + 1) < ls.length - k; omega
                  · have hkc : ¬ (k : Int) < (ls.length : Int) := by omega
                    have HNt := Lib.hid (show t = totS rs ls a from by rw [HT.out, HBs.out, List.take_of_length_le (by omega)]; rfl)
                    obtain ⟨cb, hcb⟩ : ∃ cb, cb = coinB t := ⟨_, rfl⟩
                    have HCc := Lib.hid (show Calls Tryz.prog 51 #[.int .i64 t] wr (RetB cb wr) from by rw [hcb]; exact rsmall_any t wr)
                    have HNp := Lib.hid (show cb = (q && (ls.take (j + 1)).all fun x => coinB (totS rs ls x.1)) from by rw [HTj.out, HAll.out, ← HNt.out, ← hcb, Hq.out]; rfl)
                    clear hcb
                    go_wp2_with fail
                    refine HCc.out.mono ?_
                    rintro e w' ⟨rfl, rfl⟩
                    go_wp2_with fail
                    go_roundw
                    case rel => exact ⟨cb, j + 1, rfl, by go_num, by omega, HNp.out, HB3.out⟩
                    case measure => show ls.length - (j + 1) < ls.length - j; omega
            · have hjc : ¬ (j : Int) < (ls.length : Int) := by omega
              have HPe := Lib.hid (show p = smallE rs ls from by rw [HPj.out, HSn.out, List.take_of_length_le (by omega)]; rfl)
              have HXf := Lib.hid (ext_trans HXe.out HBj.out)
              cases p with
              | false =>
                have HF := Lib.hid (show (3 : Int) = postC rs d (Gp.lineC x) ls from by unfold postC; rw [if_neg HG.out, if_neg HN4.out, if_neg (show ¬ 0 < Gp.lineC x from by have := HN1.out; omega), if_neg (by rw [HWx.out]; decide), if_pos HPe.out.symm])
                go_wp2_with fail
                go_ret
                exact HPc.out 3 HF.out (by omega) _ HXf.out
              | true =>
                have HSs := Lib.hid (show s = sumE ls from HSv.out (by
                  have h := HPj.out
                  cases q with
                  | false => simp at h
                  | true => rfl))
                by_cases gs : s = 0
                · have HF0 := Lib.hid (show postC rs d (Gp.lineC x) ls = 0 from by unfold postC; rw [if_neg HG.out, if_neg HN4.out, if_neg (show ¬ 0 < Gp.lineC x from by have := HN1.out; omega), if_neg (by rw [HWx.out]; decide), if_neg (by rw [← HPe.out]; decide), if_neg (by rw [← HSs.out]; exact fun h => h gs)])
                  subst gs
                  obtain ⟨SA, sc, hk, ho⟩ := (HRe.out.ext HBj.out).blk
                  have hbr := blk_ext2 HBe.out HBj.out
                  have HKb := Lib.hid hk
                  have HO := Lib.hid ho
                  obtain ⟨j0, hj0, hz0, hz1, hz2⟩ := info_parts ren_info
                  have HJ := Lib.hid hj0
                  have HJ0 := Lib.hid hz0
                  have HJ1 := Lib.hid hz1
                  have HJ2 := Lib.hid hz2
                  have hs5 : G + 1 ≤ wr.heap.size := hk.lt
                  have hd : Below wr.heap.size wr wr.drew := ext_drewN wr 1
                  have d0 := cell_ext hd (hk.cell 0 rfl)
                  have f0 := cell_ext hd (hbr.cell 0 rfl)
                  have f1 := cell_ext hd (hbr.cell 1 rfl)
                  have f2 := cell_ext hd (hbr.cell 2 rfl)
                  have y3 := fun ob => cell_ext (ext_alloc wr ob) (hk.cell 0 rfl)
                  have HGl := Lib.hid (fun g (hg : (Value.slice SA rs.length sc).ownBlock = some g) => ho.lt g hg)
                  clear hd hk ho hbr hj0 hz0 hz1 hz2 m1
                  go_wp2_with fail
                  go_region_law (first
                    | (refine step_append_lies _ rfl (.tmp 147) (.tmp 149) 22 rfl (G + 1) 30 j0 _ 3 48 Tryz.underlying22 HJ.out HJ0.out HJ1.out HJ2.out rfl (by omega) (.slice SA rs.length sc) rs.length _ rfl (own_ext (World.ownsRow.alloc HO.out _) (ext_drewN _ 1)) ⟨wr.heap.size, 0, none⟩ 1 1 [.int .i64 d, .string ⟨x.toArray⟩, .slice A ls.length c] rfl rfl (fun j v hj => cell_ext (ext_drewN _ 1) (new_cells wr [.int .i64 d, .string ⟨x.toArray⟩, .slice A ls.length c] _ _ rfl j v hj)) (by intro v hv; simp only [List.mem_cons, List.not_mem_nil, or_false] at hv; rcases hv with rfl | rfl | rfl <;> rfl) (by omega) (by simp only [maxLen]; omega) (by omega) (by simp; omega) _ rfl ?_; intro g5 c5 w7 hown1 hg1 _ _; have HO7 := Lib.hid hown1; have HG7 := Lib.hid hg1; have HK7 := Lib.hid (blk_faL (blk_ext2 (blk_ext2 HKb.out (ext_alloc _ _)) (ext_drewN _ 1)) hg1 (fun h => by have := (HGl.out _ h).1; omega)); have y1 := HK7.out.cell 0 rfl; have y2 := HK7.out.free 0; clear hown1 hg1))
                  all_goals (
                    go_wp2_with fail
                    go_ret
                    refine ⟨by rw [HF0.out]; rfl, .inr ⟨HF0.out, ⟨?_, HR0.out.hG, ⟨some ⟨g5, 0, none⟩, c5, ?_, ?_⟩, ?_⟩, ?_⟩⟩
                    · have hBs := HR0.out.below.size
                      have hBG := HR0.out.hG
                      exact Below.setCell (p := ⟨G, 0, none⟩) (Below.grown (HRe.out.below.trans ((ext_trans HBj.out (ext_trans (ext_alloc wr _) (ext_drewN _ 1))).mono HRe.out.below.size)) HG7.out (by have := HRe.out.below.size; have := HBj.out.size; simp; omega) (fun g hg => by have := (HGl.out g hg).1; omega)) (by show B.heap.size ≤ G; omega) _
                    · rw [List.length_append]
                      exact HK7.out.set 0 _
                    · rw [List.length_append, List.flatMap_append]
                      exact ownsRow_setCell_below HO7.out (a := ⟨G, 0, none⟩) (Nat.lt_succ_self G) _
                    · intro r hr
                      rcases List.mem_append.1 hr with hr | hr
                      · exact HR0.out.lns r hr
                      · obtain rfl := List.mem_singleton.1 hr
                        exact HA0.out
                    · exact ((Lf.of (ext_trans HXe.out (ext_trans HBj.out (ext_trans (ext_alloc wr _) (ext_drewN _ 1))))).trans (Lf.grown (own_ext (World.ownsRow.alloc HO.out _) (ext_drewN _ 1)) HG7.out)).trans (Lf.set HK7.out 0 _))
                · have HF := Lib.hid (show (8 : Int) = postC rs d (Gp.lineC x) ls from by unfold postC; rw [if_neg HG.out, if_neg HN4.out, if_neg (show ¬ 0 < Gp.lineC x from by have := HN1.out; omega), if_neg (by rw [HWx.out]; decide), if_neg (by rw [← HPe.out]; decide), if_pos (by rw [← HSs.out]; exact gs)])
                  go_wp2_with fail
                  go_ret
                  exact HPc.out 8 HF.out (by omega) _ HXf.out
end Go.Proofs.YtdnhfcphmbhloaaGreatDoor.Lk

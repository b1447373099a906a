/- LedgerKeeps: the program's Post. -/
import Derived.Test.YtdnhfcphmbhloaaGreatDoorLkP
import Derived.Test.YtdnhfcphmbhloaaGreatDoorLkI
import Derived.Maps.RangeWalk
import Derived.Sort.KeysCollected
namespace Go.Proofs.YtdnhfcphmbhloaaGreatDoor.Lk
open Go.RowKit Mem Nest Fk Msi Err

def errI (E : Nat → Addr) (c : Int) : Value := if c = 0 then .nilIface else sentV (E (c.toNat - 1))
/-- the program's ledger at block G -/
structure Pl (B : World) (G : Nat) (rs : List En) (w : World) : Prop where
  below : Below B.heap.size B w
  hG : B.heap.size ≤ G
  blk : ∃ A c, Blk w G 95 [.slice A rs.length c] ∧ w.ownsRow (G + 1) 36 3 (.slice A rs.length c) rs.length (rs.flatMap enCells)
  lns : ∀ r ∈ rs, RdK w 49 r.A (r.lines.flatMap lnCells)
theorem Pl.ext {B : World} {G : Nat} {rs : List En} {w w' : World} (h : Pl B G rs w) (hb : Below w.heap.size w w') : Pl B G rs w' := by
  obtain ⟨h1, h2, ⟨A, c, h3, h4⟩, h5⟩ := h
  exact ⟨ext_trans h1 hb, h2, ⟨A, c, blk_ext2 h3 hb, own_ext h4 hb⟩, fun r hr => (h5 r hr).ext hb⟩
theorem Pl.ens {B : World} {G : Nat} {rs : List En} {w : World} (h : Pl B G rs w) : ∃ A c, w.cell? ⟨G, 0, none⟩ = some (.slice A rs.length c) ∧ Ens w A rs := by
  obtain ⟨A, c, h3, h4⟩ := h.blk
  exact ⟨A, c, h3.cell 0 rfl, ⟨Rd.of_own h4, fun r hr => (h.lns r hr).rd⟩⟩
def PpPost (E : Nat → Addr) (B : World) (G : Nat) (rs : List En) (d : Int) (x : Tx) (ls : List Ln) (w : World) (e : Ending) (w' : World) : Prop :=
  e = .returned (errI E (postC rs d (Gp.lineC x) ls)) ∧ ((postC rs d (Gp.lineC x) ls ≠ 0 ∧ Below w.heap.size w w') ∨ (postC rs d (Gp.lineC x) ls = 0 ∧ (∃ A c, Pl B G (rs ++ [⟨d, x, ls, A, c⟩]) w') ∧ Lf G 95 36 w w'))
/-- what the map of an entry's accounts holds -/
def gK (ls : List Ln) (s : Tx) : Option Int := if (ls.any fun x => x.1 == s) = true then some (lnS s 0 0 ls) else none
theorem lns_none (s : Tx) : ∀ ls : List Ln, (ls.any fun x => x.1 == s) = false → lnS s 0 0 ls = 0
  | [], _ => rfl
  | x :: l, h => by
    rw [List.any_cons, Bool.or_eq_false_iff] at h
    simp only [lnS, lns_none s l h.2]
    unfold lnA
    rw [h.1, Bool.and_false]
    rfl
theorem gk_getD (ls : List Ln) (s : Tx) : (gK ls s).getD 0 = lnS s 0 0 ls := by
  unfold gK
  split
  · rfl
  · rename_i h
    rw [lns_none s ls (by rw [Bool.not_eq_true] at h; exact h)]
    rfl
theorem gk_snoc (ls : List Ln) {k : Nat} (h : k < ls.length) (s : Tx) : gK (ls.take (k + 1)) s = if s = ls[k].1 then some ((gK (ls.take k) ls[k].1).getD 0 + ls[k].2) else gK (ls.take k) s := by
  have h1 : ((ls.take (k + 1)).any fun x => x.1 == s) = (((ls.take k).any fun x => x.1 == s) || ls[k].1 == s) := by
    rw [List.take_succ_eq_append_getElem h, List.any_append]
    simp
  have h2 := lns_take s 0 0 ls h
  by_cases e : s = ls[k].1
  · rw [if_pos e, gk_getD, ← e]
    unfold gK
    rw [h1, ← e]
    rw [if_pos (by simp), h2]
    unfold lnA
    rw [← e]
    simp
  · rw [if_neg e]
    unfold gK
    have e2 : (ls[k].1 == s) = false := by simpa using fun h => e h.symm
    rw [h1, e2, Bool.or_false, h2]
    unfold lnA
    rw [e2, Bool.and_false]
    simp
theorem SI.congrL {w : World} {b n : Nat} {g g' : List UInt8 → Option Int} (h : SI w b n g) (e : ∀ s, g s = g' s) : SI w b n g' := by
  obtain rfl : g = g' := funext e
  exact h
theorem SI.keepL {w w' : World} {b n B : Nat} {g : List UInt8 → Option Int} (h : SI w b n g) (hlt : b < B) (hb : Below B w w') : SI w' b n g := by
  obtain ⟨D, ⟨es, cl, h1, h2⟩, hs⟩ := h
  exact ⟨D, ⟨es, cl, by rw [hb.block b hlt]; exact h1, h2⟩, hs⟩
theorem inv_keyL (key : Value) (kl : Lit) (h : keyOf Tryz.prog 9 key = some kl) : ∃ x : List UInt8, key = Value.string ⟨x.toArray⟩ := by
  obtain ⟨x, e, _, _⟩ := Maps.keyOf_str Tryz.underlying9 h
  exact ⟨x, e⟩
theorem inv_valL (v : Value) (y : DataW Unit × List MemPlace) (h : Msi.rd v = some y) : ∃ c : Int, v = .int .i64 c := by
  obtain ⟨x, rfl, _⟩ := rd_inv h
  exact ⟨x, rfl⟩
theorem same_strL (o x : Tx) : (Lit.string o).sameKey (.string x) = decide (o = x) := by
  by_cases e : o = x
  · subst e
    rw [decide_eq_true rfl]
    simp [Lit.sameKey]
  · rw [decide_eq_false e]
    exact Maps.sameKey_ne (fun h => e (by injection h))
set_option maxRecDepth 100000 in
theorem cameL {g : Tx → Option Int} {D : DataW Unit} (hs : ∀ s : List UInt8, s.length ≤ 9223372036854775807 → Maps.has D (.string s) = (g s).isSome ∧ ∀ x, g s = some x → ∀ z, D.atKey (.string s) z = enc x) {x : Tx} {c : Int} {kl : Lit} {y : DataW Unit × List MemPlace} (hkey : keyOf Tryz.prog 9 (.string ⟨x.toArray⟩) = some kl) (hv : Msi.rd (.int .i64 c) = some y) (hat : ∀ zd, D.atKey kl zd = y.1) : kl = .string x ∧ x.length ≤ 9223372036854775807 ∧ g x = some c := by
  obtain ⟨x', e, rfl, hl⟩ := Maps.keyOf_str Tryz.underlying9 hkey
  have e2 : x = x' := by
    have e3 : (⟨x.toArray⟩ : ByteArray) = ⟨x'.toArray⟩ := by injection e
    injection e3 with e4
    simpa using congrArg Array.toList e4
  subst e2
  have hl2 : x.length ≤ 9223372036854775807 := by unfold maxLen at hl; omega
  obtain ⟨c', e, rfl⟩ := rd_inv hv
  have e3 : c = c' := by injection e
  subst e3
  refine ⟨rfl, hl2, ?_⟩
  obtain ⟨h1, h2⟩ := hs x hl2
  rw [Maps.has_true_of_atKey hat] at h1
  cases hg : g x with
  | none => rw [hg] at h1; cases h1
  | some z =>
    have := h2 z hg (enc c)
    rw [hat] at this
    rw [enc_inj this]
theorem rdk_setL {w : World} {e T : TypeId} {A : Option Addr} {cs cs' : List Value} {K : Nat} (h : RdK w e A cs) (hb : Blk w K T cs') (hne : e ≠ T) (j : Nat) (v : Value) : RdK (w.setCell ⟨K, j, none⟩ v) e A cs := fun i u hi => by
  obtain ⟨b, o, e1, hc, c, fz, hk⟩ := h i u hi
  have hbk : b ≠ K := by
    rintro rfl
    unfold Blk at hb
    rw [hb] at hk
    simp only [Option.some.injEq, Obj.cells.injEq] at hk
    exact hne hk.2.1.symm
  have hs : (w.setCell ⟨K, j, none⟩ v).heap[b]? = w.heap[b]? := by simp [World.setCell, Array.getElem?_modify, Ne.symm hbk]
  exact ⟨b, o, e1, by rw [World.cell?_of_block (w := w) (by rw [hs])]; exact hc, c, fz, by rw [hs]; exact hk⟩
theorem en_infoP : (Tryz.prog.info? 36).map (fun i => (i.zero, i.size, i.bytes)) = some (some (.agg #[.int .i64 0, .string ⟨#[]⟩, .slice none 0 0]), 3, 48) := by kernel_rfl
theorem lcp {x : Tx} : 0 < Gp.lineC x ↔ Gp.lineB x = false := by
  have h := Gp.lineC_pos x
  cases hb : Gp.lineB x with
  | false => rw [hb] at h; simpa using h
  | true => rw [hb] at h; simpa using h
set_option maxRecDepth 100000 in
set_option maxHeartbeats 4000000 in
theorem ppost (E : Nat → Addr) (B : World) (G : Nat) (rs : List En) (hrs : rs.length ≤ 400) (hsm : ∀ r ∈ rs, r.lines.length ≤ 30 ∧ ∀ x ∈ r.lines, Small1 x.2) (d : Int) (x : Tx) (hx : x.length ≤ 1000) (ls : List Ln) (hl : ls.length ≤ 30) (hw : ∀ x ∈ ls, x.1.length ≤ 9223372036854775807) (A : Option Addr) (c : Nat) (w : World) (hE : Errs w E) (h : Pl B G rs w) (hA : Rd w A (ls.flatMap lnCells)) :
    Calls Tryz.prog 9 #[.pointer (some ⟨G, 0, none⟩), .agg #[.int .i64 d, .string ⟨x.toArray⟩, .slice A ls.length c]] w (PpPost E B G rs d x ls w) := by
  have xa := ext_alloc w (.cells #[.int .i64 d, .string ⟨x.toArray⟩, .slice A ls.length c] 36)
  have ba := Blk.new w 36 [.int .i64 d, .string ⟨x.toArray⟩, .slice A ls.length c]
  obtain ⟨V, hV⟩ : ∃ V, V = w.alloc (.cells #[.int .i64 d, .string ⟨x.toArray⟩, .slice A ls.length c] 36) := ⟨_, rfl⟩
  obtain ⟨R, hR⟩ : ∃ R, R = w.heap.size := ⟨_, rfl⟩
  rw [← hV] at xa ba
  rw [← hR] at ba
  have HRw := Lib.hid (show w.heap.size ≤ R from by omega)
  have HX := Lib.hid xa
  have HP0 := Lib.hid h
  have HEr := Lib.hid (hE.below xa)
  have HBa := Lib.hid ba
  have HLs := Lib.hid (hA.ext xa)
  obtain ⟨LA, lc, k0, hens⟩ := (h.ext xa).ens
  have HEn := Lib.hid hens
  have m2 := ba.cell 2 rfl
  have HPc := Lib.hid (show ∀ (e : Int) (v : Value), v = errI E e → e = postC rs d (Gp.lineC x) ls → e ≠ 0 → ∀ w', Below w.heap.size w w' → PpPost E B G rs d x ls w (.returned v) w' from fun e v hv he hn w' hb => ⟨by rw [hv, he], .inl ⟨he ▸ hn, hb⟩⟩)
  clear h hA hE xa ba hens
  go_enter Tryz.func9, Tryz.ntmps9
  go_upto_region 1 with fail
  rw [← hV, ← hR]
  clear hV hR
  by_cases g1 : rs.length = 400
  · have q1 : ((rs.length : Int) == 400) = true := by rw [g1]; rfl
    have HF := Lib.hid (show (2 : Int) = postC rs d (Gp.lineC x) ls from by unfold postC; rw [if_pos (.inl (by omega))])
    have v1 := HEr.out.v1
    unfold sentV at v1
    clear g1
    go_wp2_with fail
    go_ret
    exact HPc.out 2 _ rfl HF.out (by omega) _ HX.out
  have q1 : ((rs.length : Int) == 400) = false := by
    rw [beq_eq_false_iff_ne]
    omega
  by_cases g2 : 20 < ls.length
  · have g2' : (20 : Int) < ls.length := by omega
    have HF := Lib.hid (show (2 : Int) = postC rs d (Gp.lineC x) ls from by unfold postC; rw [if_pos (.inr g2)])
    have v1 := HEr.out.v1
    unfold sentV at v1
    clear g1 g2
    go_wp2_with fail
    go_ret
    exact HPc.out 2 _ rfl HF.out (by omega) _ HX.out
  have g2' : ¬ (20 : Int) < ls.length := by omega
  have HG := Lib.hid (show ¬ (400 ≤ rs.length ∨ 20 < ls.length) from by omega)
  have hrl : rs.length ≤ 399 := by omega
  have hll : ls.length ≤ 20 := by omega
  clear g1 g2 hrs hl
  obtain ⟨dy, hdy⟩ : ∃ dy, dy = dayB d := ⟨_, rfl⟩
  have HDay := Lib.hid (show ∀ w, Calls Tryz.prog 41 #[.int .i64 d] w (RetB dy w) from fun w => by rw [hdy]; exact day_any d w)
  have HDy := Lib.hid hdy
  clear hdy
  have m0 := HBa.out.cell 0 rfl
  go_upto_region 4 with fail
  go_cut [27] (fun t w9 => ∃ b : Bool, t = .bool b ∧ Hid (b = true ↔ (dayB d = false ∨ lateE rs d = true)) ∧ Hid (Below V.heap.size V w9))
  case first =>
    have HD := Lib.hid (ext_drewN V)
    cases dy with
    | false =>
      have HB := Lib.hid (show true = true ↔ (dayB d = false ∨ lateE rs d = true) from ⟨fun _ => .inl HDy.out.symm, fun _ => rfl⟩)
      go_quiet ((go_at_call 41; exact Calls.quiet_of_same ((HDay.out _).mono fun e w' h => ⟨h.1, h.2.symm⟩)))
      go_wp2_with fail
      go_meet
      exact ⟨true, rfl, ⟨fun _ => HB.out.1 (by trivial), fun _ => rfl⟩, HD.out _⟩
    | true =>
      by_cases hn : rs.length = 0
      · have HB := Lib.hid (show ¬ (dayB d = false ∨ lateE rs d = true) from by
          rw [← HDy.out, List.eq_nil_of_length_eq_zero hn]
          simp [lateE])
        obtain rfl := List.eq_nil_of_length_eq_zero hn
        clear hn
        go_quiet ((go_at_call 41; exact Calls.quiet_of_same ((HDay.out _).mono fun e w' h => ⟨h.1, h.2.symm⟩)))
        go_wp2_with fail
        go_meet
        exact ⟨false, rfl, ⟨(fun h => by cases h), fun h => absurd h HB.out⟩, HD.out _⟩
      · obtain ⟨m, hm⟩ : ∃ m, rs.length = m + 1 := ⟨rs.length - 1, by omega⟩
        have hml : m < rs.length := by omega
        obtain ⟨lb, lo, eL, x0, _, _⟩ := en_at HEn.out.rows hml
        have HLt := Lib.hid (show lateE rs d = decide (d < rs[m].day) from by
          unfold lateE
          rw [List.getLast?_eq_getElem?, show rs.length - 1 = m by omega, List.getElem?_eq_getElem hml])
        subst eL
        generalize rs[m].day = ld at x0 HLt
        have hn1 : (0 : Int) < (rs.length : Int) := by omega
        have hm1 : (rs.length : Int) - 1 = (m : Int) := by omega
        have hmc : (m : Int) < (rs.length : Int) := by omega
        have hn2 : 0 < rs.length := by omega
        have hn3 : rs ≠ [] := fun e => by rw [e] at hn2; simp at hn2
        clear hn hm
        by_cases g : d < ld
        · have HB := Lib.hid (show dayB d = false ∨ lateE rs d = true from .inr (by rw [HLt.out]; simpa using g))
          go_quiet ((go_at_call 41; exact Calls.quiet_of_same ((HDay.out _).mono fun e w' h => ⟨h.1, h.2.symm⟩)))
          go_wp2_with fail
          go_meet
          exact ⟨true, rfl, ⟨fun _ => HB.out, fun _ => rfl⟩, HD.out _⟩
        · have HB := Lib.hid (show ¬ (dayB d = false ∨ lateE rs d = true) from by
            rw [← HDy.out, HLt.out]
            simp
            omega)
          go_quiet ((go_at_call 41; exact Calls.quiet_of_same ((HDay.out _).mono fun e w' h => ⟨h.1, h.2.symm⟩)))
          go_wp2_with fail
          go_meet
          exact ⟨false, rfl, ⟨(fun h => by cases h), fun h => absurd h HB.out⟩, HD.out _⟩
  case rest =>
    obtain ⟨b, rfl, HB, HB9⟩ := hcut
    obtain ⟨W9, rfl⟩ : ∃ W9, W9 = wc := ⟨_, rfl⟩
    have HXe := Lib.hid (ext_trans HX.out HB9.out)
    have HE9 := Lib.hid (HEr.out.below HB9.out)
    cases b with
    | true =>
      have HF := Lib.hid (show (4 : Int) = postC rs d (Gp.lineC x) ls from by unfold postC; rw [if_neg HG.out, if_pos (HB.out.1 rfl)])
      have v3 := HE9.out.v3
      unfold sentV at v3
      go_wp2_with fail
      go_ret
      exact HPc.out 4 _ rfl HF.out (by omega) _ HXe.out
    | false =>
      have HN4 := Lib.hid (show ¬ (dayB d = false ∨ lateE rs d = true) from fun h => by have := HB.out.2 h; cases this)
      have HBe := Lib.hid (blk_ext2 HBa.out HB9.out)
      have HLe := Lib.hid (HLs.out.ext HB9.out)
      have m1 := HBe.out.cell 1 rfl
      have HLi := Lib.hid (Gp.pline_any x (by omega) E W9 HE9.out)
      clear HB HB9 m0 m2 k0 HBa HLs HX HEn HEr HDay HDy
      obtain ⟨lb, hlb⟩ : ∃ lb, lb = Gp.lineB x := ⟨_, rfl⟩
      rw [← hlb] at HLi
      have HLb := Lib.hid hlb
      clear hlb
      go_wp2_with fail
      refine HLi.out.mono ?_
      rintro e w2 ⟨⟨v, rfl, hv1, hv2⟩, hb⟩
      have HB2 := Lib.hid hb
      have HX2 := Lib.hid (ext_trans HXe.out hb)
      have HE2 := Lib.hid (HE9.out.below hb)
      have HR2 := Lib.hid (blk_ext2 HBe.out hb)
      have HL2 := Lib.hid (HLe.out.ext hb)
      clear hb m1 HLi
      cases lb with
      | false =>
        obtain ⟨k, rfl⟩ := hv2 rfl
        have HF := Lib.hid (show (1 : Int) = postC rs d (Gp.lineC x) ls from by unfold postC; rw [if_neg HG.out, if_neg HN4.out, if_pos (lcp.2 HLb.out.symm)])
        have v0 := HE2.out.v0
        unfold sentV at v0 ⊢
        clear hv1 hv2
        go_wp2_with fail
        go_ret
        exact HPc.out 1 _ rfl HF.out (by omega) _ HX2.out
      | true =>
        obtain rfl := hv1 rfl
        have HN1 := Lib.hid (show ¬ 0 < Gp.lineC x from fun h => by have := lcp.1 h; rw [← HLb.out] at this; cases this)
        clear hv1 hv2
        have m2 := HR2.out.cell 2 rfl
        obtain ⟨nb, hnb⟩ : ∃ nb, nb = ls.any fun x => !wordB x.1 := ⟨_, rfl⟩
        have HWo := Lib.hid (lwords ls (by omega) hw A c w2 HL2.out)
        rw [← hnb] at HWo
        have HNb := Lib.hid hnb
        clear hnb
        go_wp2_with fail
        refine HWo.out.mono ?_
        rintro e w3 ⟨rfl, hb⟩
        have HX3 := Lib.hid (ext_trans HX2.out hb)
        have HE3 := Lib.hid (HE2.out.below hb)
        have HR3 := Lib.hid (blk_ext2 HR2.out hb)
        have HL3 := Lib.hid (HL2.out.ext hb)
        clear hb m2 HWo
        cases nb with
        | true =>
          have HF := Lib.hid (show (7 : Int) = postC rs d (Gp.lineC x) ls from by unfold postC; rw [if_neg HG.out, if_neg HN4.out, if_neg (show ¬ 0 < Gp.lineC x from by have := HN1.out; omega), if_pos HNb.out.symm])
          have v6 := HE3.out.v6
          unfold sentV at v6
          go_wp2_with fail
          go_ret
          exact HPc.out 7 _ rfl HF.out (by omega) _ HX3.out
        | false =>
          have HFs := Lib.hid (show smallE rs ls = false → (3 : Int) = postC rs d (Gp.lineC x) ls from fun h => by unfold postC; rw [if_neg HG.out, if_neg HN4.out, if_neg (show ¬ 0 < Gp.lineC x from by have := HN1.out; omega), if_neg (by rw [← HNb.out]; decide), if_pos h])
          have hmm := @run_makeMap Tryz.prog
          have hM := SI.made w3
          have hb0 := ext_alloc w3 (.map #[] 0)
          have m2 := cell_ext hb0 (HR3.out.cell 2 rfl)
          obtain ⟨W4, hW4⟩ : ∃ W4, W4 = w3.alloc (.map #[] 0) := ⟨_, rfl⟩
          obtain ⟨M, hMe⟩ : ∃ M, M = w3.heap.size := ⟨_, rfl⟩
          rw [← hW4] at hM hb0 m2
          rw [← hMe] at hM
          have HM := Lib.hid hM
          have HB4 := Lib.hid hb0
          have HM3 := Lib.hid (show w3.heap.size ≤ M from by omega)
          clear hM hb0
          go_upto_region 12 with fail
          rw [← hW4, ← hMe]
          clear hW4 hMe hmm
          go_wp2_with fail
          go_loopw [6, 66] (fun s6 s66 wr => ∃ (s : Int) (k : Nat), s6 = .int .i64 s ∧ s66 = .int .i64 k ∧ k ≤ ls.length ∧ -(1000000000000 * (k : Int)) ≤ s ∧ s ≤ 1000000000000 * (k : Int) ∧ Hid (s = sumE (ls.take k)) ∧ Hid (∀ x ∈ ls.take k, coinB x.2 = true) ∧ Hid (SI wr M k (gK (ls.take k))) ∧ Hid (Below w3.heap.size w3 wr)) (fun _ s66 _ => ls.length - (intOf s66).toNat)
          case atStart => exact ⟨0, 0, rfl, rfl, Nat.zero_le _, by omega, by omega, (by show _ = _; simp [sumE]), (by intro x hx; simp at hx), (show SI W4 M 0 (gK (ls.take 0)) from SI.congrL HM.out (fun s => by simp [gK])), HB4.out⟩
          case round =>
            clear HB4 HM m2
            obtain ⟨s, k, rfl, rfl, hk, hs1, hs2, HSu, HAc, HSI, HBk⟩ := hrel
            by_cases hlt : k < ls.length
            · have hcl : (k : Int) < (ls.length : Int) := by omega
              have hk20 : (k : Int) ≤ 20 := by omega
              have HWl := Lib.hid (hw _ (List.getElem_mem hlt))
              have HT1 := Lib.hid (sume_take ls hlt)
              have HT2 := Lib.hid (List.take_succ_eq_append_getElem hlt)
              have HT3 := Lib.hid (gk_snoc ls hlt)
              have HBd := Lib.hid (show coinB ls[k].2 = false → smallE rs ls = false from fun hf => by
                unfold smallE
                rw [show (ls.all fun x => coinB x.2) = false from by rw [← Bool.not_eq_true, List.all_eq_true]; exact fun h => by rw [h _ (List.getElem_mem hlt)] at hf; cases hf]
                rfl)
              obtain ⟨lb, lo, eA, y0, y1⟩ := ln_at (HL3.out.ext HBk.out) hlt
              generalize ls[k] = z at y0 y1 HWl HT1 HT2 HT3 HBd
              obtain ⟨zn, zc⟩ := z
              simp only at y0 y1
              have xa := ext_alloc wr (.cells #[.string ⟨zn.toArray⟩, .int .i64 zc] 49)
              have ba := Blk.new wr 49 [.string ⟨zn.toArray⟩, .int .i64 zc]
              have hsi := HSI.out.ext xa
              obtain ⟨U, hU⟩ : ∃ U, U = wr.alloc (.cells #[.string ⟨zn.toArray⟩, .int .i64 zc] 49) := ⟨_, rfl⟩
              obtain ⟨Q, hQ⟩ : ∃ Q, Q = wr.heap.size := ⟨_, rfl⟩
              rw [← hU] at xa ba hsi
              rw [← hQ] at ba
              have HBu := Lib.hid (ext_trans HBk.out xa)
              have z0 := ba.cell 0 rfl
              have z1 := ba.cell 1 rfl
              obtain ⟨v0, hv0⟩ : ∃ v0, v0 = (gK (ls.take k) zn).getD 0 := ⟨_, rfl⟩
              have hvb : -20000000000000 ≤ v0 ∧ v0 ≤ 20000000000000 := by
                rw [hv0, gk_getD]
                have := lns_small zn 0 0 (ls.take k) (fun x hx => coinb_small (HAc.out x hx))
                rw [List.length_take] at this
                omega
              obtain ⟨hv1, hv2⟩ := hvb
              have hlk := hsi.look (s := zn) HWl.out
              rw [← hv0] at hlk
              have HV := Lib.hid hv0
              obtain ⟨w5, hup, hsi5, hg5⟩ := hsi.upd (s := zn) HWl.out (show k < maxLen from by unfold maxLen; omega) (v0 + zc)
              have HSI5 := Lib.hid hsi5
              have HB5 := Lib.hid (HBu.out.grown hg5 HBu.out.size (fun g hg => by obtain rfl := Option.some.inj hg; exact HM3.out))
              clear xa ba hsi hv0 hsi5 hg5
              obtain ⟨cb, hcb⟩ : ∃ cb, cb = coinB zc := ⟨_, rfl⟩
              have HCc := Lib.hid (show Calls Tryz.prog 46 #[.int .i64 zc] U (RetB cb U) from by rw [hcb]; exact coin_any zc U)
              have HCb := Lib.hid hcb
              clear hcb
              subst eA
              go_upto_region 15 with fail
              rw [← hU, ← hQ]
              clear hU hQ y0 y1
              go_wp2_with fail
              refine HCc.out.mono ?_
              rintro e w' ⟨rfl, rfl⟩
              cases cb with
              | false =>
                have HF := Lib.hid (HFs.out (HBd.out HCb.out.symm))
                have HXf := Lib.hid (ext_trans HX3.out HBu.out)
                have v2 := (HE3.out.below HBu.out).v2
                unfold sentV at v2
                go_wp2_with fail
                go_ret
                exact HPc.out 3 _ rfl HF.out (by omega) _ HXf.out
              | true =>
                obtain ⟨hz1, hz2⟩ := coinb_small HCb.out.symm
                have HNs := Lib.hid (show s + zc = sumE (ls.take (k + 1)) from by rw [HT1.out, HSu.out])
                have HNa := Lib.hid (show ∀ x ∈ ls.take (k + 1), coinB x.2 = true from fun x hx => by
                  rw [HT2.out] at hx
                  rcases List.mem_append.1 hx with hx | hx
                  · exact HAc.out x hx
                  · obtain rfl := List.mem_singleton.1 hx
                    exact HCb.out.symm)
                have HNi := Lib.hid (show SI w5 M (k + 1) (gK (ls.take (k + 1))) from SI.congrL HSI5.out (fun s => by rw [HT3.out s]; show _ = if s = zn then some ((gK (ls.take k) zn).getD 0 + zc) else _; rw [← HV.out]))
                go_wp2_with fail
                go_roundw
                case rel => exact ⟨s + zc, k + 1, by go_num, by go_num, by omega, by omega, by omega, HNs.out, HNa.out, HNi.out, HB5.out⟩
                case measure => show ls.length - (k + 1) < ls.length - k; omega
            · have hcl : ¬ (k : Int) < (ls.length : Int) := by omega
              obtain rfl : k = ls.length := by omega
              have HSn := Lib.hid (show s = sumE ls from by have h := HSu.out; rwa [List.take_of_length_le (Nat.le_refl _)] at h)
              have HAn := Lib.hid (show ∀ x ∈ ls, coinB x.2 = true from by have h := HAc.out; rwa [List.take_of_length_le (Nat.le_refl _)] at h)
              have hsi := HSI.out
              rw [List.take_of_length_le (Nat.le_refl _)] at hsi
              obtain ⟨D, hD, hs⟩ := hsi
              have HS := Lib.hid hs
              have HBk2 := Lib.hid HBk.out
              obtain ⟨w6, rfl⟩ : ∃ w6, w6 = wr := ⟨_, rfl⟩
              clear hs HSI HSu HAc HBk
              go_wp2_with (first | (at_range; refine wpList_range_own _ rfl _ 100 rfl 9 3 str_law Tryz.underlying100 Msi.rd M ls.length D rfl hD ?_; intro w0 hrg0 hg0 hs0) | go_in)
              have HB0 := Lib.hid (HBk2.out.grown hg0 HBk2.out.size (fun g hg => by cases hg))
              have HW6 := Lib.hid HBk2.out.size
              go_loopw [] (fun wr => ∃ (left : Lit → Bool) (cnt : Nat), wr.ranges Tryz.prog 9 Msi.rd M w6.heap.size ls.length D left cnt ∧ Hid (∀ s : Tx, s.length ≤ 9223372036854775807 → (gK ls s).isSome = true → left (.string s) = false → coinB (totS rs ls s) = true) ∧ Hid (Below w3.heap.size w3 wr)) (fun wr => wr.rangeLeft M w6.heap.size)
              case atStart => exact ⟨_, _, hrg0, (fun s hl h1 h2 => by rw [(HS.out s hl).1, h1] at h2; cases h2), HB0.out⟩
              case round =>
                clear HB0 hrg0 hg0 hs0 hD
                obtain ⟨left, cnt, hrg, HLf, HBr⟩ := hrel
                go_wp2_with (first
                  | (at_next; refine wpList_next_ranges _ rfl _ rfl 9 str_law Msi.rd (fun x : List UInt8 => Value.string ⟨x.toArray⟩) (Value.int .i64) inv_keyL inv_valL M w6.heap.size ls.length D left cnt rfl hrg ?_ ?_)
                  | go_in)
                · intro hc0 hl0
                  have HSm := Lib.hid (show smallE rs ls = true from by
                    unfold smallE
                    rw [Bool.and_eq_true]
                    refine ⟨List.all_eq_true.2 HAn.out, List.all_eq_true.2 fun x hx => HLf.out x.1 (hw x hx) ?_ (hl0 _)⟩
                    unfold gK
                    rw [if_pos (List.any_eq_true.2 ⟨x, hx, by simp⟩)]
                    rfl)
                  clear hc0 hl0 hrg
                  by_cases gs : s = 0
                  · have HF0 := Lib.hid (show postC rs d (Gp.lineC x) ls = 0 from by unfold postC; rw [if_neg HG.out, if_neg HN4.out, if_neg (show ¬ 0 < Gp.lineC x from by have := HN1.out; omega), if_neg (by rw [← HNb.out]; decide), if_neg (by rw [HSm.out]; decide), if_neg (by rw [← HSn.out]; exact fun h => h gs)])
                    subst gs
                    have HXr := Lib.hid (ext_trans HX3.out HBr.out)
                    have HRr := Lib.hid (blk_ext2 HR3.out HBr.out)
                    have m2 := HRr.out.cell 2 rfl
                    have HCl := Lib.hid (cloneL_any ls (by omega) A c wr (HL3.out.ext HBr.out))
                    go_wp2_with fail
                    refine HCl.out.mono ?_
                    rintro e w8 ⟨⟨A2, c2, rfl, hk2, _, hc2⟩, hb⟩
                    have hr8 := blk_ext2 HRr.out hb
                    have n2 := hr8.cell 2 rfl
                    have n3 := hr8.free 2
                    obtain ⟨X, hX⟩ : ∃ X, X = w8.setCell ⟨R, 2, none⟩ (.slice A2 ls.length c2) := ⟨_, rfl⟩
                    have hrx := hr8.set 2 (.slice A2 ls.length c2)
                    have hkx := rdk_setL hk2 hr8 (by decide) 2 (.slice A2 ls.length c2)
                    have HXx := Lib.hid (show Below w.heap.size w X from by rw [hX]; exact Below.setCell (p := ⟨R, 2, none⟩) (ext_trans HXr.out hb) (by show w.heap.size ≤ R; exact HRw.out) _)
                    rw [← hX] at hrx hkx
                    have HKx := Lib.hid hkx
                    have HPx := Lib.hid (HP0.out.ext HXx.out)
                    obtain ⟨SA, sc, hk, ho⟩ := HPx.out.blk
                    have HKb := Lib.hid hk
                    have HO := Lib.hid ho
                    obtain ⟨j0, hj0, hz0, hz1, hz2⟩ := info_parts en_infoP
                    have HJ := Lib.hid hj0
                    have HJ0 := Lib.hid hz0
                    have HJ1 := Lib.hid hz1
                    have HJ2 := Lib.hid hz2
                    have hs5 : G + 1 ≤ X.heap.size := hk.lt
                    have hd : Below X.heap.size X X.drew := ext_drewN X 1
                    have d0 := cell_ext hd (hk.cell 0 rfl)
                    have f0 := cell_ext hd (hrx.cell 0 rfl)
                    have f1 := cell_ext hd (hrx.cell 1 rfl)
                    have f2 := cell_ext hd (hrx.cell 2 rfl)
                    have y3 := fun ob => cell_ext (ext_alloc X ob) (hk.cell 0 rfl)
                    have HGl := Lib.hid (fun g (hg : (Value.slice SA rs.length sc).ownBlock = some g) => ho.lt g hg)
                    clear hd hk ho hj0 hz0 hz1 hz2 hrx hkx hr8 hk2 hb
                    go_upto_region 28 with fail
                    rw [← hX]
                    clear hX n2 n3 m2
                    go_region_law (first
                      | (refine step_append_lies _ rfl (.tmp 113) (.tmp 115) 40 rfl (G + 1) 36 j0 _ 3 48 Tryz.underlying40 HJ.out HJ0.out HJ1.out HJ2.out rfl (by omega) (.slice SA rs.length sc) rs.length _ rfl (own_ext (World.ownsRow.alloc HO.out _) (ext_drewN _ 1)) ⟨X.heap.size, 0, none⟩ 1 1 [.int .i64 d, .string ⟨x.toArray⟩, .slice A2 ls.length c2] rfl rfl (fun j v hj => cell_ext (ext_drewN _ 1) (new_cells X [.int .i64 d, .string ⟨x.toArray⟩, .slice A2 ls.length c2] _ _ rfl j v hj)) (by intro v hv; simp only [List.mem_cons, List.not_mem_nil, or_false] at hv; rcases hv with rfl | rfl | rfl <;> rfl) (by omega) (by simp only [maxLen]; omega) (by omega) (by simp; omega) _ rfl ?_; intro g5 c5 w9 hown1 hg1 _ _; have HO7 := Lib.hid hown1; have HG7 := Lib.hid hg1; have HK7 := Lib.hid (blk_faL (blk_ext2 (blk_ext2 HKb.out (ext_alloc _ _)) (ext_drewN _ 1)) hg1 (fun h => by have := (HGl.out _ h).1; omega)); have y1 := HK7.out.cell 0 rfl; have y2 := HK7.out.free 0; clear hown1 hg1))
                    all_goals (
                      go_wp2_with fail
                      go_ret
                      have HLf1 := ((Lf.of (C := G) (T1 := 95) (T2 := 36) (ext_trans (ext_alloc X _) (ext_drewN _ 1))).trans (Lf.grown (own_ext (World.ownsRow.alloc HO.out _) (ext_drewN _ 1)) HG7.out)).trans (Lf.set HK7.out 0 (.slice (some ⟨g5, 0, none⟩) (rs.length + 1) c5))
                      refine ⟨by rw [HF0.out]; rfl, .inr ⟨HF0.out, ⟨A2, c2, ⟨HLf1.below HPx.out.below HPx.out.hG, HPx.out.hG, ⟨some ⟨g5, 0, none⟩, c5, ?_, ?_⟩, ?_⟩⟩, (Lf.of HXx.out).trans HLf1⟩⟩
                      · rw [List.length_append]
                        exact HK7.out.set 0 _
                      · rw [List.length_append, List.flatMap_append]
                        exact ownsRow_setCell_below HO7.out (a := ⟨G, 0, none⟩) (Nat.lt_succ_self G) _
                      · intro r hr
                        rcases List.mem_append.1 hr with hr | hr
                        · exact HLf1.rdk (HPx.out.lns r hr) (by decide) (by decide)
                        · obtain rfl := List.mem_singleton.1 hr
                          exact HLf1.rdk HKx.out (by decide) (by decide))
                  · have HF := Lib.hid (show (8 : Int) = postC rs d (Gp.lineC x) ls from by unfold postC; rw [if_neg HG.out, if_neg HN4.out, if_neg (show ¬ 0 < Gp.lineC x from by have := HN1.out; omega), if_neg (by rw [← HNb.out]; decide), if_neg (by rw [HSm.out]; decide), if_pos (by rw [← HSn.out]; exact gs)])
                    have HXf := Lib.hid (ext_trans HX3.out HBr.out)
                    have v7 := (HE3.out.below HBr.out).v7
                    unfold sentV at v7
                    go_wp2_with fail
                    go_ret
                    exact HPc.out 8 _ rfl HF.out (by omega) _ HXf.out
                · intro x1 c1 kl y ys w7 cnt1 hkey hlk hv hat hrg1 hlt hg1 hs1 hen
                  have hm0 : wr.rangeLeft M w6.heap.size = cnt := hrg.left_eq
                  obtain ⟨rfl, hwx, hgx⟩ := cameL (y := (y, ys)) HS.out hkey hv hat
                  have hc1 : c1 = lnS x1 0 0 ls := by
                    have h := gk_getD ls x1
                    rw [hgx] at h
                    exact h
                  have hcb := lns_small x1 0 0 ls (fun x hx => coinb_small (HAn.out x hx))
                  rw [← hc1] at hcb
                  have hcb1 : -20000000000000 ≤ c1 := by omega
                  have hcb2 : c1 ≤ 20000000000000 := by omega
                  have HB7 := Lib.hid (HBr.out.grown hg1 HBr.out.size (fun k hk => by obtain rfl := Option.some.inj hk; exact HW6.out))
                  have HRG := Lib.hid hrg1
                  obtain ⟨PA, pc, p0, hen7⟩ := (HP0.out.ext (ext_trans HX3.out HB7.out)).ens
                  have HBal := Lib.hid (pbal G 0 PA pc rs (by omega) hsm x1 3652059 w7 p0 hen7)
                  have hbb := bal_small x1 3652059 rs hsm
                  obtain ⟨bs, hbs⟩ : ∃ bs, bs = balS x1 3652059 rs := ⟨_, rfl⟩
                  rw [← hbs] at HBal hbb
                  have hb1 : -12000000000000000 ≤ bs := by omega
                  have hb2 : bs ≤ 12000000000000000 := by omega
                  have HT := Lib.hid (show bs + c1 = totS rs ls x1 from by rw [hbs, hc1]; rfl)
                  have HGx := Lib.hid hgx
                  clear hrg hrg1 hkey hlk hv hat hg1 hs1 hgx hwx hc1 hcb hbs hbb p0 hen7
                  go_wp2_with fail
                  refine HBal.out.mono ?_
                  rintro e w8 ⟨rfl, hb⟩
                  have HB8 := Lib.hid (ext_trans HB7.out hb)
                  have HR8 := Lib.hid (HRG.out.kept (row := none) ⟨hb.os, hb.tape, hb.output, hb.size, fun k hk _ => hb.block k hk⟩ (by simp) (by simp))
                  clear hb hen HBal
                  obtain ⟨cb, hcb⟩ : ∃ cb, cb = coinB (bs + c1) := ⟨_, rfl⟩
                  have HCc := Lib.hid (show Calls Tryz.prog 46 #[.int .i64 (bs + c1)] w8 (RetB cb w8) from by rw [hcb]; exact coin_any (bs + c1) w8)
                  have HCb := Lib.hid hcb
                  clear hcb
                  go_wp2_with fail
                  refine HCc.out.mono ?_
                  rintro e w' ⟨rfl, rfl⟩
                  cases cb with
                  | false =>
                    have HF := Lib.hid (HFs.out (by
                      have h := HGx.out
                      unfold gK at h
                      split at h
                      · rename_i ha
                        obtain ⟨x, hx, hxe⟩ := List.any_eq_true.1 ha
                        have hxe : x.1 = x1 := by simpa using hxe
                        unfold smallE
                        rw [show (ls.all fun x => coinB (totS rs ls x.1)) = false from by rw [← Bool.not_eq_true, List.all_eq_true]; exact fun h => by have h2 := h x hx; rw [hxe, ← HT.out, ← HCb.out] at h2; cases h2]
                        rw [Bool.and_false]
                      · cases h))
                    have HXf := Lib.hid (ext_trans HX3.out HB8.out)
                    have v2 := (HE3.out.below HB8.out).v2
                    unfold sentV at v2
                    go_wp2_with fail
                    go_ret
                    exact HPc.out 3 _ rfl HF.out (by omega) _ HXf.out
                  | true =>
                    go_wp2_with fail
                    go_roundw
                    case rel => exact ⟨_, cnt1, HR8.out, (fun s hl h1 h2 => by
                      rw [same_strL] at h2
                      by_cases e : s = x1
                      · rw [e, ← HT.out]
                        exact HCb.out.symm
                      · rw [decide_eq_false e] at h2
                        exact HLf.out s hl h1 (by simpa using h2)), HB8.out⟩
                    case measure => rw [HR8.out.left_eq, hm0]; omega
end Go.Proofs.YtdnhfcphmbhloaaGreatDoor.Lk

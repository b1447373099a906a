/- Laws as texts: two laws that are one tree are alike. -/
import Derived.Test.YtflklbhgjfonbaaGreatDoorScK
import Derived.Deep.RegionHeld3
import Derived.BigQuiet
namespace Go.Proofs.YtflklbhgjfonbaaGreatDoor.Sc
open Go.RowKit Mem Nest Fk Err Lk

/-- an item's cells -/
def itC (t : It) (LA : Option Addr) (lc : Nat) (KA : Option Addr) (kc : Nat) : List Value := [.string ⟨t.label.toArray⟩, .string ⟨t.head.toArray⟩, .slice LA t.lines.length lc, .slice KA t.kids.length kc]
theorem TrM.form {w : World} {R : Nat → Prop} : ∀ {d : Nat} {t : It} {cs : List Value}, TrM w R d t cs → ∃ LA lc KA kc, cs = itC t LA lc KA kc
  | 0, _, _, h => h.elim
  | _ + 1, _, _, ⟨LA, lc, KA, kc, _, h1, _⟩ => ⟨LA, lc, KA, kc, h1⟩
theorem strs_at {w : World} {A : Option Addr} {l : List Tx} (h : Rd w A (strs l)) {k : Nat} (hk : k < l.length) : ∃ b o, A = some ⟨b, o, none⟩ ∧ w.cell? ⟨b, o + k, none⟩ = some (.string ⟨l[k].toArray⟩) := by
  obtain ⟨b, o, e, hc⟩ := h.at_ (k := k) (by simpa [strs] using hk)
  exact ⟨b, o, e, by simpa [strs] using hc⟩
/-- what an item's cells tell -/
structure TrO (w : World) (R : Nat → Prop) (d : Nat) (t : It) (LA KA : Option Addr) : Prop where
  lines : Rd w LA (strs t.lines)
  nl : t.lines.length ≤ 9223372036854775807
  nk : t.kids.length ≤ 9223372036854775807
  kid : ∀ (i : Nat) (h : i < t.kids.length), ∃ b o LA' lc' KA' kc', KA = some ⟨b, o, none⟩ ∧ (∀ j u, (itC t.kids[i] LA' lc' KA' kc')[j]? = some u → w.cell? ⟨b, o + i * 4 + j, none⟩ = some u) ∧ TrM w R d t.kids[i] (itC t.kids[i] LA' lc' KA' kc')
theorem TrM.tro {w : World} {R : Nat → Prop} {d : Nat} {t : It} {LA KA : Option Addr} {lc kc : Nat} (h : TrM w R (d + 1) t (itC t LA lc KA kc)) : TrO w R d t LA KA := by
  obtain ⟨LA', lc', KA', kc', rows, h1, h2, h3, ⟨h4, h5, h6⟩, h7⟩ := h
  simp only [itC, List.cons.injEq, Value.slice.injEq, and_true, true_and] at h1
  obtain ⟨⟨rfl, rfl⟩, rfl, rfl⟩ := h1
  have hall : ∀ r ∈ rows, r.length = 4 := fun r hr => by
    obtain ⟨j, hj, rfl⟩ := List.mem_iff_getElem.1 hr
    exact (h7 j (t.kids[j]'(by omega)) rows[j] (List.getElem?_eq_getElem _) (List.getElem?_eq_getElem _)).len
  refine ⟨h2.rd, h5, h6, fun i hi => ?_⟩
  have hir : i < rows.length := by omega
  have hm := h7 i t.kids[i] rows[i] (List.getElem?_eq_getElem _) (List.getElem?_eq_getElem _)
  obtain ⟨LA', lc', KA', kc', e⟩ := hm.form
  have hat : ∀ j u, j < 4 → rows[i][j]? = some u → ∃ b o, KA = some ⟨b, o, none⟩ ∧ w.cell? ⟨b, o + i * 4 + j, none⟩ = some u := fun j u hj hu => by
    obtain ⟨b, o, e1, _, hc⟩ := h3 (i * 4 + j) u (by rw [flatten_at rows i j hall hj, List.getElem?_eq_getElem hir]; exact hu)
    exact ⟨b, o, e1, by rw [Nat.add_assoc]; exact hc⟩
  rw [e] at hat hm
  obtain ⟨b, o, e0, _⟩ := hat 0 _ (by omega) rfl
  refine ⟨b, o, LA', lc', KA', kc', e0, fun j u hu => ?_, hm⟩
  have hj4 : j < 4 := by
    have := (List.getElem?_eq_some_iff.1 hu).1
    exact this
  obtain ⟨b', o', e1, hc⟩ := hat j u hj4 hu
  rw [e0] at e1
  cases e1
  exact hc
set_option maxRecDepth 100000 in
set_option maxHeartbeats 4000000 in
theorem same_items : ∀ (d : Nat) (t : It) (R1 R2 : Nat → Prop) (LA1 KA1 LA2 KA2 : Option Addr) (lc1 kc1 lc2 kc2 : Nat) (w : World), TrM w R1 d t (itC t LA1 lc1 KA1 kc1) → TrM w R2 d t (itC t LA2 lc2 KA2 kc2) →
    Calls Tryz.prog 10 #[.agg (itC t LA1 lc1 KA1 kc1).toArray, .agg (itC t LA2 lc2 KA2 kc2).toArray] w (RetG true w)
  | 0, _, _, _, _, _, _, _, _, _, _, _, _, h, _ => h.elim
  | d + 1, t, R1, R2, LA1, KA1, LA2, KA2, lc1, kc1, lc2, kc2, w, h1, h2 => by
    have ih := same_items d
    have T1 := Lib.hid h1
    have T2 := Lib.hid h2
    have o1 := h1.tro
    have o2 := h2.tro
    have hnl := o1.nl
    have hnk := o1.nk
    have O1 := Lib.hid o1
    have O2 := Lib.hid o2
    have IH := Lib.hid ih
    clear ih h1 h2 o1 o2
    have xa := ext_alloc w (.cells (itC t LA1 lc1 KA1 kc1).toArray 26)
    have ba := Blk.new w 26 (itC t LA1 lc1 KA1 kc1)
    obtain ⟨V, hV⟩ : ∃ V, V = w.alloc (.cells (itC t LA1 lc1 KA1 kc1).toArray 26) := ⟨_, rfl⟩
    have hq : V.heap.size = w.heap.size + 1 := by rw [hV]; simp
    rw [← hV] at xa ba
    have xb := ext_alloc V (.cells (itC t LA2 lc2 KA2 kc2).toArray 26)
    have bb := Blk.new V 26 (itC t LA2 lc2 KA2 kc2)
    obtain ⟨U, hU⟩ : ∃ U, U = V.alloc (.cells (itC t LA2 lc2 KA2 kc2).toArray 26) := ⟨_, rfl⟩
    rw [← hU] at xb bb
    rw [hq] at bb
    have ba := blk_ext2 ba xb
    obtain ⟨P, hP⟩ : ∃ P, P = w.heap.size := ⟨_, rfl⟩
    obtain ⟨Q, hQ⟩ : ∃ Q, Q = w.heap.size + 1 := ⟨_, rfl⟩
    rw [← hP] at ba
    rw [← hQ] at bb
    have HX := Lib.hid (ext_trans xa xb)
    have HA := Lib.hid ba
    have HB := Lib.hid bb
    unfold itC at hV hU ba bb ⊢
    have a0 := ba.cell 0 rfl
    have a1 := ba.cell 1 rfl
    have a2 := ba.cell 2 rfl
    have a3 := ba.cell 3 rfl
    have b0 := bb.cell 0 rfl
    have b1 := bb.cell 1 rfl
    have b2 := bb.cell 2 rfl
    have b3 := bb.cell 3 rfl
    clear xa xb ba bb hq
    have e1 : ((t.lines.length : Int) != (t.lines.length : Int)) = false := by simp
    have e2 : ((t.kids.length : Int) != (t.kids.length : Int)) = false := by simp
    go_enter Tryz.func10, Tryz.ntmps10
    go_upto_region 1 with fail
    rw [← hV, ← hU, ← hQ, ← hP]
    clear hV hU hP hQ
    go_wp2_with fail
    go_loopw [5] (fun i wr => ∃ k : Nat, i = .int .i64 k ∧ k ≤ t.lines.length ∧ Hid (Below w.heap.size w wr) ∧ Hid (Blk wr P 26 (itC t LA1 lc1 KA1 kc1)) ∧ Hid (Blk wr Q 26 (itC t LA2 lc2 KA2 kc2))) (fun i _ => (t.lines.length - intOf i).toNat)
    case atStart => exact ⟨0, rfl, by omega, HX.out, HA.out, HB.out⟩
    case round =>
      clear HX HA HB a0 a1 a2 a3 b0 b1 b2 b3
      obtain ⟨k, rfl, hk, HX, HA, HB⟩ := hrel
      have a2 := HA.out.cell 2 rfl
      have a3 := HA.out.cell 3 rfl
      have b2 := HB.out.cell 2 rfl
      have b3 := HB.out.cell 3 rfl
      by_cases hlt : k < t.lines.length
      · have hcl : (k : Int) < t.lines.length := by omega
        have hki : (k : Int) + 1 ≤ 9223372036854775807 := by omega
        obtain ⟨c1, o1, f1, p0⟩ := strs_at (O1.out.lines.ext HX.out) hlt
        obtain ⟨c2, o2, f2, q0⟩ := strs_at (O2.out.lines.ext HX.out) hlt
        rw [f1] at a2
        rw [f2] at b2
        clear f1 f2
        generalize t.lines[k] = x at p0 q0
        have hxx : (x == x) = true := by simp
        go_wp2_with fail
        go_quiet (fail)
        go_wp2_with fail
        go_roundw
        case rel => exact ⟨k + 1, by simp, by omega, ext_trans HX.out (ext_drewN wr nq), blk_ext2 HA.out (ext_drewN wr nq), blk_ext2 HB.out (ext_drewN wr nq)⟩
        case measure => simp [intOf]; omega
      · have hcl : ¬ (k : Int) < t.lines.length := by omega
        go_wp2_with fail
        go_loopw [6] (fun i wr => ∃ q : Nat, i = .int .i64 q ∧ q ≤ t.kids.length ∧ Hid (Below w.heap.size w wr) ∧ Hid (Blk wr P 26 (itC t LA1 lc1 KA1 kc1)) ∧ Hid (Blk wr Q 26 (itC t LA2 lc2 KA2 kc2))) (fun i _ => (t.kids.length - intOf i).toNat)
        case atStart => exact ⟨0, rfl, by omega, HX.out, HA.out, HB.out⟩
        case round =>
          clear HX HA HB a2 a3 b2 b3
          obtain ⟨q, rfl, hq, HX, HA, HB⟩ := hrel
          have a3 := HA.out.cell 3 rfl
          have b3 := HB.out.cell 3 rfl
          by_cases hqt : q < t.kids.length
          · have hqc : (q : Int) < t.kids.length := by omega
            have hqi : (q : Int) + 1 ≤ 9223372036854775807 := by omega
            obtain ⟨c1, o1, LA1', lc1', KA1', kc1', f1, g1, m1⟩ := O1.out.kid q hqt
            obtain ⟨c2, o2, LA2', lc2', KA2', kc2', f2, g2, m2⟩ := O2.out.kid q hqt
            have p0 := cell_ext HX.out (g1 0 _ rfl)
            have p1 := cell_ext HX.out (g1 1 _ rfl)
            have p2 := cell_ext HX.out (g1 2 _ rfl)
            have p3 := cell_ext HX.out (g1 3 _ rfl)
            have q0 := cell_ext HX.out (g2 0 _ rfl)
            have q1 := cell_ext HX.out (g2 1 _ rfl)
            have q2 := cell_ext HX.out (g2 2 _ rfl)
            have q3 := cell_ext HX.out (g2 3 _ rfl)
            simp only [Nat.add_zero] at p0 q0
            rw [f1] at a3
            rw [f2] at b3
            have M1 := Lib.hid m1
            have M2 := Lib.hid m2
            clear f1 f2 g1 g2 m1 m2
            generalize t.kids[q] = z at p0 p1 p2 p3 q0 q1 q2 q3 M1 M2
            have HC := Lib.hid (show ∀ v, Below w.heap.size w v → Calls Tryz.prog 10 #[.agg (itC z LA1' lc1' KA1' kc1').toArray, .agg (itC z LA2' lc2' KA2' kc2').toArray] v (RetG true v) from fun v hv => IH.out z _ _ LA1' KA1' LA2' KA2' lc1' kc1' lc2' kc2' v (M1.out.mono fun b _ hb => ⟨hv.block b hb, trivial⟩ : TrM v (fun _ => True) d z _) (M2.out.mono fun b _ hb => ⟨hv.block b hb, trivial⟩ : TrM v (fun _ => True) d z _))
            unfold itC at HC
            have hdr := ext_drewN wr 1
            have HDr := Lib.hid (ext_trans HX.out hdr)
            go_upto_region 11 with fail
            go_region_held3 (fun w' => w'.cell? ⟨P, 3, none⟩ = some (.slice (some ⟨c1, o1, none⟩) t.kids.length kc1) ∧ w'.cell? ⟨Q, 3, none⟩ = some (.slice (some ⟨c2, o2, none⟩) t.kids.length kc2) ∧ w'.cell? ⟨c1, o1 + q * 4, none⟩ = some (.string ⟨z.label.toArray⟩) ∧ w'.cell? ⟨c1, o1 + q * 4 + 1, none⟩ = some (.string ⟨z.head.toArray⟩) ∧ w'.cell? ⟨c1, o1 + q * 4 + 2, none⟩ = some (.slice LA1' z.lines.length lc1') ∧ w'.cell? ⟨c1, o1 + q * 4 + 3, none⟩ = some (.slice KA1' z.kids.length kc1') ∧
                w'.cell? ⟨c2, o2 + q * 4, none⟩ = some (.string ⟨z.label.toArray⟩) ∧ w'.cell? ⟨c2, o2 + q * 4 + 1, none⟩ = some (.string ⟨z.head.toArray⟩) ∧ w'.cell? ⟨c2, o2 + q * 4 + 2, none⟩ = some (.slice LA2' z.lines.length lc2') ∧ w'.cell? ⟨c2, o2 + q * 4 + 3, none⟩ = some (.slice KA2' z.kids.length kc2'))
              ((first | exact ⟨a3, b3, p0, p1, p2, p3, q0, q1, q2, q3⟩ | exact ⟨cell_ext hdr a3, cell_ext hdr b3, cell_ext hdr p0, cell_ext hdr p1, cell_ext hdr p2, cell_ext hdr p3, cell_ext hdr q0, cell_ext hdr q1, cell_ext hdr q2, cell_ext hdr q3⟩ | exact ⟨cell_ext HBs.out a3, cell_ext HBs.out b3, cell_ext HBs.out p0, cell_ext HBs.out p1, cell_ext HBs.out p2, cell_ext HBs.out p3, cell_ext HBs.out q0, cell_ext HBs.out q1, cell_ext HBs.out q2, cell_ext HBs.out q3⟩))
              ((go_at_call 10; refine (HC.out _ HDr.out).mono ?_; rintro e wc ⟨rfl, hb⟩; have HBs := Lib.hid (ext_trans hdr hb); clear hb))
            have HXn := Lib.hid (ext_trans HX.out HBs.out)
            have HAn := Lib.hid (blk_ext2 HA.out HBs.out)
            have HBn := Lib.hid (blk_ext2 HB.out HBs.out)
            clear a3 b3 p0 p1 p2 p3 q0 q1 q2 q3 hdr HBs HC
            go_wp2_with fail
            go_roundw
            case rel => exact ⟨q + 1, by simp, by omega, HXn.out, HAn.out, HBn.out⟩
            case measure => simp [intOf]; omega
          · have hqc : ¬ (q : Int) < t.kids.length := by omega
            go_wp2_with fail
            go_ret
            exact ⟨rfl, HX.out⟩
end Go.Proofs.YtflklbhgjfonbaaGreatDoor.Sc

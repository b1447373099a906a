/- Laws as texts: the document's ReadLaw. -/
import Derived.Test.YtflklbhgjfonbaaGreatDoorScD
import Derived.Test.YtflklbhgjfonbaaGreatDoorScT
import Derived.Test.YtflklbhgjfonbaaGreatDoorWtR
namespace Go.Proofs.YtflklbhgjfonbaaGreatDoor.Sc
open Go.RowKit Mem Nest Fk Err Lk Gp

def RetS (b : Bool) (w : World) (e : Ending) (w' : World) : Prop := e = .returned (.bool b) ∧ w = w'
set_option maxHeartbeats 2000000 in
theorem rblank (x : Tx) (hx : x.length ≤ 100000) (w : World) : Calls Tryz.prog 25 #[.string ⟨x.toArray⟩] w (RetS (blankB x) w) := by
  have hxl : (x.length : Int) ≤ 100000 := by omega
  go_enter Tryz.func25, Tryz.ntmps25
  go_wp2_with fail
  go_loopw [3] (fun t3 wr => ∃ i : Nat, t3 = .int .i64 i ∧ i ≤ x.length ∧ Hid (∀ j (h : j < x.length), j < i → x[j] = 32) ∧ wr = w) (fun t3 _ => x.length - (intOf t3).toNat)
  case atStart => exact ⟨0, rfl, Nat.zero_le _, (fun j h hj => absurd hj (Nat.not_lt_zero _)), rfl⟩
  case round =>
    obtain ⟨i, rfl, hi, HA, rfl⟩ := hrel
    by_cases hlt : i < x.length
    · have hltc : (i : Int) < (x.length : Int) := by omega
      have hsz : i < (ByteArray.mk x.toArray).size := hlt
      obtain ⟨c, hc⟩ : ∃ c : Int, (((ByteArray.mk x.toArray)[i]'hsz).toNat : Int) = c := ⟨_, rfl⟩
      have HC := Lib.hid (show (x[i].toNat : Int) = c from hc)
      by_cases h10 : c = 32
      · have hq : (c != 32) = false := by simp [h10]
        have HV := Lib.hid (show x[i] = 32 from UInt8.toNat.inj (by have := HC.out; simp; omega))
        clear h10
        go_wp2_with fail
        go_roundw
        case rel =>
          refine ⟨i + 1, by go_num, by omega, fun j h hj => ?_, by trivial⟩
          by_cases e : j = i
          · subst e; exact HV.out
          · exact HA.out j h (by omega)
        case measure => simp [intOf]; omega
      · have hq : (c != 32) = true := by simp [h10]
        have HV := Lib.hid (show blankB x = false from by
          cases hb : blankB x with
          | false => rfl
          | true =>
            unfold blankB at hb
            rw [List.all_eq_true] at hb
            have h1 := hb _ (List.getElem_mem hlt)
            have h2 : x[i] = 32 := by simpa using h1
            have := HC.out
            rw [h2] at this
            exact absurd this.symm h10)
        clear h10
        go_wp2_with fail
        go_ret
        exact ⟨by rw [HV.out]; rfl, rfl⟩
    · obtain rfl : x.length = i := by omega
      have hltc : ¬ (x.length : Int) < (x.length : Int) := by omega
      have HV := Lib.hid (show blankB x = true from by
        unfold blankB
        rw [List.all_eq_true]
        intro y hy
        obtain ⟨j, hj, rfl⟩ := List.mem_iff_getElem.1 hy
        rw [HA.out j hj hj]
        rfl)
      go_wp2_with fail
      go_ret
      exact ⟨by rw [HV.out]; rfl, rfl⟩
theorem Bdr.start {B : Nat} {w : World} {bb : Nat} {x : Tx} (hB : B ≤ bb) (h : Blk w bb 62 ((lv0 x 0).hdr false ++ [.slice none 0 0, .int .i64 0])) : Bdr B (fun b => if b = bb then 3 else 4) w bb 0 0 (lv0 x) none 0 :=
  ⟨⟨fun k hk => rfl, fun k hk j q s hq hs => by simp [lv0, newLv] at hq, fun k hk => by simp [lv0, newLv], fun k hk => by omega, ⟨World.ownsRow_nil _ _ _ _, fun g hg => by cases hg⟩, ⟨World.ownsRow_nil _ _ _ _, fun g hg => by cases hg⟩⟩, h, RdR.nil, ⟨Nat.le_refl _, by omega⟩, fun _ => rfl, if_pos rfl, hB, by omega, by omega, fun k hk => by simp [lv0, newLv], by simp [lv0, newLv]⟩
def RLawP (s : Tx) (w : World) (e : Ending) (w' : World) : Prop :=
  Below w.heap.size w w' ∧ match readF s with
    | .inl (c, k) => e = .returned (.tuple #[.agg zeroI.toArray, .agg #[.int .i64 c, .int .i64 (k : Int)]])
    | .inr t => ∃ V : List Value, e = .returned (.tuple #[.agg V.toArray, .agg #[.int .i64 0, .int .i64 (-1)]]) ∧ TrM w' (fun _ => True) 10 t V
theorem rlawp_bad {s : Tx} {w w' : World} {c : Int} {k : Nat} (h : readF s = .inl (c, k)) (hb : Below w.heap.size w w') : RLawP s w (.returned (.tuple #[.agg #[.string ⟨#[]⟩, .string ⟨#[]⟩, .slice none 0 0, .slice none 0 0], .agg #[.int .i64 c, .int .i64 (k : Int)]])) w' := by
  refine ⟨hb, ?_⟩
  rw [h]
  rfl
theorem rlawp_good {s : Tx} {w w' : World} {t : It} (h : readF s = .inr t) (V : List Value) (hb : Below w.heap.size w w') (hT : TrM w' (fun _ => True) 10 t V) : RLawP s w (.returned (.tuple #[.agg V.toArray, .agg #[.int .i64 0, .int .i64 (-1)]])) w' := by
  refine ⟨hb, ?_⟩
  rw [h]
  exact ⟨V, rfl, hT⟩
/-- an error's way out -/
structure RExit (w W : World) (R0 R1 : Nat) (c k : Int) : Prop where
  b0 : Blk W R0 26 zeroI
  b1 : Blk W R1 32 [.int .i64 c, .int .i64 k]
  bel : Below w.heap.size w W
theorem rexit {w W : World} {R0 R1 : Nat} (hb : Below w.heap.size w W) (h0 : w.heap.size ≤ R0) (h1 : w.heap.size ≤ R1) (hne : R0 ≠ R1) (b0 : Blk W R0 26 zeroI) (b1 : Blk W R1 32 [.int .i64 0, .int .i64 0]) (c k : Int) :
    RExit w ((((((W.setCell ⟨R0, 0, none⟩ (.string ⟨#[]⟩)).setCell ⟨R0, 1, none⟩ (.string ⟨#[]⟩)).setCell ⟨R0, 2, none⟩ (.slice none 0 0)).setCell ⟨R0, 3, none⟩ (.slice none 0 0)).setCell ⟨R1, 0, none⟩ (.int .i64 c)).setCell ⟨R1, 1, none⟩ (.int .i64 k)) R0 R1 c k := by
  have c0 := (((b0.set 0 (.string ⟨#[]⟩)).set 1 (.string ⟨#[]⟩)).set 2 (.slice none 0 0)).set 3 (.slice none 0 0)
  have c1 := blk_far (a := ⟨R0, 3, none⟩) (blk_far (a := ⟨R0, 2, none⟩) (blk_far (a := ⟨R0, 1, none⟩) (blk_far (a := ⟨R0, 0, none⟩) b1 (by exact hne.symm) (.string ⟨#[]⟩)) (by exact hne.symm) (.string ⟨#[]⟩)) (by exact hne.symm) (.slice none 0 0)) (by exact hne.symm) (.slice none 0 0)
  exact ⟨blk_far (a := ⟨R1, 1, none⟩) (blk_far (a := ⟨R1, 0, none⟩) c0 (by exact hne) _) (by exact hne) _, (c1.set 0 (.int .i64 c)).set 1 (.int .i64 k), ((((((hb.setCell h0 _).setCell h0 _).setCell h0 _).setCell h0 _).setCell h1 _).setCell h1 _)⟩
set_option maxRecDepth 100000 in
set_option maxHeartbeats 4000000 in
theorem rread (s : Tx) (hs : s.length ≤ 9223372036854775807) (w : World) :
    Calls Tryz.prog 8 #[.string ⟨s.toArray⟩] w (RLawP s w) := by
  obtain ⟨w1, hw1⟩ : ∃ w1, w1 = w.alloc (.cells #[.string ⟨#[]⟩, .string ⟨#[]⟩, .slice none 0 0, .slice none 0 0] 26) := ⟨_, rfl⟩
  have xa : Below w.heap.size w w1 := by rw [hw1]; exact ext_alloc w _
  have ba : Blk w1 w.heap.size 26 zeroI := by rw [hw1]; exact Blk.new w _ zeroI
  have hz1 : w1.heap.size = w.heap.size + 1 := by rw [hw1]; simp
  obtain ⟨w2, hw2⟩ : ∃ w2, w2 = w1.alloc (.cells #[.int .i64 0, .int .i64 0] 32) := ⟨_, rfl⟩
  have xb : Below w1.heap.size w1 w2 := by rw [hw2]; exact ext_alloc w1 _
  have bf : Blk w2 (w.heap.size + 1) 32 [.int .i64 0, .int .i64 0] := by rw [hw2, ← hz1]; exact Blk.new w1 _ _
  have hz2 : w2.heap.size = w.heap.size + 1 + 1 := by rw [hw2]; simp [hz1]
  obtain ⟨R0, hR0⟩ : ∃ R0, R0 = w.heap.size := ⟨_, rfl⟩
  obtain ⟨R1, hR1⟩ : ∃ R1, R1 = w.heap.size + 1 := ⟨_, rfl⟩
  rw [← hR0] at ba
  rw [← hR1] at bf
  have ba := blk_ext2 ba xb
  have HX2 := Lib.hid (ext_trans xa xb)
  have HBa := Lib.hid ba
  have HBf := Lib.hid bf
  have HR0 := Lib.hid (show w.heap.size ≤ R0 from by omega)
  have HR1 := Lib.hid (show w.heap.size ≤ R1 from by omega)
  have HRz := Lib.hid (show R0 < w2.heap.size ∧ R1 < w2.heap.size from by omega)
  have hne : R0 ≠ R1 := by omega
  by_cases hl : 30000 < s.length
  · have hlc : (30000 : Int) < (s.length : Int) := by omega
    have HF := Lib.hid (show readF s = .inl (2, 0) from by unfold readF; rw [if_pos hl])
    clear hl xa xb ba bf hz1 hz2
    have m0 := HBa.out.cell 0 rfl
    have m1 := HBa.out.cell 1 rfl
    have m2 := HBa.out.cell 2 rfl
    have m3 := HBa.out.cell 3 rfl
    have f0 := HBa.out.free 0
    have f1 := HBa.out.free 1
    have f2 := HBa.out.free 2
    have f3 := HBa.out.free 3
    have n0 := HBf.out.cell 0 rfl
    have n1 := HBf.out.cell 1 rfl
    have g0 := HBf.out.free 0
    have g1 := HBf.out.free 1
    go_enter Tryz.func8, Tryz.ntmps8
    go_upto_region 1 with fail
    rw [← hw1, ← hw2, ← hR1, ← hR0]
    clear hw1 hw2 hR0 hR1
    have HX := Lib.hid (rexit HX2.out HR0.out HR1.out hne HBa.out HBf.out 2 0)
    go_wp2_with fail
    have s0 := HX.out.b0.cell 0 rfl
    have s1 := HX.out.b0.cell 1 rfl
    have s2 := HX.out.b0.cell 2 rfl
    have s3 := HX.out.b0.cell 3 rfl
    have u0 := HX.out.b1.cell 0 rfl
    have u1 := HX.out.b1.cell 1 rfl
    refine bodyPost_ret (v := .tuple #[.agg #[.string ⟨#[]⟩, .string ⟨#[]⟩, .slice none 0 0, .slice none 0 0], .agg #[.int .i64 2, .int .i64 0]]) (by simp [results, Tryz.results8, go_sem, s0, s1, s2, s3, u0, u1]) rfl (rlawp_bad HF.out HX.out.bel)
  · have hlc : ¬ (30000 : Int) < (s.length : Int) := by omega
    have hln : s.length ≤ 30000 := by omega
    have HLn := Lib.hid hl
    have HRow := Lib.hid (Wt.rrows_any s hln w2)
    have hrl := Wt.rows_len s
    have HRl := Lib.hid (Wt.rows_row_len s)
    have HBad := Lib.hid (fun (c : Int) (k : Nat) => read_bad (s := s) HLn.out (c := c) (k := k))
    have HNone := Lib.hid (read_none (s := s) HLn.out)
    have HDone := Lib.hid (fun (st : St) => read_done (s := s) HLn.out (st := st))
    unfold Wt.RowsPost at HRow
    obtain ⟨rws, hrws⟩ : ∃ r, r = Wt.rowsF s := ⟨_, rfl⟩
    rw [← hrws] at HRow hrl HRl HBad HNone HDone
    clear hrws xa xb ba bf hl hz1 hz2
    go_enter Tryz.func8, Tryz.ntmps8
    go_upto_region 1 with fail
    rw [← hw1, ← hw2, ← hR1, ← hR0]
    clear hw1 hw2 hR0 hR1
    go_wp2_with fail
    refine HRow.out.mono ?_
    rintro e w3 ⟨A, cA, rfl, hrd, hb3⟩
    go_upto_region 5 with fail
    obtain ⟨ws, hws⟩ : ∃ ws, ws = w3.alloc (.cells #[.string ⟨#[]⟩, .string ⟨#[]⟩, .slice none 0 0, .slice none 0 0, .slice none 0 0, .int .i64 0] 62) := ⟨_, rfl⟩
    have xs : Below w3.heap.size w3 ws := by rw [hws]; exact ext_alloc w3 _
    have bs : Blk ws w3.heap.size 62 [.string ⟨#[]⟩, .string ⟨#[]⟩, .slice none 0 0, .slice none 0 0, .slice none 0 0, .int .i64 0] := by rw [hws]; exact Blk.new w3 _ _
    obtain ⟨bb, hbb⟩ : ∃ bb, bb = w3.heap.size := ⟨_, rfl⟩
    rw [← hbb] at bs
    rw [← hws, ← hbb]
    have HBb := Lib.hid bs
    have HXs := Lib.hid (ext_trans HX2.out (ext_trans hb3 xs))
    have HBa2 := Lib.hid (blk_ext2 HBa.out (ext_trans hb3 xs))
    have HBf2 := Lib.hid (blk_ext2 HBf.out (ext_trans hb3 xs))
    have HRd := Lib.hid (hrd.ext xs)
    have HFr := Lib.hid (show ∀ b o, A = some ⟨b, o, none⟩ → 0 < rws.length → b ≠ bb from fun b o e h0 => by
      obtain ⟨b', o', e', hc⟩ := hrd 0 (.string ⟨(rws[0]'h0).toArray⟩) (by simp [List.getElem?_map, List.getElem?_eq_getElem h0, Wt.strV])
      rw [e] at e'
      cases e'
      have := Mem.cell_lt hc
      simp only at this
      omega)
    have HBB := Lib.hid (show w.heap.size ≤ bb ∧ w2.heap.size ≤ bb ∧ bb < ws.heap.size from ⟨by have h1 := HX2.out.size; have h2 := hb3.size; omega, by have h2 := hb3.size; omega, bs.lt⟩)
    have hrb0 : R0 ≠ bb := by have := HBB.out; have := HRz.out; omega
    have hrb1 : R1 ≠ bb := by have := HBB.out; have := HRz.out; omega
    clear hrd hb3 xs bs hws hbb HRow HBa HBf
    go_wp2_with fail
    go_loopw [6, 7] (fun t6 t7 wr => ∃ k : Nat, t7 = .int .i64 k ∧ k ≤ rws.length ∧ Hid (Fr bb ws wr) ∧ ((t6 = .bool false ∧ Hid (Sc.At rws k none) ∧ Hid (Blk wr bb 62 [.string ⟨#[]⟩, .string ⟨#[]⟩, .slice none 0 0, .slice none 0 0, .slice none 0 0, .int .i64 0])) ∨ (∃ (n m : Nat) (lv : Nat → Lv) (col : Nat → Nat) (WA : Option Addr) (cq : Nat), t6 = .bool true ∧ Hid (Sc.At rws k (some ⟨treeL lv n 0, n, m⟩)) ∧ Hid (Bdr w.heap.size col wr bb n m lv WA cq) ∧ Hid (∀ b, b < ws.heap.size → b ≠ bb → col b = 4)))) (fun _ t7 _ => rws.length - (intOf t7).toNat)
    case atStart => exact ⟨0, rfl, Nat.zero_le _, Fr.refl _ _, .inl ⟨rfl, rfl, HBb.out⟩⟩
    case round =>
      obtain ⟨k, rfl, hk, HF, hst⟩ := hrel
      have HBr := Lib.hid (HF.out.at_blk HBa2.out hrb0)
      have HBg := Lib.hid (HF.out.at_blk HBf2.out hrb1)
      have HBw := Lib.hid (HF.out.below HXs.out HBB.out.1)
      by_cases hlt : k < rws.length
      · have hltc : (k : Int) < (rws.length : Int) := by omega
        obtain ⟨x, hx⟩ : ∃ x, x = rws[k] := ⟨_, rfl⟩
        have hxl : x.length ≤ 30000 := by rw [hx]; exact Nat.le_trans (HRl.out _ (List.getElem_mem hlt)) hln
        have hxl2 : (x.length : Int) ≤ 30000 := by omega
        have HX := Lib.hid hx.symm
        obtain ⟨b, o, hA, hc⟩ := (HF.out.rd HRd.out (fun b o e => HFr.out b o e (by omega))) k (.string ⟨x.toArray⟩) (by rw [hx]; simp [List.getElem?_map, List.getElem?_eq_getElem hlt, Wt.strV])
        subst hA
        obtain ⟨bk, hbk⟩ : ∃ bk, bk = blankB x := ⟨_, rfl⟩
        have HBn := Lib.hid (rblank x (by omega) wr)
        rw [← hbk] at HBn
        have HBk := Lib.hid (show blankB rws[k] = bk from by rw [HX.out, hbk])
        have hrl2 : (rws.length : Int) ≤ 30000 := by omega
        clear hx hbk
        rcases hst with ⟨rfl, HAt, HBl⟩ | ⟨n, m, lv, col, WA, cq, rfl, HAt, HRr, HCo⟩
        · go_wp2_with fail
          refine HBn.out.mono ?_
          rintro e w' ⟨rfl, rfl⟩
          cases bk with
          | true =>
            go_wp2_with fail
            go_roundw
            case rel => exact ⟨k + 1, by go_num, by omega, HF.out, .inl ⟨rfl, HAt.out.blank hlt HBk.out, HBl.out⟩⟩
            case measure => simp [intOf]; omega
          | false =>
            have HPn := Lib.hid (rprinted_any x (by omega) wr)
            obtain ⟨pr, hpr⟩ : ∃ pr, pr = prnB x := ⟨_, rfl⟩
            rw [← hpr] at HPn
            have HPe := Lib.hid hpr
            clear hpr
            go_wp2_with fail
            refine HPn.out.mono ?_
            rintro e w' ⟨rfl, rfl⟩
            cases pr with
            | false =>
              have HF := Lib.hid (show readF s = .inl (1, k) from HBad.out 1 k (HAt.out.worse hlt HBk.out (c := 1) (by unfold titleC; rw [HX.out, if_pos (.inl HPe.out.symm)]) (by decide)))
              have HX := Lib.hid (rexit HBw.out HR0.out HR1.out hne HBr.out HBg.out 1 (k : Int))
              have m0 := HBr.out.cell 0 rfl
              have m1 := HBr.out.cell 1 rfl
              have m2 := HBr.out.cell 2 rfl
              have m3 := HBr.out.cell 3 rfl
              have f0 := HBr.out.free 0
              have f1 := HBr.out.free 1
              have f2 := HBr.out.free 2
              have f3 := HBr.out.free 3
              have n0 := HBg.out.cell 0 rfl
              have n1 := HBg.out.cell 1 rfl
              have g0 := HBg.out.free 0
              have g1 := HBg.out.free 1
              go_wp2_with fail
              have s0 := HX.out.b0.cell 0 rfl
              have s1 := HX.out.b0.cell 1 rfl
              have s2 := HX.out.b0.cell 2 rfl
              have s3 := HX.out.b0.cell 3 rfl
              have u0 := HX.out.b1.cell 0 rfl
              have u1 := HX.out.b1.cell 1 rfl
              refine bodyPost_ret (v := .tuple #[.agg #[.string ⟨#[]⟩, .string ⟨#[]⟩, .slice none 0 0, .slice none 0 0], .agg #[.int .i64 1, .int .i64 (k : Int)]]) (by simp [results, Tryz.results8, go_sem, s0, s1, s2, s3, u0, u1]) rfl (rlawp_bad HF.out HX.out.bel)
            | true =>
              by_cases h3 : x.length < 3
              · have h3' : (x.length : Int) < 3 := by omega
                have HF := Lib.hid (show readF s = .inl (1, k) from HBad.out 1 k (HAt.out.worse hlt HBk.out (c := 1) (by
                  have h6 : Lib.hasPrefix x lawT = false := by
                    cases h : Lib.hasPrefix x lawT with
                    | false => rfl
                    | true =>
                      have h5 := (List.isPrefixOf_iff_prefix.1 h).length_le
                      simp [lawT] at h5
                      omega
                  unfold titleC
                  rw [HX.out, if_pos (.inr h6)]) (by decide)))
                clear h3
                have HX := Lib.hid (rexit HBw.out HR0.out HR1.out hne HBr.out HBg.out 1 (k : Int))
                have m0 := HBr.out.cell 0 rfl
                have m1 := HBr.out.cell 1 rfl
                have m2 := HBr.out.cell 2 rfl
                have m3 := HBr.out.cell 3 rfl
                have f0 := HBr.out.free 0
                have f1 := HBr.out.free 1
                have f2 := HBr.out.free 2
                have f3 := HBr.out.free 3
                have n0 := HBg.out.cell 0 rfl
                have n1 := HBg.out.cell 1 rfl
                have g0 := HBg.out.free 0
                have g1 := HBg.out.free 1
                go_wp2_with fail
                have s0 := HX.out.b0.cell 0 rfl
                have s1 := HX.out.b0.cell 1 rfl
                have s2 := HX.out.b0.cell 2 rfl
                have s3 := HX.out.b0.cell 3 rfl
                have u0 := HX.out.b1.cell 0 rfl
                have u1 := HX.out.b1.cell 1 rfl
                refine bodyPost_ret (v := .tuple #[.agg #[.string ⟨#[]⟩, .string ⟨#[]⟩, .slice none 0 0, .slice none 0 0], .agg #[.int .i64 1, .int .i64 (k : Int)]]) (by simp [results, Tryz.results8, go_sem, s0, s1, s2, s3, u0, u1]) rfl (rlawp_bad HF.out HX.out.bel)
              · have h3' : ¬ (x.length : Int) < 3 := by omega
                have h3'' : (3 : Int) ≤ (x.length : Int) := by omega
                have hx3 : (ByteArray.mk x.toArray).extract 0 3 = ⟨(x.take 3).toArray⟩ := by
                  apply ByteArray.ext
                  simp [List.extract_eq_take_drop]
                by_cases hp : x.take 3 = lawT
                · have hp3 : Lib.hasPrefix x lawT = true := List.isPrefixOf_iff_prefix.2 (by rw [← hp]; exact List.take_prefix 3 x)
                  obtain ⟨p3, hp3e⟩ : ∃ p3, p3 = x.take 3 := ⟨_, rfl⟩
                  rw [← hp3e] at hx3 hp
                  have heq : (p3 == ([108, 97, 119] : List UInt8)) = true := by rw [hp]; rfl
                  obtain ⟨ti, hti⟩ : ∃ ti, ti = x.drop 3 := ⟨_, rfl⟩
                  have hx4 : (ByteArray.mk x.toArray).extract 3 x.length = ⟨ti.toArray⟩ := by rw [drop_ba, hti]
                  have htl : ti.length ≤ 30000 := by rw [hti, List.length_drop]; omega
                  have HTi := Lib.hid hti
                  have HTc := Lib.hid (show titleC rws[k] = bhC ti from by
                    unfold titleC
                    rw [HX.out, if_neg (by
                      rintro (h | h)
                      · rw [← HPe.out] at h; cases h
                      · rw [hp3] at h; cases h), hti])
                  have HBh := Lib.hid (rbehind ti (by omega) wr)
                  obtain ⟨tx, htx⟩ : ∃ tx, tx = bhT ti := ⟨_, rfl⟩
                  obtain ⟨cb, hcb⟩ : ∃ cb, cb = bhC ti := ⟨_, rfl⟩
                  rw [← htx, ← hcb] at HBh
                  have hc3 := bhC_in ti
                  rw [← hcb] at hc3
                  have HTx := Lib.hid (And.intro htx hcb)
                  clear htx hcb hti hp hp3 h3 hp3e
                  go_wp2_with fail
                  refine HBh.out.mono ?_
                  rintro e w5 ⟨rfl, hb5⟩
                  have HB5 := Lib.hid (HBw.out.trans (hb5.mono HBw.out.size))
                  have HBr5 := Lib.hid (blk_ext2 HBr.out hb5)
                  have HBg5 := Lib.hid (blk_ext2 HBg.out hb5)
                  have HBl5 := Lib.hid (blk_ext2 HBl.out hb5)
                  have HF5 := Lib.hid (HF.out.ext hb5)
                  clear hb5
                  by_cases g7 : cb = 0
                  · have g7' : ¬ (0 : Int) < cb := by omega
                    have HT0 := Lib.hid (show Sc.At rws (k + 1) (some ⟨⟨[], tx, [], []⟩, 0, 0⟩) from by
                      have h := HAt.out.title hlt HBk.out (by rw [HTc.out, ← HTx.out.2]; exact g7)
                      rw [HX.out, ← HTi.out, ← HTx.out.1] at h
                      exact h)
                    have l1 := HBl5.out.cell 1 rfl
                    have lf1 := HBl5.out.free 1
                    have HBl6 := Lib.hid (HBl5.out.set 1 (.string ⟨tx.toArray⟩))
                    have HF6 := Lib.hid (HF5.out.set 1 (.string ⟨tx.toArray⟩))
                    clear g7 hc3
                    go_wp2_with fail
                    go_roundw
                    case rel => exact ⟨k + 1, by go_num, by omega, HF6.out, .inr ⟨0, 0, lv0 tx, _, none, 0, rfl, HT0.out, Bdr.start HBB.out.1 HBl6.out, fun b hb hn => if_neg hn⟩⟩
                    case measure => simp [intOf]; omega
                  · have g7' : (0 : Int) < cb := by omega
                    have HF := Lib.hid (show readF s = .inl (cb, k) from HBad.out cb k (HAt.out.worse hlt HBk.out (by rw [HTc.out, ← HTx.out.2]) g7))
                    clear g7 hc3
                    have HX := Lib.hid (rexit HB5.out HR0.out HR1.out hne HBr5.out HBg5.out cb (k : Int))
                    have m0 := HBr5.out.cell 0 rfl
                    have m1 := HBr5.out.cell 1 rfl
                    have m2 := HBr5.out.cell 2 rfl
                    have m3 := HBr5.out.cell 3 rfl
                    have f0 := HBr5.out.free 0
                    have f1 := HBr5.out.free 1
                    have f2 := HBr5.out.free 2
                    have f3 := HBr5.out.free 3
                    have n0 := HBg5.out.cell 0 rfl
                    have n1 := HBg5.out.cell 1 rfl
                    have g0 := HBg5.out.free 0
                    have g1 := HBg5.out.free 1
                    go_wp2_with fail
                    have s0 := HX.out.b0.cell 0 rfl
                    have s1 := HX.out.b0.cell 1 rfl
                    have s2 := HX.out.b0.cell 2 rfl
                    have s3 := HX.out.b0.cell 3 rfl
                    have u0 := HX.out.b1.cell 0 rfl
                    have u1 := HX.out.b1.cell 1 rfl
                    refine bodyPost_ret (v := .tuple #[.agg #[.string ⟨#[]⟩, .string ⟨#[]⟩, .slice none 0 0, .slice none 0 0], .agg #[.int .i64 cb, .int .i64 (k : Int)]]) (by simp [results, Tryz.results8, go_sem, s0, s1, s2, s3, u0, u1]) rfl (rlawp_bad HF.out HX.out.bel)
                · have hp3 : Lib.hasPrefix x lawT = false := by
                    cases h : Lib.hasPrefix x lawT with
                    | false => rfl
                    | true => exact absurd ((List.prefix_iff_eq_take.1 (List.isPrefixOf_iff_prefix.1 h)).symm) hp
                  have HF := Lib.hid (show readF s = .inl (1, k) from HBad.out 1 k (HAt.out.worse hlt HBk.out (c := 1) (by unfold titleC; rw [HX.out, if_pos (.inr hp3)]) (by decide)))
                  obtain ⟨p3, hp3e⟩ : ∃ p3, p3 = x.take 3 := ⟨_, rfl⟩
                  rw [← hp3e] at hx3 hp
                  have hneq : (p3 == ([108, 97, 119] : List UInt8)) = false := by
                    rw [beq_eq_false_iff_ne]
                    exact hp
                  clear hp3 hp3e h3 hp
                  have HX := Lib.hid (rexit HBw.out HR0.out HR1.out hne HBr.out HBg.out 1 (k : Int))
                  have m0 := HBr.out.cell 0 rfl
                  have m1 := HBr.out.cell 1 rfl
                  have m2 := HBr.out.cell 2 rfl
                  have m3 := HBr.out.cell 3 rfl
                  have f0 := HBr.out.free 0
                  have f1 := HBr.out.free 1
                  have f2 := HBr.out.free 2
                  have f3 := HBr.out.free 3
                  have n0 := HBg.out.cell 0 rfl
                  have n1 := HBg.out.cell 1 rfl
                  have g0 := HBg.out.free 0
                  have g1 := HBg.out.free 1
                  go_wp2_with fail
                  have s0 := HX.out.b0.cell 0 rfl
                  have s1 := HX.out.b0.cell 1 rfl
                  have s2 := HX.out.b0.cell 2 rfl
                  have s3 := HX.out.b0.cell 3 rfl
                  have u0 := HX.out.b1.cell 0 rfl
                  have u1 := HX.out.b1.cell 1 rfl
                  refine bodyPost_ret (v := .tuple #[.agg #[.string ⟨#[]⟩, .string ⟨#[]⟩, .slice none 0 0, .slice none 0 0], .agg #[.int .i64 1, .int .i64 (k : Int)]]) (by simp [results, Tryz.results8, go_sem, s0, s1, s2, s3, u0, u1]) rfl (rlawp_bad HF.out HX.out.bel)
        · go_wp2_with fail
          refine HBn.out.mono ?_
          rintro e w' ⟨rfl, rfl⟩
          cases bk with
          | true =>
            go_wp2_with fail
            go_roundw
            case rel => exact ⟨k + 1, by go_num, by omega, HF.out, .inr ⟨n, m, lv, col, WA, cq, rfl, HAt.out.blank hlt HBk.out, HRr.out, HCo.out⟩⟩
            case measure => simp [intOf]; omega
          | false =>
            have HRp := Lib.hid (brow w.heap.size col bb n m lv WA cq x (by omega) wr HBw.out.size HRr.out)
            go_wp2_with fail
            refine HRp.out.mono ?_
            rintro e w4 ⟨c, st, hrow, rfl, hcase⟩
            have hrin := rowF_in ⟨treeL lv n 0, n, m⟩ x
            rw [hrow] at hrin
            have hrin : c = 0 ∨ c = 1 ∨ c = 2 ∨ c = 7 := hrin
            have HRow := Lib.hid hrow
            clear hrow HRp
            by_cases g7 : c = 0
            · rcases hcase with ⟨h, _⟩ | ⟨_, col', lv', WA', cq', hR', ht, hk'⟩
              · exact absurd g7 h
              have g7' : ¬ (0 : Int) < c := by omega
              have HR' := Lib.hid hR'
              have hfr := HF.out.kept HCo.out hk'
              have HF4 := Lib.hid hfr.1
              have HC4 := Lib.hid hfr.2
              have HA4 := Lib.hid (show Sc.At rws (k + 1) (some ⟨treeL lv' st.n 0, st.n, st.m⟩) from by
                have h := HAt.out.row hlt HBk.out (st' := st) (by rw [HX.out, HRow.out, g7])
                rw [← ht]
                exact h)
              clear g7 hR' ht hk' hfr hrin
              go_wp2_with fail
              go_roundw
              case rel => exact ⟨k + 1, by go_num, by omega, HF4.out, .inr ⟨st.n, st.m, lv', col', WA', cq', rfl, HA4.out, HR'.out, HC4.out⟩⟩
              case measure => simp [intOf]; omega
            · rcases hcase with ⟨_, hb4⟩ | ⟨h, _⟩
              rotate_left
              · exact absurd h g7
              have g7' : (0 : Int) < c := by omega
              have HB5 := Lib.hid (HBw.out.trans (hb4.mono HBw.out.size))
              have HBr5 := Lib.hid (blk_ext2 HBr.out hb4)
              have HBg5 := Lib.hid (blk_ext2 HBg.out hb4)
              have HF := Lib.hid (show readF s = .inl (c, k) from HBad.out c k (HAt.out.bad hlt HBk.out (by rw [HX.out]; exact HRow.out) g7))
              clear g7 hb4 hrin
              have HX := Lib.hid (rexit HB5.out HR0.out HR1.out hne HBr5.out HBg5.out c (k : Int))
              have m0 := HBr5.out.cell 0 rfl
              have m1 := HBr5.out.cell 1 rfl
              have m2 := HBr5.out.cell 2 rfl
              have m3 := HBr5.out.cell 3 rfl
              have f0 := HBr5.out.free 0
              have f1 := HBr5.out.free 1
              have f2 := HBr5.out.free 2
              have f3 := HBr5.out.free 3
              have n0 := HBg5.out.cell 0 rfl
              have n1 := HBg5.out.cell 1 rfl
              have g0 := HBg5.out.free 0
              have g1 := HBg5.out.free 1
              go_wp2_with fail
              have s0 := HX.out.b0.cell 0 rfl
              have s1 := HX.out.b0.cell 1 rfl
              have s2 := HX.out.b0.cell 2 rfl
              have s3 := HX.out.b0.cell 3 rfl
              have u0 := HX.out.b1.cell 0 rfl
              have u1 := HX.out.b1.cell 1 rfl
              refine bodyPost_ret (v := .tuple #[.agg #[.string ⟨#[]⟩, .string ⟨#[]⟩, .slice none 0 0, .slice none 0 0], .agg #[.int .i64 c, .int .i64 (k : Int)]]) (by simp [results, Tryz.results8, go_sem, s0, s1, s2, s3, u0, u1]) rfl (rlawp_bad HF.out HX.out.bel)
      · obtain rfl : k = rws.length := by omega
        have hltc : ¬ (rws.length : Int) < (rws.length : Int) := by omega
        rcases hst with ⟨rfl, HAt, HBl⟩ | ⟨n, m, lv, col, WA, cq, rfl, HAt, HRr, HCo⟩
        · have HF := Lib.hid (show readF s = .inl (1, rws.length) from HNone.out HAt.out)
          have HX := Lib.hid (rexit HBw.out HR0.out HR1.out hne HBr.out HBg.out 1 (rws.length : Int))
          have m0 := HBr.out.cell 0 rfl
          have m1 := HBr.out.cell 1 rfl
          have m2 := HBr.out.cell 2 rfl
          have m3 := HBr.out.cell 3 rfl
          have f0 := HBr.out.free 0
          have f1 := HBr.out.free 1
          have f2 := HBr.out.free 2
          have f3 := HBr.out.free 3
          have n0 := HBg.out.cell 0 rfl
          have n1 := HBg.out.cell 1 rfl
          have g0 := HBg.out.free 0
          have g1 := HBg.out.free 1
          go_wp2_with fail
          have s0 := HX.out.b0.cell 0 rfl
          have s1 := HX.out.b0.cell 1 rfl
          have s2 := HX.out.b0.cell 2 rfl
          have s3 := HX.out.b0.cell 3 rfl
          have u0 := HX.out.b1.cell 0 rfl
          have u1 := HX.out.b1.cell 1 rfl
          refine bodyPost_ret (v := .tuple #[.agg #[.string ⟨#[]⟩, .string ⟨#[]⟩, .slice none 0 0, .slice none 0 0], .agg #[.int .i64 1, .int .i64 (rws.length : Int)]]) (by simp [results, Tryz.results8, go_sem, s0, s1, s2, s3, u0, u1]) rfl (rlawp_bad HF.out HX.out.bel)
        · have HD := Lib.hid (HDone.out _ HAt.out)
          have l0 := HRr.out.blk.cell 0 rfl
          have l1 := HRr.out.blk.cell 1 rfl
          have l2 := HRr.out.blk.cell 2 rfl
          have l3 := HRr.out.blk.cell 3 rfl
          have m0 := HBr.out.cell 0 rfl
          have m1 := HBr.out.cell 1 rfl
          have m2 := HBr.out.cell 2 rfl
          have m3 := HBr.out.cell 3 rfl
          have f0 := HBr.out.free 0
          have f1 := HBr.out.free 1
          have f2 := HBr.out.free 2
          have f3 := HBr.out.free 3
          have n0 := HBg.out.cell 0 rfl
          have n1 := HBg.out.cell 1 rfl
          have g0 := HBg.out.free 0
          have g1 := HBg.out.free 1
          go_wp2_with fail
          have s := blk_far (a := ⟨R1, 1, none⟩) (blk_far (a := ⟨R1, 0, none⟩) ((((HBr.out.set 0 (.string ⟨(lv 0).label.toArray⟩)).set 1 (.string ⟨(lv 0).head.toArray⟩)).set 2 (.slice (lv 0).LA (lv 0).lines.length (lv 0).lc)).set 3 (.slice (lv 0).KA ((lv 0).ks.length + (decide (0 < n)).toNat) (lv 0).kc)) (by exact hne) (.int .i64 0)) (by exact hne) (.int .i64 (-1))
          have s0 := s.cell 0 rfl
          have s1 := s.cell 1 rfl
          have s2 := s.cell 2 rfl
          have s3 := s.cell 3 rfl
          have u := ((blk_far (a := ⟨R0, 3, none⟩) (blk_far (a := ⟨R0, 2, none⟩) (blk_far (a := ⟨R0, 1, none⟩) (blk_far (a := ⟨R0, 0, none⟩) HBg.out (by exact hne.symm) (.string ⟨(lv 0).label.toArray⟩)) (by exact hne.symm) (.string ⟨(lv 0).head.toArray⟩)) (by exact hne.symm) (.slice (lv 0).LA (lv 0).lines.length (lv 0).lc)) (by exact hne.symm) (.slice (lv 0).KA ((lv 0).ks.length + (decide (0 < n)).toNat) (lv 0).kc)).set 0 (.int .i64 0)).set 1 (.int .i64 (-1))
          have u0 := u.cell 0 rfl
          have u1 := u.cell 1 rfl
          have hz := HRz.out
          have hz3 := HXs.out.size
          have hzb := HBB.out
          have hc0 : col R0 = 4 := HCo.out R0 (by omega) hrb0
          have hc1 : col R1 = 4 := HCo.out R1 (by omega) hrb1
          have hT := HRr.out.sp.close (by have := HRr.out.n6; omega) (fun b => b ≠ R0 ∧ b ≠ R1) (fun b hb => ⟨(fun e => by rw [e, hc0] at hb; cases hb), (fun e => by rw [e, hc1] at hb; cases hb)⟩) (fun b hb => ⟨(fun e => by rw [e, hc0] at hb; cases hb), (fun e => by rw [e, hc1] at hb; cases hb)⟩) n 0 (by omega) (fun b i _ _ hb => ⟨(fun e => by rw [e, hc0] at hb; unfold cK at hb; omega), (fun e => by rw [e, hc1] at hb; unfold cK at hb; omega)⟩)
          refine bodyPost_ret (v := .tuple #[.agg #[.string ⟨(lv 0).label.toArray⟩, .string ⟨(lv 0).head.toArray⟩, .slice (lv 0).LA (lv 0).lines.length (lv 0).lc, .slice (lv 0).KA ((lv 0).ks.length + (decide (0 < n)).toNat) (lv 0).kc], .agg #[.int .i64 0, .int .i64 (-1)]]) (by simp [results, Tryz.results8, go_sem, s0, s1, s2, s3, u0, u1]) rfl (rlawp_good HD.out ((lv 0).hdr (decide (0 < n))) ((((((HBw.out.setCell HR0.out _).setCell HR0.out _).setCell HR0.out _).setCell HR0.out _).setCell HR1.out _).setCell HR1.out _) (hT.mono fun b hb _ => ⟨?_, trivial⟩))
          rw [set_far (by exact hb.2), set_far (by exact hb.2), set_far (by exact hb.1), set_far (by exact hb.1), set_far (by exact hb.1), set_far (by exact hb.1)]
end Go.Proofs.YtflklbhgjfonbaaGreatDoor.Sc

/- slices.Sort and slices.Compact at a row of strings that the call has built. A case of the plan with one stage alone is opened. The stages of a plan of cases. A case of the plan with one stage alone is opened: the stages, the plan's validity, the rings, Open. The case of one stage opens. -/
import Derived.Test.YtjfiodknjchngaaGreatDoorShelfC
import Derived.Test.YtjfiodknjchngaaGreatDoorNest
import Derived.Sort.OwnSorted
import Derived.Test.YtjfiodknjchngaaGreatDoorFkW
import Derived.Test.YtjfiodknjchngaaGreatDoorMsi
import Derived.Lib.Walk
import Derived.Lib.OwnKind
import Derived.Test.YtjfiodknjchngaaGreatDoorApp
import Derived.Test.YtjfiodknjchngaaGreatDoorSol
import Derived.Deep.RegionHeld3
import Derived.Test.YtjfiodknjchngaaGreatDoorDuV
import Derived.Test.YtjfiodknjchngaaGreatDoorCfP
namespace Go.Proofs.YtjfiodknjchngaaGreatDoor.Srs
open Go.RowKit Mem Nest Go.Sort

def strs (l : List (List UInt8)) : List Value := l.map encStr
def sortS (zs : List (List UInt8)) : List (List UInt8) := zs.mergeSort fun x y => decide (x ≤ y)
theorem sortS_len (zs : List (List UInt8)) : (sortS zs).length = zs.length := List.length_mergeSort _
theorem strs_one (l : List (List UInt8)) : ∀ u ∈ strs l, u.oneCell' = true := fun u hu => by
  obtain ⟨s, _, rfl⟩ := List.mem_map.1 hu
  rfl
theorem sorts_any (base : Nat) (zs : List (List UInt8)) (hz : zs.length ≤ 100000) (A : Option Addr) (c : Nat) (w : World) (h : w.ownsRow base 9 1 (.slice A zs.length c) zs.length (strs zs)) :
    Calls Tryz.prog 55 #[.slice A zs.length c] w fun e w' => e = .returned (.tuple #[]) ∧ w'.ownsRow base 9 1 (.slice A zs.length c) zs.length (strs (sortS zs)) ∧ w.grownBy w' (Value.slice A zs.length c).ownBlock := by
  by_cases h0 : zs.length = 0
  · obtain rfl := List.length_eq_zero_iff.1 h0
    refine (Tryz.slices_Sort_string_none A c w).mono ?_
    rintro e w' ⟨rfl, rfl⟩
    have e : sortS [] = [] := by unfold sortS; simp
    exact ⟨rfl, by rw [e]; exact h, rfl, rfl, rfl, Nat.le_refl _, fun _ _ _ => rfl⟩
  · rcases h.2 with ⟨_, h2⟩ | ⟨g, cap, cur, hv, hg, hb, h1, h2, h3, h4⟩
    · exact absurd h2 h0
    · injection hv with ha hb' hc'
      subst ha hc'
      refine (Tryz.slices_Sort_string g 0 c zs w (holds_of_block hb (by rw [Nat.mul_one] at h4; exact h4)) (Array.getElem?_eq_some_iff.1 hb).1 (by omega)).mono ?_
      rintro e w' ⟨rfl, n, os, rfl⟩
      exact ⟨rfl, ownsRow_sorted (sortS_len zs) hg hb h1 h2 h3, grownBy_sorted _⟩
theorem comps_len (zs : List (List UInt8)) : (Lib.compact zs).length ≤ zs.length := by
  unfold Lib.compact Lib.compactUpTo
  rw [List.length_map]
  refine Nat.le_trans (List.length_filter_le _ _) ?_
  simp
def StrsPost (zs : List (List UInt8)) (w0 : World) (e : Ending) (w' : World) : Prop := ∃ A c, e = .returned (.slice A zs.length c) ∧ Rd w' A (strs zs) ∧ Below w0.heap.size w0 w'
theorem compacts_any (zs : List (List UInt8)) (hz : zs.length ≤ 100000) (A : Option Addr) (c : Nat) (w w0 : World) (h : w.ownsRow w0.heap.size 9 1 (.slice A zs.length c) zs.length (strs zs)) (hB : Below w0.heap.size w0 w) :
    Calls Tryz.prog 56 #[.slice A zs.length c] w (StrsPost (Lib.compact zs) w0) := by
  by_cases h0 : zs.length = 0
  · obtain rfl := List.length_eq_zero_iff.1 h0
    refine (Tryz.slices_Compact_string_empty A c w).mono ?_
    rintro e w' ⟨rfl, rfl⟩
    exact ⟨A, c, rfl, Rd.of_own h, hB⟩
  · rcases h.2 with ⟨_, h2⟩ | ⟨g, cap, cur, hv, hg, hb, h1, h2, h3, h4⟩
    · exact absurd h2 h0
    · injection hv with ha hb' hc'
      subst ha hc'
      refine (Tryz.slices_Compact_string g 0 c zs w (holds_of_block hb (by rw [Nat.mul_one] at h4; exact h4)) (by omega) h1).mono ?_
      rintro e w' ⟨rfl, q, rfl⟩
      have hl := comps_len zs
      have hl2 : (Lib.compact zs ++ List.replicate (zs.length - (Lib.compact zs).length) []).length = zs.length := by simp; omega
      have ho := ownsRow_sorted (os := #[]) (n := q) hl2 hg hb h1 h2 h3
      have hgr := grownBy_sorted (w := w) (g := g) (n := q) (os := #[]) (Lib.compact zs ++ List.replicate (zs.length - (Lib.compact zs).length) []).toArray
      rw [grow_empty] at ho hgr
      refine ⟨_, _, rfl, ?_, ?_⟩
      · have hr := (Rd.of_own ho).take (Lib.compact zs).length
        have e : (List.map encStr (Lib.compact zs ++ List.replicate (zs.length - (Lib.compact zs).length) [])).take (Lib.compact zs).length = strs (Lib.compact zs) := by
          rw [← List.map_take, List.take_left]
          rfl
        rw [e] at hr
        exact hr
      · exact hB.grown hgr hB.size fun k hk => by
          obtain rfl := Option.some.inj hk
          omega
end Go.Proofs.YtjfiodknjchngaaGreatDoor.Srs
namespace Go.Proofs.YtjfiodknjchngaaGreatDoor.Cf
open Go.RowKit Mem Nest Fk Msi

def strs (l : List (List UInt8)) : List Value := l.map fun s => .string ⟨s.toArray⟩
/-- one word in a row of the call's own: sorted, each once -/
def One (base : Nat) (s : List UInt8) (A : Option Addr) (c : Nat) (w : World) : Prop := w.ownsRow base 9 1 (.slice A 1 c) 1 [.string ⟨s.toArray⟩]
set_option maxRecDepth 100000 in
set_option maxHeartbeats 2000000 in
/-- ContainsFunc of one word with a function that says no, and turns the world as Q tells -/
theorem none_one (g : Nat) (hg : ∀ (vs : Array Value) (w : World), (callFunc g vs).run Tryz.prog w = .ok (.enter g vs) w) (caps : Array Value) (s : List UInt8) (b o c : Nat) (w : World) (Q : World → Prop) (hs : w.cell? ⟨b, o, none⟩ = some (.string ⟨s.toArray⟩))
    (hc : Calls Tryz.prog g (#[.string ⟨s.toArray⟩] ++ caps) w fun e w' => e = .returned (.bool false) ∧ Q w') :
    Calls Tryz.prog 43 #[.slice (some ⟨b, o, none⟩) 1 c, .func (.func g) #[] caps] w fun e w' => e = .returned (.bool false) ∧ Q w' := by
  have HS := Lib.hid hs
  have HC := Lib.hid hc
  clear hs hc
  have hi : Calls Tryz.prog 77 #[.slice (some ⟨b, o, none⟩) 1 c, .func (.func g) #[] caps] w fun e w' => e = .returned (.int .i64 (-1)) ∧ Q w' := by
    go_enter Tryz.func77, Tryz.ntmps77
    go_wp2_with fail
    go_loopw [8] (fun i wr => (i = .int .i64 0 ∧ wr = w) ∨ (i = .int .i64 1 ∧ Hid (Q wr))) (fun i _ => (1 - intOf i).toNat)
    case atStart => exact .inl ⟨rfl, rfl⟩
    case round =>
      rcases hrel with ⟨rfl, rfl⟩ | ⟨rfl, HQ⟩
      · have c0 := HS.out
        go_wp2_with fail
        refine HC.out.mono ?_
        rintro e w' ⟨rfl, hq⟩
        have HQ := Lib.hid hq
        clear hq c0
        go_wp2_with fail
        go_roundw
        case rel => exact .inr ⟨by go_num, HQ.out⟩
        case measure => simp [intOf]
      · go_wp2_with fail
        go_ret
        exact ⟨rfl, HQ.out⟩
  have HI := Lib.hid hi
  clear hi
  go_enter Tryz.func43, Tryz.ntmps43
  go_wp2_with fail
  refine HI.out.mono ?_
  rintro e w' ⟨rfl, hq⟩
  have HQ := Lib.hid hq
  clear hq
  go_wp2_with fail
  go_ret
  exact ⟨rfl, HQ.out⟩
theorem word_a : wordB [97] = true := by decide
set_option maxRecDepth 100000 in
theorem val1_a (w : World) : Calls Tryz.prog 44 #[.string ⟨#[97]⟩] w fun e w' => e = .returned (.bool false) ∧ w = w' := by
  go_enter Tryz.func44, Tryz.ntmps44
  go_wp2_with fail
  refine (pword_any [97] (by decide) w).mono ?_
  rintro e w' ⟨rfl, rfl⟩
  rw [word_a]
  go_wp2_with fail
  go_ret
  exact ⟨rfl, rfl⟩
set_option maxRecDepth 100000 in
set_option maxHeartbeats 2000000 in
theorem movesNone_any (f : Value) (w : World) : Calls Tryz.prog 46 #[.slice none 0 0, f] w fun e w' => e = .returned (.bool false) ∧ w = w' := by
  have hi : Calls Tryz.prog 58 #[.slice none 0 0, f] w fun e w' => e = .returned (.int .i64 (-1)) ∧ w = w' := by
    go_enter Tryz.func58, Tryz.ntmps58
    go_wp2_with fail
    go_loopw [8] (fun i wr => i = .int .i64 0 ∧ wr = w) (fun i _ => (1 - intOf i).toNat)
    case atStart => exact ⟨rfl, rfl⟩
    case round =>
      obtain ⟨rfl, rfl⟩ := hrel
      go_wp2_with fail
      go_ret
      exact ⟨rfl, rfl⟩
  have HI := Lib.hid hi
  clear hi
  go_enter Tryz.func46, Tryz.ntmps46
  go_wp2_with fail
  refine HI.out.mono ?_
  rintro e w' ⟨rfl, rfl⟩
  go_wp2_with fail
  go_ret
  exact ⟨rfl, rfl⟩
end Go.Proofs.YtjfiodknjchngaaGreatDoor.Cf
namespace Go.Proofs.YtjfiodknjchngaaGreatDoor.Cf
open Go.RowKit Mem Nest Srs App

structure Mv where
  name : List UInt8
  frm : List UInt8
  to_ : List UInt8
  who : List UInt8
  n : Int
  u : Int
  r : Int
  most : Int
def mvCells (m : Mv) : List Value := [.string ⟨m.name.toArray⟩, .string ⟨m.frm.toArray⟩, .string ⟨m.to_.toArray⟩, .string ⟨m.who.toArray⟩, .int .i64 m.n, .int .i64 m.u, .int .i64 m.r, .int .i64 m.most]
theorem mvCells_len (m : Mv) : (mvCells m).length = 8 := rfl
structure MvAt (w : World) (b o : Nat) (m : Mv) : Prop where
  c0 : w.cell? ⟨b, o, none⟩ = some (.string ⟨m.name.toArray⟩)
  c1 : w.cell? ⟨b, o + 1, none⟩ = some (.string ⟨m.frm.toArray⟩)
  c2 : w.cell? ⟨b, o + 2, none⟩ = some (.string ⟨m.to_.toArray⟩)
  c3 : w.cell? ⟨b, o + 3, none⟩ = some (.string ⟨m.who.toArray⟩)
  c4 : w.cell? ⟨b, o + 4, none⟩ = some (.int .i64 m.n)
  c5 : w.cell? ⟨b, o + 5, none⟩ = some (.int .i64 m.u)
  c6 : w.cell? ⟨b, o + 6, none⟩ = some (.int .i64 m.r)
  c7 : w.cell? ⟨b, o + 7, none⟩ = some (.int .i64 m.most)
theorem mv_at {w : World} {A : Option Addr} {l : List Mv} (h : Rd w A (l.flatMap mvCells)) {k : Nat} (hk : k < l.length) : ∃ b o, A = some ⟨b, o, none⟩ ∧ MvAt w b (o + k * 8) l[k] := by
  obtain ⟨b, o, e, hc⟩ := h.row mvCells_len hk (by omega)
  exact ⟨b, o, e, by simpa using hc 0 _ rfl, hc 1 _ rfl, hc 2 _ rfl, hc 3 _ rfl, hc 4 _ rfl, hc 5 _ rfl, hc 6 _ rfl, hc 7 _ rfl⟩
/-- all stages that a plan names, as they come -/
def allF (st : List UInt8) (fin : List (List UInt8)) (ms : List Mv) : List (List UInt8) := st :: fin ++ ms.flatMap fun m => [m.frm, m.to_]
def stagesF (st : List UInt8) (fin : List (List UInt8)) (ms : List Mv) : List (List UInt8) := Lib.compact (sortS (allF st fin ms))
theorem all_take {st : List UInt8} {fin : List (List UInt8)} {ms : List Mv} {k : Nat} (h : k < ms.length) : allF st fin (ms.take (k + 1)) = allF st fin (ms.take k) ++ [ms[k].frm, ms[k].to_] := by
  unfold allF
  rw [List.take_succ_eq_append_getElem h, List.flatMap_append]
  simp
theorem all_len (st : List UInt8) (fin : List (List UInt8)) : ∀ ms : List Mv, (allF st fin ms).length = 1 + fin.length + 2 * ms.length
  | [] => by simp [allF]; omega
  | m :: ms => by
    have h := all_len st fin ms
    unfold allF at h ⊢
    simp at h ⊢
    omega
theorem str_info : (Tryz.prog.info? 9).map (fun i => (i.zero, i.size, i.bytes)) = some (some (.string ByteArray.empty), 1, 16) := by kernel_rfl
theorem strs_app (a b : List (List UInt8)) : strs (a ++ b) = strs a ++ strs b := by simp [strs]
set_option maxRecDepth 100000 in
set_option maxHeartbeats 1000000 in
theorem stages_any (st : List UInt8) (fin : List (List UInt8)) (ms : List Mv) (hf : fin.length ≤ 1000) (hm : ms.length ≤ 1000) (FA MA : Option Addr) (fc mc : Nat) (hn : FA = none → fc = 0) (w : World) (hF : Rd w FA (strs fin)) (hM : Rd w MA (ms.flatMap mvCells)) :
    Calls Tryz.prog 42 #[.agg #[.string ⟨st.toArray⟩, .slice FA fin.length fc, .slice MA ms.length mc]] w (StrsPost (stagesF st fin ms) w) := by
  have bx := Blk.new w 42 [.string ⟨st.toArray⟩, .slice FA fin.length fc, .slice MA ms.length mc]
  have hx1 := ext_alloc w (.cells (List.toArray [.string ⟨st.toArray⟩, .slice FA fin.length fc, .slice MA ms.length mc]) 42)
  obtain ⟨W, hW⟩ : ∃ W, W = w.alloc (.cells (List.toArray [.string ⟨st.toArray⟩, .slice FA fin.length fc, .slice MA ms.length mc]) 42) := ⟨_, rfl⟩
  obtain ⟨K, hK⟩ : ∃ K, K = w.heap.size := ⟨_, rfl⟩
  rw [← hW] at bx hx1
  rw [← hK] at bx
  have HXw := Lib.hid hx1
  have HKb := Lib.hid bx
  have HF := Lib.hid (hF.ext hx1)
  have HM := Lib.hid hM
  have hKlt : K < W.heap.size := bx.lt
  have HO := Lib.hid (show (W.alloc (.cells #[.string ⟨st.toArray⟩] 9)).ownsRow w.heap.size 9 1 (.slice (some ⟨W.heap.size, 0, none⟩) 1 1) 1 (strs [st]) from ⟨rfl, .inr ⟨W.heap.size, 1, #[.string ⟨st.toArray⟩], rfl, hx1.size, heap_alloc_new W _, Nat.le_refl _, by unfold maxLen; omega, rfl, rfl⟩⟩)
  have HBo := Lib.hid (ext_trans hx1 (ext_alloc W (.cells #[.string ⟨st.toArray⟩] 9)))
  have HB1 := Lib.hid (ext_alloc W (.cells #[.string ⟨st.toArray⟩] 9))
  obtain ⟨i0, hi, hz0, hz1, hz2⟩ := info_parts str_info
  have HI := Lib.hid hi
  have HZ0 := Lib.hid hz0
  have HZ1 := Lib.hid hz1
  have HZ2 := Lib.hid hz2
  have y0 := bx.cell 0 rfl
  have y1 := cell_ext HB1.out (bx.cell 1 rfl)
  have y1' := bx.cell 1 rfl
  have HN := Lib.hid hn
  clear hF hM hx1 bx hi hz0 hz1 hz2 hn
  go_enter Tryz.func42, Tryz.ntmps42
  go_upto_region 1 with fail
  rw [show w.alloc (.cells (List.toArray [.string ⟨st.toArray⟩, .slice FA fin.length fc, .slice MA ms.length mc]) 42) = W from hW.symm, ← hK]
  clear hW hK
  go_wp2_with (at_builtin; go_loud (refine wpList_append_rd _ rfl _ _ _ rfl w.heap.size 9 i0 _ 1 16 Tryz.underlying39 HI.out HZ0.out HZ1.out HZ2.out rfl (by omega) _ 1 _ rfl HO.out FA fin.length fc (strs fin) rfl HN.out (by simp [strs]) (HF.out.ext HB1.out) (strs_one fin) (by simp only [maxLen]; omega) (by omega) HBo.out.size ?_; intro v1 w5 hown hg; have HO5 := Lib.hid hown; have HB5 := Lib.hid (HBo.out.grown hg HBo.out.size (fun g hg => (HO.out.lt g hg).1)); have HKn := Lib.hid (show some K ≠ (Value.slice (some ⟨W.heap.size, 0, none⟩) 1 1).ownBlock from fun h => by simp [Value.ownBlock] at h; omega); have hgk := hg.block K (Nat.lt_of_lt_of_le hKlt HB1.out.size) HKn.out; have HK5 := Lib.hid (show Blk w5 K 42 [.string ⟨st.toArray⟩, .slice FA fin.length fc, .slice MA ms.length mc] by have h := Sol.blk_ext HKb.out HB1.out; unfold Blk at h ⊢; rw [hgk]; exact h); have y2 := HK5.out.cell 2 rfl; clear hown hg hgk))
  have hal := all_len st fin []
  go_loopw [3, 15] (fun s3 s15 wr => ∃ k : Nat, s15 = .int .i64 k ∧ k ≤ ms.length ∧ Hid (Below w.heap.size w wr) ∧ Hid (wr.ownsRow w.heap.size 9 1 s3 (allF st fin (ms.take k)).length (strs (allF st fin (ms.take k))))) (fun _ s15 _ => ms.length - (intOf s15).toNat)
  case atStart =>
    refine ⟨0, rfl, Nat.zero_le _, HB5.out, ?_⟩
    have ho := HO5.out
    show World.ownsRow _ _ _ _ _ _ _
    rw [List.take_zero, hal, show allF st fin [] = [st] ++ fin by simp [allF], strs_app]
    simpa using ho
  case round =>
    clear y0 y1 y1' y2 HO5 HK5 HKn
    obtain ⟨k, rfl, hk, HB, HO2⟩ := hrel
    have hlen := all_len st fin (ms.take k)
    by_cases hlt : k < ms.length
    · have hcl : (k : Int) < (ms.length : Int) := by omega
      rw [List.length_take, Nat.min_eq_left (Nat.le_of_lt hlt)] at hlen
      have HTK := Lib.hid (all_take (st := st) (fin := fin) hlt)
      obtain ⟨b, o, rfl, hx⟩ := mv_at (HM.out.ext HB.out) hlt
      generalize allF st fin (ms.take k) = R at HO2 HTK hlen
      generalize ms[k] = x at hx HTK
      obtain ⟨xn, xf, xt, xw, x1, x2, x3, x4⟩ := x
      obtain ⟨c0, c1, c2, c3, c4, c5, c6, c7⟩ := hx
      simp only at c0 c1 c2 c3 c4 c5 c6 c7 HTK
      have HBa := Lib.hid (ext_trans HB.out (ext_alloc wr (.cells (List.toArray [.string ⟨xn.toArray⟩, .string ⟨xf.toArray⟩, .string ⟨xt.toArray⟩, .string ⟨xw.toArray⟩, .int .i64 x1, .int .i64 x2, .int .i64 x3, .int .i64 x4]) 106)))
      have HOa := Lib.hid (own_ext HO2.out (ext_alloc wr (.cells (List.toArray [.string ⟨xn.toArray⟩, .string ⟨xf.toArray⟩, .string ⟨xt.toArray⟩, .string ⟨xw.toArray⟩, .int .i64 x1, .int .i64 x2, .int .i64 x3, .int .i64 x4]) 106)))
      obtain ⟨V, hV⟩ : ∃ V, V = wr.alloc (.cells (List.toArray [.string ⟨xn.toArray⟩, .string ⟨xf.toArray⟩, .string ⟨xt.toArray⟩, .string ⟨xw.toArray⟩, .int .i64 x1, .int .i64 x2, .int .i64 x3, .int .i64 x4]) 106) := ⟨_, rfl⟩
      have bx := Blk.new wr 106 [.string ⟨xn.toArray⟩, .string ⟨xf.toArray⟩, .string ⟨xt.toArray⟩, .string ⟨xw.toArray⟩, .int .i64 x1, .int .i64 x2, .int .i64 x3, .int .i64 x4]
      rw [← hV] at HBa HOa bx
      obtain ⟨K2, hK2⟩ : ∃ K2, K2 = wr.heap.size := ⟨_, rfl⟩
      rw [← hK2] at bx
      go_upto_region 5 with fail
      rw [show wr.alloc (.cells (List.toArray [.string ⟨xn.toArray⟩, .string ⟨xf.toArray⟩, .string ⟨xt.toArray⟩, .string ⟨xw.toArray⟩, .int .i64 x1, .int .i64 x2, .int .i64 x3, .int .i64 x4]) 106) = V from hV.symm, ← hK2]
      have d1 := bx.cell 1 rfl
      have d2 := bx.cell 2 rfl
      clear hV hK2 bx c0 c1 c2 c3 c4 c5 c6 c7 HO2
      go_wp2_with (at_builtin; go_loud (refine wpList_append_own _ rfl _ _ _ rfl w.heap.size 9 i0 _ 1 16 Tryz.underlying39 HI.out HZ0.out HZ1.out HZ2.out rfl (by omega) u3 R.length _ rfl (World.ownsRow.alloc HOa.out _) ⟨V.heap.size, 0, none⟩ 2 2 (strs [xf, xt]) rfl rfl (new_cells V (strs [xf, xt]) _ _ rfl) (strs_one _) (by simp only [maxLen]; omega) (by omega) (by have := HBa.out.size; simp; omega) ?_; intro v2 w7 hown hg _; have HO7 := Lib.hid hown; have HB7 := Lib.hid (Below.grown (ext_trans HBa.out (ext_alloc V _)) hg (by have := HBa.out.size; simp; omega) (fun g hg => (HOa.out.lt g hg).1)); clear hown hg))
      go_roundw
      case rel =>
        refine ⟨k + 1, by go_num, by omega, HB7.out, ?_⟩
        have ho := HO7.out
        show World.ownsRow _ _ _ _ _ _ _
        rw [HTK.out, List.length_append, strs_app]
        exact ho
      case measure => simp [intOf] <;> omega
    · have hcl : ¬ (k : Int) < (ms.length : Int) := by omega
      obtain rfl : ms.length = k := by omega
      rw [List.take_length] at HO2 hlen
      obtain ⟨A1, c1, rfl, _⟩ := own_slice HO2.out
      have HLen := Lib.hid (show (allF st fin ms).length ≤ 100000 by omega)
      clear hlen hal
      go_wp2_with fail
      refine (sorts_any w.heap.size (allF st fin ms) HLen.out A1 c1 _ HO2.out).mono ?_
      rintro e w6 ⟨rfl, ho6, hg6⟩
      have HB6 := Lib.hid (grown_ext HB.out rfl HO2.out hg6)
      have hsl := sortS_len (allF st fin ms)
      obtain ⟨ss, hss⟩ : ∃ ss, ss = sortS (allF st fin ms) := ⟨_, rfl⟩
      rw [← hss] at ho6 hsl
      rw [← hsl] at ho6 HLen ⊢
      have HSS := Lib.hid (show stagesF st fin ms = Lib.compact ss by rw [hss]; rfl)
      have HO6 := Lib.hid ho6
      have HCa := Lib.hid (compacts_any ss HLen.out A1 c1 _ w HO6.out HB6.out)
      obtain ⟨cs, hcs⟩ : ∃ cs, cs = Lib.compact ss := ⟨_, rfl⟩
      rw [← hcs] at HCa HSS
      clear ho6 hg6 HO2 hss hcs hsl HO HO6 HBo HF HM HXw HKb HI HZ0 HZ1 HZ2
      go_wp2_with fail
      refine HCa.out.mono ?_
      rintro e w7 ⟨A7, c7, rfl, hr7, hb7⟩
      have HR7 := Lib.hid hr7
      have HB7 := Lib.hid hb7
      clear hr7 hb7 HCa
      go_wp2_with fail
      go_ret
      show StrsPost (stagesF st fin ms) w _ _
      rw [HSS.out]
      exact ⟨A7, c7, rfl, HR7.out, HB7.out⟩
end Go.Proofs.YtjfiodknjchngaaGreatDoor.Cf
namespace Go.Proofs.YtjfiodknjchngaaGreatDoor.Cf
open Go.RowKit Mem Nest Fk Msi Srs

def planV : Value := .agg #[.string ⟨#[97]⟩, .slice none 0 0, .slice none 0 0]
theorem stages_a : stagesF [97] [] [] = [[97]] := by
  unfold stagesF sortS allF
  simp [Lib.compact, Lib.compactUpTo, Lib.keeps]
set_option maxRecDepth 100000 in
set_option maxHeartbeats 4000000 in
theorem ring1_a (mb tb pb fb : Nat) (w0 w : World) (hB : Below w0.heap.size w0 w) (h0 : w0.heap.size ≤ mb) (hm : SI w mb 0 (fun _ => none)) (ht : w.cell? ⟨tb, 0, none⟩ = some (.map (some mb))) (hp : w.cell? ⟨pb, 2, none⟩ = some (.slice none 0 0)) (h1 : tb ≠ mb) (h2 : pb ≠ mb) :
    Calls Tryz.prog 81 #[.string ⟨#[97]⟩, .pointer (some ⟨tb, 0, none⟩), .pointer (some ⟨pb, 0, none⟩), .pointer (some ⟨fb, 0, none⟩)] w fun e w' => e = .returned (.bool false) ∧ Below w0.heap.size w0 w' := by
  have hl := hm.look (s := [97]) (by decide)
  obtain ⟨w1, hu1, hm1, hg1⟩ := hm.upd (s := [97]) (by decide) (by decide) 1
  obtain ⟨w2, hu2, _, hg2⟩ := hm1.upd (s := [97]) (by decide) (by decide) 2
  have t1 := hg1.cell ht (fun e => h1 (Option.some.inj e))
  have p1 := hg1.cell hp (fun e => h2 (Option.some.inj e))
  have HB1 := Lib.hid (hB.grown hg1 hB.size (fun g hg => by obtain rfl := Option.some.inj hg; exact h0))
  have HB2 := Lib.hid (HB1.out.grown hg2 HB1.out.size (fun g hg => by obtain rfl := Option.some.inj hg; exact h0))
  simp only [Option.getD_none] at hl
  clear hm hm1 hg1 hg2 hB hp h1 h2 h0
  go_enter Tryz.func81, Tryz.ntmps81
  go_wp2_with fail
  go_loopw [21] (fun i wr => i = .int .i64 0 ∧ wr = w1) (fun i _ => (1 - intOf i).toNat)
  case atStart => exact ⟨rfl, rfl⟩
  case round =>
    obtain ⟨rfl, rfl⟩ := hrel
    go_wp2_with fail
    go_ret
    exact ⟨rfl, HB2.out⟩
set_option maxRecDepth 100000 in
set_option maxHeartbeats 4000000 in
theorem rings_a (b o c : Nat) (w : World) (hs : w.cell? ⟨b, o, none⟩ = some (.string ⟨#[97]⟩)) :
    Calls Tryz.prog 50 #[planV, .slice (some ⟨b, o, none⟩) 1 c] w fun e w' => e = .returned (.bool false) ∧ Below w.heap.size w w' := by
  unfold planV
  have hmm := @run_makeMap Tryz.prog
  obtain ⟨K, hK⟩ : ∃ K, K = w.heap.size := ⟨_, rfl⟩
  have x1 := ext_alloc w (.cells #[.string ⟨#[97]⟩, .slice none 0 0, .slice none 0 0] 42)
  have p1 := (Blk.new w 42 [.string ⟨#[97]⟩, .slice none 0 0, .slice none 0 0]).cell 2 rfl
  obtain ⟨W1, hW1⟩ : ∃ W1, W1 = w.alloc (.cells #[.string ⟨#[97]⟩, .slice none 0 0, .slice none 0 0] 42) := ⟨_, rfl⟩
  have e1 : W1.heap.size = K + 1 := by rw [hW1, hK]; simp
  have p1 : W1.cell? ⟨K, 2, none⟩ = some (.slice none 0 0) := by rw [hW1, hK]; exact p1
  rw [← hW1] at x1
  have x2 := ext_alloc W1 (.map #[] 0)
  have m2 := SI.made W1
  obtain ⟨W2, hW2⟩ : ∃ W2, W2 = W1.alloc (.map #[] 0) := ⟨_, rfl⟩
  have e2 : W2.heap.size = K + 1 + 1 := by rw [hW2, World.size_alloc, e1]
  rw [← hW2] at x2 m2
  rw [e1] at m2
  have x3 := ext_alloc W2 (.cells #[.map (some (K + 1))] 130)
  have t3 := (Blk.new W2 130 [.map (some (K + 1))]).cell 0 rfl
  obtain ⟨W3, hW3⟩ : ∃ W3, W3 = W2.alloc (.cells #[.map (some (K + 1))] 130) := ⟨_, rfl⟩
  have e3 : W3.heap.size = K + 1 + 1 + 1 := by rw [hW3, World.size_alloc, e2]
  have t3 : W3.cell? ⟨K + 1 + 1, 0, none⟩ = some (.map (some (K + 1))) := by rw [hW3, ← e2]; exact t3
  rw [← hW3] at x3
  have x4 := ext_alloc W3 (.cells #[.func (.func 81) #[] #[.pointer (some ⟨K + 1 + 1, 0, none⟩), .pointer (some ⟨K, 0, none⟩), .pointer (some ⟨K + 1 + 1 + 1, 0, none⟩)]] 109)
  obtain ⟨W4, hW4⟩ : ∃ W4, W4 = W3.alloc (.cells #[.func (.func 81) #[] #[.pointer (some ⟨K + 1 + 1, 0, none⟩), .pointer (some ⟨K, 0, none⟩), .pointer (some ⟨K + 1 + 1 + 1, 0, none⟩)]] 109) := ⟨_, rfl⟩
  rw [← hW4] at x4
  have HC := Lib.hid (none_one 81 (fun _ _ => by kernel_rfl) #[.pointer (some ⟨K + 1 + 1, 0, none⟩), .pointer (some ⟨K, 0, none⟩), .pointer (some ⟨K + 1 + 1 + 1, 0, none⟩)] [97] b o c W4 (fun w' => Below w.heap.size w w') (cell_ext (ext_trans x1 (ext_trans x2 (ext_trans x3 x4))) hs)
    (ring1_a (K + 1) (K + 1 + 1) K (K + 1 + 1 + 1) w W4 (ext_trans x1 (ext_trans x2 (ext_trans x3 x4))) (by omega) ((m2.ext x3).ext x4) (cell_ext x4 t3) (cell_ext x4 (cell_ext x3 (cell_ext x2 p1))) (by omega) (by omega)))
  clear hs x1 x2 x3 x4 p1 t3 m2
  go_enter Tryz.func50, Tryz.ntmps50
  go_wp2_with fail
  rw [← hK, ← hW1, ← hW2, ← hW3, ← hW4]
  refine HC.out.mono ?_
  rintro e w' ⟨rfl, hb⟩
  have HBe := Lib.hid hb
  clear hb HC
  go_wp2_with fail
  go_ret
  exact ⟨rfl, HBe.out⟩
set_option maxRecDepth 100000 in
set_option maxHeartbeats 4000000 in
theorem valid_a (w : World) : Calls Tryz.prog 11 #[planV] w fun e w' => e = .returned .nilIface ∧ Below w.heap.size w w' := by
  have bx := Blk.new w 42 [.string ⟨#[97]⟩, .slice none 0 0, .slice none 0 0]
  have hx1 := ext_alloc w (.cells #[.string ⟨#[97]⟩, .slice none 0 0, .slice none 0 0] 42)
  obtain ⟨W, hW⟩ : ∃ W, W = w.alloc (.cells #[.string ⟨#[97]⟩, .slice none 0 0, .slice none 0 0] 42) := ⟨_, rfl⟩
  obtain ⟨K, hK⟩ : ∃ K, K = w.heap.size := ⟨_, rfl⟩
  have bx : Blk W K 42 [.string ⟨#[97]⟩, .slice none 0 0, .slice none 0 0] := by rw [hW, hK]; exact bx
  rw [← hW] at hx1
  have HX := Lib.hid hx1
  have HKb := Lib.hid bx
  have HSt := Lib.hid (stages_any [97] [] [] (by decide) (by decide) none none 0 0 (fun _ => rfl) W Rd.nil Rd.nil)
  rw [stages_a] at HSt
  have y0 := bx.cell 0 rfl
  have y1 := bx.cell 1 rfl
  have y2 := bx.cell 2 rfl
  clear bx hx1
  unfold planV
  go_enter Tryz.func11, Tryz.ntmps11
  go_upto_region 1 with fail
  rw [← hW, ← hK]
  clear hW hK
  go_wp2_with fail
  refine HSt.out.mono ?_
  rintro e w1 ⟨A, c, rfl, hr, hb1⟩
  obtain ⟨sb, so, e, hc0⟩ := hr 0 _ rfl
  subst e
  rw [Nat.add_zero] at hc0
  have HC0 := Lib.hid hc0
  have HB1 := Lib.hid hb1
  have y0 := cell_ext hb1 y0
  have y1 := cell_ext hb1 y1
  have y2 := cell_ext hb1 y2
  clear hr hb1 hc0 HSt
  simp only [List.length_cons, List.length_nil, Nat.zero_add]
  go_wp2_with fail
  refine (none_one 44 (fun _ _ => by kernel_rfl) #[] [97] sb so c _ (fun w' => w1 = w') HC0.out (val1_a w1)).mono ?_
  rintro e w2 ⟨rfl, rfl⟩
  go_wp2_with fail
  go_loopw [4, 28] (fun s4 i wr => s4 = .bool false ∧ i = .int .i64 0 ∧ wr = w1) (fun _ i _ => (1 - intOf i).toNat)
  case atStart => exact ⟨rfl, rfl, rfl⟩
  case round =>
    obtain ⟨rfl, rfl, rfl⟩ := hrel
    go_wp2_with fail
    refine (movesNone_any _ _).mono ?_
    rintro e w2 ⟨rfl, rfl⟩
    go_wp2_with fail
    refine (rings_a sb so c _ HC0.out).mono ?_
    rintro e w3 ⟨rfl, hb3⟩
    have HB3 := Lib.hid (ext_trans HX.out (ext_trans HB1.out hb3))
    have y2 := cell_ext hb3 y2
    clear hb3 y0 y1
    go_wp2_with fail
    go_loopw [70] (fun i wr => i = .int .i64 0 ∧ wr = w3) (fun i _ => (1 - intOf i).toNat)
    case atStart => exact ⟨rfl, rfl⟩
    case round =>
      obtain ⟨rfl, rfl⟩ := hrel
      go_wp2_with fail
      go_ret
      exact ⟨rfl, HB3.out⟩
theorem cloneS_nil (w : World) : Calls Tryz.prog 36 #[.slice none 0 0] w fun e w' => e = .returned (.slice none 0 0) ∧ w = w' := by
  have q : ∀ (w : World) (a : Option Addr) (n c n' c' : Nat), (binOp .eql 39 (.slice a n c) (.slice none n' c')).run Tryz.prog w = .ok (.bool a.isNone) w := fun w a n c n' c' => Lib.run_eql_slice_nil w _ _ a n c n' c' Tryz.underlying39
  go_enter Tryz.func36, Tryz.ntmps36
  go_wp2_with fail
  go_ret
  exact ⟨rfl, rfl⟩
theorem cloneM_nil (w : World) : Calls Tryz.prog 37 #[.slice none 0 0] w fun e w' => e = .returned (.slice none 0 0) ∧ w = w' := by
  have q : ∀ (w : World) (a : Option Addr) (n c n' c' : Nat), (binOp .eql 40 (.slice a n c) (.slice none n' c')).run Tryz.prog w = .ok (.bool a.isNone) w := fun w a n c n' c' => Lib.run_eql_slice_nil w _ _ a n c n' c' Tryz.underlying40
  go_enter Tryz.func37, Tryz.ntmps37
  go_wp2_with fail
  go_ret
  exact ⟨rfl, rfl⟩
theorem good_five (w : World) : Calls Tryz.prog 34 #[.int .i64 5] w fun e w' => e = .returned (.bool true) ∧ w' = w := Dut.day_yes 5 (by decide) w
theorem make_none (w : World) : (Instr.makeSlice 24 (.int .i64 0) (.int .i64 0)).run Tryz.prog w = .ok (.slice (some ⟨w.heap.size, 0, none⟩) 0 0) (w.alloc (.cells #[] 3)) := by kernel_rfl
/-- a pointer at a case at stage a -/
def CaseA (w : World) (v : Value) : Prop := ∃ b, v = .pointer (some ⟨b, 0, none⟩) ∧ w.cell? ⟨b, 4, none⟩ = some (.string ⟨#[97]⟩)
set_option maxRecDepth 100000 in
set_option maxHeartbeats 4000000 in
theorem open_a (w : World) : Calls Tryz.prog 8 #[planV, .int .i64 5, .pointer none] w fun e w' => (∃ v, e = .returned (.tuple #[v, .nilIface]) ∧ CaseA w' v) ∧ Below w.heap.size w w' := by
  have bx := Blk.new w 42 [.string ⟨#[97]⟩, .slice none 0 0, .slice none 0 0]
  have hx1 := ext_alloc w (.cells #[.string ⟨#[97]⟩, .slice none 0 0, .slice none 0 0] 42)
  obtain ⟨W, hW⟩ : ∃ W, W = w.alloc (.cells #[.string ⟨#[97]⟩, .slice none 0 0, .slice none 0 0] 42) := ⟨_, rfl⟩
  obtain ⟨K, hK⟩ : ∃ K, K = w.heap.size := ⟨_, rfl⟩
  have bx : Blk W K 42 [.string ⟨#[97]⟩, .slice none 0 0, .slice none 0 0] := by rw [hW, hK]; exact bx
  rw [← hW] at hx1
  have HX := Lib.hid hx1
  have HKb := Lib.hid bx
  have HKk := Lib.hid (show w.heap.size ≤ K by omega)
  have HV := Lib.hid (valid_a W)
  have y0 := bx.cell 0 rfl
  have y1 := bx.cell 1 rfl
  have y2 := bx.cell 2 rfl
  clear bx hx1
  unfold planV at *
  go_enter Tryz.func8, Tryz.ntmps8
  go_upto_region 1 with fail
  rw [← hW, ← hK]
  clear hW hK
  go_wp2_with fail
  refine HV.out.mono ?_
  rintro e w1 ⟨rfl, hb1⟩
  have HB1 := Lib.hid (ext_trans HX.out hb1)
  have HK1 := Lib.hid (Sol.blk_ext HKb.out hb1)
  clear hb1 y0 y1 y2 HV
  go_wp2_with fail
  refine (good_five _).mono ?_
  rintro e w2 ⟨rfl, rfl⟩
  have hx2 := ext_alloc w2 (.cells #[.bool false, .bool false, .bool false, .bool false, .bool false, .bool false, .bool false, .slice none 0 0] 99)
  obtain ⟨Wc, hWc⟩ : ∃ Wc, Wc = w2.alloc (.cells #[.bool false, .bool false, .bool false, .bool false, .bool false, .bool false, .bool false, .slice none 0 0] 99) := ⟨_, rfl⟩
  obtain ⟨Kc, hKc⟩ : ∃ Kc, Kc = w2.heap.size := ⟨_, rfl⟩
  rw [← hWc] at hx2
  go_upto_region 9 with fail
  rw [← hWc, ← hKc]
  clear hWc hKc
  have HB2 := Lib.hid (ext_trans HB1.out hx2)
  have b0 : Blk Wc.drew K 42 [.string ⟨#[97]⟩, .slice none 0 0, .slice none 0 0] := Sol.blk_ext HK1.out (ext_trans hx2 (ext_drewN Wc 1))
  have hdr : Below Wc.heap.size Wc Wc.drew := ext_drewN Wc 1
  clear hx2
  have k1 := b0.cell 1 rfl
  have k2 := b0.cell 2 rfl
  have f1 := b0.free 1
  have f3 := b0.free 2
  have b1 := b0.set 1 (.slice none 0 0)
  have k3 := b1.cell 1 rfl
  have k4 := b1.cell 2 rfl
  have f2 := b1.free 2
  have b2 := b1.set 2 (.slice none 0 0)
  have k5 := b2.cell 1 rfl
  have k6 := b2.cell 2 rfl
  have HB3 := Lib.hid (RowKit.Below.setCell (p := ⟨K, 2, none⟩) (RowKit.Below.setCell (p := ⟨K, 1, none⟩) (ext_trans HB2.out hdr) HKk.out (.slice none 0 0)) HKk.out (.slice none 0 0))
  have HBk := Lib.hid b2
  have k4' : (Wc.setCell ⟨K, 1, none⟩ (.slice none 0 0)).drew.cell? ⟨K, 2, none⟩ = some (.slice none 0 0) := k4
  have f2' : (Wc.setCell ⟨K, 1, none⟩ (.slice none 0 0)).drew.frozen? ⟨K, 2, none⟩ = false := f2
  go_region_held3 (fun w' => w'.cell? ⟨K, 1, none⟩ = some (.slice none 0 0) ∧ w'.cell? ⟨K, 2, none⟩ = some (.slice none 0 0))
    ((first | exact ⟨k1, k2⟩ | exact ⟨k3, k4⟩ | exact ⟨k5, k6⟩))
    ((first
      | (go_at_call 36; refine (cloneS_nil _).mono ?_; rintro e w9 ⟨rfl, rfl⟩)
      | (go_at_call 37; refine (cloneM_nil _).mono ?_; rintro e w9 ⟨rfl, rfl⟩)))
  obtain ⟨Wf, hWf⟩ : ∃ Wf, Wf = ((Wc.setCell ⟨K, 1, none⟩ (.slice none 0 0)).setCell ⟨K, 2, none⟩ (.slice none 0 0)).drew := ⟨_, rfl⟩
  have hbf : Blk Wf K 42 [.string ⟨#[97]⟩, .slice none 0 0, .slice none 0 0] := by rw [hWf]; exact HBk.out
  have hbb : Below w.heap.size w Wf := by rw [hWf]; exact HB3.out
  rw [← hWf]
  have HBf := Lib.hid hbb
  have HKf := Lib.hid hbf
  clear hbb hWf k1 k2 k3 k4 k5 k6 f1 f2 f3 k4' f2' b0 b1 b2 hdr HB3 HBk HB2 HB1 HK1
  have q0 := hbf.cell 0 rfl
  have q1 := hbf.cell 1 rfl
  have q2 := hbf.cell 2 rfl
  have hmk := fun w => make_none w
  have hdr := ext_drewN Wf 1
  clear hbf
  go_wp2_with fail
  go_region_held3 (fun w' => w'.cell? ⟨K, 0, none⟩ = some (.string ⟨#[97]⟩) ∧ w'.cell? ⟨K, 1, none⟩ = some (.slice none 0 0) ∧ w'.cell? ⟨K, 2, none⟩ = some (.slice none 0 0))
    ((first | exact ⟨q0, q1, q2⟩ | exact ⟨cell_ext hdr q0, cell_ext hdr q1, cell_ext hdr q2⟩ | exact ⟨cell_ext (ext_trans hdr (ext_alloc _ _)) q0, cell_ext (ext_trans hdr (ext_alloc _ _)) q1, cell_ext (ext_trans hdr (ext_alloc _ _)) q2⟩ | exact ⟨cell_ext (ext_trans hdr (ext_trans (ext_alloc _ _) (ext_alloc _ _))) q0, cell_ext (ext_trans hdr (ext_trans (ext_alloc _ _) (ext_alloc _ _))) q1, cell_ext (ext_trans hdr (ext_trans (ext_alloc _ _) (ext_alloc _ _))) q2⟩ | exact ⟨cell_ext (ext_trans (ext_alloc _ _) (ext_drewN _ 1)) q0, cell_ext (ext_trans (ext_alloc _ _) (ext_drewN _ 1)) q1, cell_ext (ext_trans (ext_alloc _ _) (ext_drewN _ 1)) q2⟩ | exact ⟨cell_ext (ext_trans (ext_alloc _ _) (ext_trans (ext_alloc _ _) (ext_drewN _ 1))) q0, cell_ext (ext_trans (ext_alloc _ _) (ext_trans (ext_alloc _ _) (ext_drewN _ 1))) q1, cell_ext (ext_trans (ext_alloc _ _) (ext_trans (ext_alloc _ _) (ext_drewN _ 1))) q2⟩))
    (fail)
  go_wp2_with fail
  go_ret2
  refine ⟨⟨_, rfl, _, rfl, ?_⟩, ?_⟩
  · have bn := Blk.new (Wf.alloc (.cells #[] 3)) 108 [.string ⟨#[97]⟩, .slice none 0 0, .slice none 0 0, .pointer (some ⟨Kc, 0, none⟩), .string ⟨#[97]⟩, .int .i64 5, .int .i64 5, .slice none 0 0, .slice (some ⟨Wf.heap.size, 0, none⟩) 0 0]
    have hs : (Wf.alloc (.cells #[] 3)).heap.size = Wf.heap.size + 1 := Array.size_push ..
    rw [hs] at bn
    exact cell_ext (ext_drewN _ 1) (bn.cell 4 rfl)
  · exact ext_trans HBf.out (ext_trans (ext_alloc _ _) (ext_trans (ext_alloc _ _) (ext_drewN _ 1)))
end Go.Proofs.YtjfiodknjchngaaGreatDoor.Cf
namespace Go.Proofs.YtjfiodknjchngaaGreatDoor.Cf
open Go.RowKit Mem Nest Thm LawT Val App

theorem stage_a (v : Value) (w : World) (h : CaseA w v) : Calls Tryz.prog 15 #[v] w fun e w' => e = .returned (.string ⟨#[97]⟩) ∧ w = w' := by
  obtain ⟨b, rfl, h⟩ := h
  go_enter Tryz.func15, Tryz.ntmps15
  go_wp2_with fail
  go_ret
  exact ⟨rfl, rfl⟩
theorem opens_any (w : World) : Calls Tryz.prog 5 #[] w fun e w' => e = .returned (.bool true) ∧ Below w.heap.size w w' := by
  have HX := Lib.hid (open_a w)
  unfold planV at HX
  go_enter Tryz.func5, Tryz.ntmps5
  go_wp2_with fail
  refine HX.out.mono ?_
  rintro e w1 ⟨⟨v, rfl, hv⟩, hb⟩
  have HV := Lib.hid hv
  have HB := Lib.hid hb
  obtain ⟨b, rfl, _⟩ := hv
  clear hb HX
  go_wp2_with fail
  refine (stage_a _ _ HV.out).mono ?_
  rintro e w2 ⟨rfl, rfl⟩
  go_wp2_with fail
  go_ret
  exact ⟨rfl, HB.out⟩
end Go.Proofs.YtjfiodknjchngaaGreatDoor.Cf

/- Cases: the document's plan in memory: fewMoves, the program's plan of it, its stages. Cases: the stages of the document's plan, and the program's plan of it. -/
import Derived.Test.YtjfiodknjchngaaGreatDoorCeO
import Derived.StillTailTactics
import Derived.BigQuiet
import Derived.Deep.RegionLaw
import Derived.Deep.AppendLies
namespace Go.Proofs.YtjfiodknjchngaaGreatDoor.Ce
open Go.RowKit Mem Nest Srs Cf Fk Msi CdP CdM Err Solve Sol App

/-- a plan of the document's among the arguments -/
structure PIn (w : World) (b o : Nat) (st : List UInt8) (fin : List (List UInt8)) (ms : List Mv) (FA : Option Addr) (fc : Nat) (MA : Option Addr) (mc : Nat) : Prop where
  c0 : w.cell? ⟨b, o, none⟩ = some (.string ⟨st.toArray⟩)
  c1 : w.cell? ⟨b, o + 1, none⟩ = some (.slice FA fin.length fc)
  c2 : w.cell? ⟨b, o + 2, none⟩ = some (.slice MA ms.length mc)
  f : Rd w FA (Srs.strs fin)
  m : Rd w MA (ms.flatMap mvCells)
  fnil : FA = none → fc = 0
  fl : fin.length ≤ 9223372036854775807
  ml : ms.length ≤ 9223372036854775807
theorem PIn.ext {w w' : World} {b o : Nat} {st : List UInt8} {fin : List (List UInt8)} {ms : List Mv} {FA : Option Addr} {fc : Nat} {MA : Option Addr} {mc : Nat} (h : PIn w b o st fin ms FA fc MA mc) (hb : Below w.heap.size w w') : PIn w' b o st fin ms FA fc MA mc :=
  ⟨cell_ext hb h.c0, cell_ext hb h.c1, cell_ext hb h.c2, h.f.ext hb, h.m.ext hb, h.fnil, h.fl, h.ml⟩
def FewPost (fin : List (List UInt8)) (ms : List Mv) (w : World) (e : Ending) (w' : World) : Prop := ∃ q : Bool, e = .returned (.bool q) ∧ (q = true → ms.length ≤ 125 ∧ fin.length ≤ 125) ∧ Below w.heap.size w w'
set_option maxRecDepth 100000 in
set_option maxHeartbeats 8000000 in
theorem cfew (b o : Nat) (st : List UInt8) (fin : List (List UInt8)) (ms : List Mv) (FA : Option Addr) (fc : Nat) (MA : Option Addr) (mc : Nat) (w : World) (h : PIn w b o st fin ms FA fc MA mc) :
    Calls Tryz.prog 6 #[.pointer (some ⟨b, o, none⟩)] w (FewPost fin ms w) := by
  have H := Lib.hid h
  clear h
  go_enter Tryz.func6, Tryz.ntmps6
  go_wp2_with fail
  go_loopw [3, 4] (fun s3 s4 wr => ∃ (n : Int) (k : Nat), s3 = .int .i64 n ∧ s4 = .int .i64 k ∧ k ≤ ms.length ∧ Hid (Below w.heap.size w wr)) (fun _ s4 _ => ms.length - (intOf s4).toNat)
  case atStart => exact ⟨0, 0, rfl, rfl, Nat.zero_le _, Below.refl _ _⟩
  case round =>
    obtain ⟨n, k, rfl, rfl, hk, HB⟩ := hrel
    have HP := Lib.hid (H.out.ext HB.out)
    have p1 := HP.out.c1
    have p2 := HP.out.c2
    have hml : (ms.length : Int) ≤ 9223372036854775807 := by have := H.out.ml; omega
    have hfl : (fin.length : Int) ≤ 9223372036854775807 := by have := H.out.fl; omega
    by_cases hlt : k < ms.length
    · have hcl : (k : Int) < (ms.length : Int) := by omega
      obtain ⟨bb, oo, e0, hx⟩ := mv_at HP.out.m hlt
      subst e0
      generalize ms[k] = x at hx
      obtain ⟨xn, xf, xt, xw, x1, x2, x3, x4⟩ := x
      obtain ⟨c0, c1, c2, c3, c4, c5, c6, c7⟩ := hx
      simp only at c0 c1 c2 c3 c4 c5 c6 c7
      go_wp2_with fail
      go_quiet (fail)
      have HBn := Lib.hid (ext_trans HB.out (ext_drewN wr nq))
      obtain ⟨wd, hwd⟩ : ∃ wd, wd = wr.drewN nq := ⟨_, rfl⟩
      have hb := ext_drewN wr nq
      rw [← hwd] at HBn hb ⊢
      have p1 := cell_ext hb p1
      have p2 := cell_ext hb p2
      have c4 := cell_ext hb c4
      have c5 := cell_ext hb c5
      clear hwd hb
      clear c0 c1 c2 c3 c6 c7
      generalize wrap64 (wrap64 (wrap64 (wrap64 (n + (xn.length : Int)) + (xf.length : Int)) + (xt.length : Int)) + (xw.length : Int)) = n2
      by_cases g1 : x2 = 1
      · subst g1
        by_cases g2 : 1500 < x1
        · by_cases g3 : x1 ≤ 100000
          · go_wp2_with fail
            go_ret
            exact ⟨false, rfl, (fun h => by cases h), HBn.out⟩
          · go_wp2_with fail
            go_roundw
            case rel => exact ⟨n2, k + 1, rfl, by go_num, by omega, HBn.out⟩
            case measure => show ms.length - (k + 1) < ms.length - k; omega
        · go_wp2_with fail
          go_roundw
          case rel => exact ⟨n2, k + 1, rfl, by go_num, by omega, HBn.out⟩
          case measure => show ms.length - (k + 1) < ms.length - k; omega
      · have g1' : (x2 == 1) = false := by simp [g1]
        clear g1
        go_wp2_with fail
        go_roundw
        case rel => exact ⟨n2, k + 1, rfl, by go_num, by omega, HBn.out⟩
        case measure => show ms.length - (k + 1) < ms.length - k; omega
    · have hcl : ¬ (k : Int) < (ms.length : Int) := by omega
      by_cases g1 : ms.length ≤ 125
      · have g1' : (ms.length : Int) ≤ 125 := by omega
        by_cases g2 : fin.length ≤ 125
        · have g2' : (fin.length : Int) ≤ 125 := by omega
          have HG := Lib.hid (And.intro g1 g2)
          clear g1 g2 hlt hk
          by_cases g3 : n ≤ 6000
          · go_wp2_with fail
            go_ret
            exact ⟨true, rfl, fun _ => HG.out, HB.out⟩
          · go_wp2_with fail
            go_ret
            exact ⟨false, rfl, (fun h => by cases h), HB.out⟩
        · have g2' : ¬ (fin.length : Int) ≤ 125 := by omega
          clear g1 g2 hlt hk
          go_wp2_with fail
          go_ret
          exact ⟨false, rfl, (fun h => by cases h), HB.out⟩
      · have g1' : ¬ (ms.length : Int) ≤ 125 := by omega
        clear g1 hlt hk
        go_wp2_with fail
        go_ret
        exact ⟨false, rfl, (fun h => by cases h), HB.out⟩
end Go.Proofs.YtjfiodknjchngaaGreatDoor.Ce
namespace Go.Proofs.YtjfiodknjchngaaGreatDoor.Ce
open Go.RowKit Mem Nest Srs Cf Fk Msi CdP CdM Err Solve Sol App

/-- each once, as they come -/
def dd (l : List (List UInt8)) : List (List UInt8) := l.foldl (fun a x => if a.contains x then a else a ++ [x]) []
theorem dd_app (l : List (List UInt8)) (x : List UInt8) : dd (l ++ [x]) = if (dd l).contains x then dd l else dd l ++ [x] := by
  unfold dd
  rw [List.foldl_append]
  rfl
theorem dd_mem (l : List (List UInt8)) : ∀ x, x ∈ dd l ↔ x ∈ l := by
  intro x
  unfold dd
  have h : ∀ (l a : List (List UInt8)), x ∈ l.foldl (fun a x => if a.contains x then a else a ++ [x]) a ↔ x ∈ a ∨ x ∈ l := by
    intro l
    induction l with
    | nil => intro a; simp
    | cons y l ih =>
      intro a
      rw [List.foldl_cons, ih]
      by_cases c : a.contains y = true
      · rw [if_pos c]
        have := List.contains_iff_mem.1 c
        constructor
        · rintro (h | h)
          · exact .inl h
          · exact .inr (List.mem_cons_of_mem _ h)
        · rintro (h | h)
          · exact .inl h
          · rcases List.mem_cons.1 h with e | h
            · exact .inl (e ▸ this)
            · exact .inr h
      · rw [if_neg c]
        rw [List.mem_append, List.mem_singleton, List.mem_cons]
        constructor
        · rintro ((h | h) | h)
          · exact .inl h
          · exact .inr (.inl h)
          · exact .inr (.inr h)
        · rintro (h | h | h)
          · exact .inl (.inl h)
          · exact .inl (.inr h)
          · exact .inr h
  simpa using h l []
theorem dd_len (l : List (List UInt8)) : (dd l).length ≤ l.length := by
  unfold dd
  have h : ∀ (l a : List (List UInt8)), (l.foldl (fun a x => if a.contains x then a else a ++ [x]) a).length ≤ a.length + l.length := by
    intro l
    induction l with
    | nil => intro a; simp
    | cons y l ih =>
      intro a
      rw [List.foldl_cons]
      refine Nat.le_trans (ih _) ?_
      by_cases c : a.contains y = true
      · rw [if_pos c]; simp
      · rw [if_neg c]; simp; omega
  simpa using h l []
set_option maxRecDepth 100000 in
set_option maxHeartbeats 2000000 in
theorem innames_any (l : List (List UInt8)) (hl : l.length ≤ 100000) (A : Option Addr) (c : Nat) (d : List UInt8) (w : World) (hr : Rd w A (Srs.strs l)) :
    Calls Tryz.prog 40 #[.slice A l.length c, .string ⟨d.toArray⟩] w fun e w' => e = .returned (.bool (l.contains d)) ∧ w = w' := by
  obtain ⟨q, hq⟩ : ∃ q, q = l.contains d := ⟨_, rfl⟩
  rw [← hq]
  have HQ := Lib.hid hq
  have HR := Lib.hid hr
  clear hr hq
  go_enter Tryz.func40, Tryz.ntmps40
  go_wp2_with fail
  go_loopw [5] (fun i wr => ∃ k : Nat, i = .int .i64 k ∧ k ≤ l.length ∧ wr = w ∧ Hid ((l.take k).contains d = false)) (fun i _ => l.length - (intOf i).toNat)
  case atStart => exact ⟨0, rfl, Nat.zero_le _, rfl, by show _ = _; simp⟩
  case round =>
    obtain ⟨k, rfl, hk, rfl, HN⟩ := hrel
    by_cases hlt : k < l.length
    · have hcl : (k : Int) < (l.length : Int) := by omega
      have HT := Lib.hid (show l.take (k + 1) = l.take k ++ [l[k]] from List.take_succ_eq_append_getElem hlt)
      have HM := Lib.hid (List.getElem_mem hlt)
      obtain ⟨b, o, rfl, y0⟩ := str_row HR.out hlt
      generalize l[k] = x at *
      by_cases hx : x = d
      · have HY := Lib.hid (show q = true from by rw [HQ.out, List.contains_iff_mem]; exact hx ▸ HM.out)
        subst hx
        go_wp2_with fail
        go_ret
        exact ⟨by rw [HY.out]; rfl, rfl⟩
      · have hx' : (x == d) = false := by simp [hx]
        have HN2 := Lib.hid (show (l.take (k + 1)).contains d = false from by
          have h1 := HN.out
          rw [HT.out]
          simp only [List.contains_eq_mem, List.mem_append, List.mem_singleton, decide_eq_false_iff_not, not_or] at h1 ⊢
          exact ⟨h1, fun e => hx e.symm⟩)
        clear hx
        go_wp2_with fail
        go_roundw
        case rel => exact ⟨k + 1, by go_num, by omega, by trivial, HN2.out⟩
        case measure => show l.length - (k + 1) < l.length - k; omega
    · have hcl : ¬ (k : Int) < (l.length : Int) := by omega
      have HN2 := Lib.hid (show q = false from by have h1 := HN.out; rw [List.take_of_length_le (by omega)] at h1; rw [HQ.out]; exact h1)
      go_wp2_with fail
      go_ret
      exact ⟨by rw [HN2.out]; rfl, rfl⟩
theorem strsS_app (a b : List (List UInt8)) : Srs.strs (a ++ b) = Srs.strs a ++ Srs.strs b := by simp [Srs.strs]
/-- what Stages comes to -/
def StgPost (l : List (List UInt8)) (w : World) (e : Ending) (w' : World) : Prop := ∃ A c, e = .returned (.slice A l.length c) ∧ Rd w' A (Srs.strs l) ∧ Below w.heap.size w w'
set_option maxRecDepth 100000 in
set_option maxHeartbeats 8000000 in
theorem rstages (b o : Nat) (st : List UInt8) (fin : List (List UInt8)) (ms : List Mv) (hf : fin.length ≤ 1000) (hm : ms.length ≤ 1000) (FA : Option Addr) (fc : Nat) (MA : Option Addr) (mc : Nat) (w : World) (h : PIn w b o st fin ms FA fc MA mc) :
    Calls Tryz.prog 38 #[.pointer (some ⟨b, o, none⟩)] w (StgPost (dd (allF st fin ms)) w) := by
  have H := Lib.hid h
  have c0 := h.c0
  have c1 := h.c1
  have c1' := fun ob => cell_ext (ext_alloc w ob) c1
  obtain ⟨i0, hi, hz0, hz1, hz2⟩ := info_parts str_infoS
  have HI := Lib.hid hi
  have HZ0 := Lib.hid hz0
  have HZ1 := Lib.hid hz1
  have HZ2 := Lib.hid hz2
  clear h hi hz0 hz1 hz2
  go_enter Tryz.func38, Tryz.ntmps38
  have HO := Lib.hid (show (w.alloc (.cells #[.string ⟨st.toArray⟩] 9)).ownsRow w.heap.size 9 1 (.slice (some ⟨w.heap.size, 0, none⟩) 1 1) 1 (Srs.strs [st]) from ⟨rfl, .inr ⟨w.heap.size, 1, #[.string ⟨st.toArray⟩], rfl, Nat.le_refl _, heap_alloc_new w _, Nat.le_refl _, by unfold maxLen; omega, rfl, rfl⟩⟩)
  have HBo := Lib.hid (ext_alloc w (.cells #[.string ⟨st.toArray⟩] 9))
  go_wp2_with (at_builtin; go_loud (refine wpList_append_rd _ rfl _ _ _ rfl w.heap.size 9 i0 _ 1 16 Tryz.underlying39 HI.out HZ0.out HZ1.out HZ2.out rfl (by omega) _ 1 _ rfl HO.out FA fin.length fc (Srs.strs fin) rfl H.out.fnil (by simp [Srs.strs]) (H.out.f.ext HBo.out) (strs_one fin) (by simp only [maxLen]; omega) (by omega) HBo.out.size ?_; intro v1 w5 hown hg; have HO5 := Lib.hid hown; have HB5 := Lib.hid (HBo.out.grown hg HBo.out.size (fun g hg => by have := (HO.out.lt g hg).1; omega)); clear hown hg))
  clear c0 c1 c1'
  have hal := all_len st fin []
  go_loopw [3, 4] (fun s3 s4 wr => ∃ k : Nat, s4 = .int .i64 k ∧ k ≤ ms.length ∧ Hid (Below w.heap.size w wr) ∧ Hid (wr.ownsRow w.heap.size 9 1 s3 (allF st fin (ms.take k)).length (Srs.strs (allF st fin (ms.take k))))) (fun _ s4 _ => ms.length - (intOf s4).toNat)
  case atStart =>
    refine ⟨0, rfl, Nat.zero_le _, HB5.out, ?_⟩
    have ho := HO5.out
    show World.ownsRow _ _ _ _ _ _ _
    rw [List.take_zero, hal, show allF st fin [] = [st] ++ fin by simp [allF], strsS_app]
    simpa using ho
  case round =>
    clear HO5 HB5 HO HBo
    obtain ⟨k, rfl, hk, HB, HO2⟩ := hrel
    have HP := Lib.hid (H.out.ext HB.out)
    have p2 := HP.out.c2
    have hb0 := cell_lt H.out.c2
    simp only at hb0
    by_cases hlt : k < ms.length
    · have hcl : (k : Int) < (ms.length : Int) := by omega
      have hlen := all_len st fin (ms.take k)
      rw [List.length_take, Nat.min_eq_left (Nat.le_of_lt hlt)] at hlen
      have HTK := Lib.hid (all_take (st := st) (fin := fin) hlt)
      obtain ⟨bb, oo, e0, hx0⟩ := mv_at H.out.m hlt
      have hb1 := cell_lt hx0.c1
      simp only at hb1
      obtain ⟨bb2, oo2, e1, hx⟩ := mv_at HP.out.m hlt
      rw [e0] at e1
      cases e1
      subst e0
      generalize allF st fin (ms.take k) = R at HO2 HTK hlen
      generalize ms[k] = x at hx HTK
      have c1 := hx.c1
      have c2 := hx.c2
      have ag0 : u3.ownBlock ≠ some b := fun hg => by have := (HO2.out.lt b hg).1; omega
      have ag1 : u3.ownBlock ≠ some bb := fun hg => by have := (HO2.out.lt bb hg).1; omega
      have hs0 := HB.out.size
      have hlb : R.length ≤ 4000 := by omega
      clear hx hx0 hlen
      go_wp2_with fail
      go_region_held3 (fun w' => w'.cell? ⟨b, o + 2, none⟩ = some (.slice (some ⟨bb, oo, none⟩) ms.length mc) ∧ w'.cell? ⟨bb, oo + k * 8 + 1, none⟩ = some (.string ⟨x.frm.toArray⟩) ∧ w'.cell? ⟨bb, oo + k * 8 + 2, none⟩ = some (.string ⟨x.to_.toArray⟩))
        ((first | exact ⟨p2, c1, c2⟩ | exact ⟨cell_ext (ext_alloc _ _) p2, cell_ext (ext_alloc _ _) c1, cell_ext (ext_alloc _ _) c2⟩ | exact ⟨a1, a2, a3⟩))
        ((refine step_append_lies _ (by rfl) _ _ _ (by rfl) w.heap.size 9 i0 _ 1 16 Tryz.underlying39 HI.out HZ0.out HZ1.out HZ2.out rfl (by omega) u3 R.length _ (by rfl) ((World.ownsRow.alloc HO2.out _).drew)
            ⟨wr.heap.size, 0, none⟩ 2 2 [.string ⟨x.frm.toArray⟩, .string ⟨x.to_.toArray⟩] (by rfl) (by rfl) (World.news_of_block (cs := #[.string ⟨x.frm.toArray⟩, .string ⟨x.to_.toArray⟩]) (t := 9) (fr := (0, 0)) (heap_alloc_new wr _)) (by simp [Value.oneCell'])
            (by omega) (by simp only [maxLen]; omega) (by omega) (by simp; omega) (wr.heap.size + 1) (by simp) ?_; intro gg cap w1 hown1 hgrow hat hlt2
          have a1 := hgrow.cell (cell_ext (ext_trans (ext_alloc _ _) (ext_drewN _ 1)) p2) (fun e => ag0 e.symm)
          have a2 := hgrow.cell (cell_ext (ext_trans (ext_alloc _ _) (ext_drewN _ 1)) c1) (fun e => ag1 e.symm)
          have a3 := hgrow.cell (cell_ext (ext_trans (ext_alloc _ _) (ext_drewN _ 1)) c2) (fun e => ag1 e.symm)))
      have HO1 := Lib.hid hown1
      have HB1 := Lib.hid (grown_ext (HB.out.trans ((ext_trans (ext_alloc wr _) (ext_drewN _ 1)).mono HB.out.size)) rfl ((World.ownsRow.alloc HO2.out _).drew) hgrow)
      clear hown1 hgrow hat a1 a2 a3 p2 c1 c2 ag0 ag1
      go_wp2_with fail
      go_roundw
      case rel =>
        refine ⟨k + 1, by go_num, by omega, HB1.out, ?_⟩
        have ho := HO1.out
        show World.ownsRow _ _ _ _ _ _ _
        rw [HTK.out, strsS_app]
        simpa [Srs.strs, encStr] using ho
      case measure => show ms.length - (k + 1) < ms.length - k; omega
    · have hcl : ¬ (k : Int) < (ms.length : Int) := by omega
      have HO3 := Lib.hid (show wr.ownsRow w.heap.size 9 1 u3 (allF st fin ms).length (Srs.strs (allF st fin ms)) from by have h := HO2.out; rw [List.take_of_length_le (by omega)] at h; exact h)
      have hlen := all_len st fin ms
      have hlb : (allF st fin ms).length ≤ 4000 := by omega
      obtain ⟨l, hl⟩ : ∃ l, l = allF st fin ms := ⟨_, rfl⟩
      rw [← hl] at HO3 hlb
      have HLq := Lib.hid hl
      clear hlen hl HO2
      obtain ⟨LA, lc, rfl, _, _⟩ := own_slice HO3.out
      obtain ⟨wo, rfl⟩ : ∃ wo, wo = wr := ⟨_, rfl⟩
      go_wp2_with fail
      go_loopw [5, 6] (fun s5 s6 wr => ∃ j : Nat, s6 = .int .i64 j ∧ j ≤ l.length ∧ Hid (Below wo.heap.size wo wr) ∧ Hid (wr.ownsRow wo.heap.size 9 1 s5 (dd (l.take j)).length (Srs.strs (dd (l.take j))))) (fun _ s6 _ => l.length - (intOf s6).toNat)
      case atStart => exact ⟨0, rfl, Nat.zero_le _, Below.refl _ _, World.ownsRow_nil _ _ _ _⟩
      case round =>
        obtain ⟨j, rfl, hj, HBj, HOj⟩ := hrel
        have HRl := Lib.hid ((Rd.of_own HO3.out).ext HBj.out)
        obtain ⟨VA, vc, rfl, _, _⟩ := own_slice HOj.out
        by_cases hlt : j < l.length
        · have hcl : (j : Int) < (l.length : Int) := by omega
          have HT := Lib.hid (show dd (l.take (j + 1)) = if (dd (l.take j)).contains l[j] then dd (l.take j) else dd (l.take j) ++ [l[j]] from by rw [List.take_succ_eq_append_getElem hlt, dd_app])
          have hdl : (dd (l.take j)).length ≤ 4000 := by have := dd_len (l.take j); simp at this; omega
          obtain ⟨bb, oo, rfl, y0⟩ := str_row HRl.out hlt
          generalize l[j] = x at y0 HT
          generalize dd (l.take j) = R at HOj HT hdl
          have HIn := Lib.hid (innames_any R (by omega) VA vc x wr (Rd.of_own HOj.out))
          obtain ⟨q, hq⟩ : ∃ q, q = R.contains x := ⟨_, rfl⟩
          rw [← hq] at HIn HT
          clear hq
          cases q with
          | true =>
            go_wp2_with fail
            refine HIn.out.mono ?_
            rintro e w' ⟨rfl, rfl⟩
            go_wp2_with fail
            go_roundw
            case rel => exact ⟨j + 1, by go_num, by omega, HBj.out, by show World.ownsRow _ _ _ _ _ _ _; rw [HT.out]; exact HOj.out⟩
            case measure => show l.length - (j + 1) < l.length - j; omega
          | false =>
            go_wp2_with (first
              | (refine HIn.out.mono ?_; rintro e w' ⟨rfl, rfl⟩)
              | (at_builtin; refine wpList_append_own _ rfl _ _ _ rfl wo.heap.size 9 i0 _ 1 16 Tryz.underlying39 HI.out HZ0.out HZ1.out HZ2.out rfl (by omega) (.slice VA R.length vc) R.length _ rfl (World.ownsRow.alloc HOj.out _) ⟨wr.heap.size, 0, none⟩ 1 1 [.string ⟨x.toArray⟩] rfl rfl (new_cells wr [.string ⟨x.toArray⟩] _ _ rfl) (by intro v hv; simp only [List.mem_singleton] at hv; subst hv; rfl) (by simp only [maxLen]; omega) (by omega) (by have := HBj.out.size; simp; omega) ?_; intro v2 w2 hown1 hg1 _; have HO4 := Lib.hid hown1; have HB4 := Lib.hid (grown_ext (HBj.out.trans ((ext_alloc wr _).mono HBj.out.size)) rfl (World.ownsRow.alloc HOj.out _) hg1); clear hown1 hg1))
            go_roundw
            case rel => exact ⟨j + 1, by go_num, by omega, HB4.out, by show World.ownsRow _ _ _ _ _ _ _; rw [HT.out]; have h := HO4.out; rw [if_neg (by simp), strsS_app]; simpa [Srs.strs, encStr] using h⟩
            case measure => show l.length - (j + 1) < l.length - j; omega
        · have hcl : ¬ (j : Int) < (l.length : Int) := by omega
          have HO4 := Lib.hid (show wr.ownsRow wo.heap.size 9 1 (.slice VA (dd (l.take j)).length vc) (dd l).length (Srs.strs (dd l)) from by have h := HOj.out; rw [List.take_of_length_le (by omega)] at h ⊢; exact h)
          have HLe := Lib.hid (show (dd (l.take j)).length = (dd l).length by rw [List.take_of_length_le (by omega)])
          have HBe := Lib.hid (ext_trans HB.out HBj.out)
          rw [HLe.out] at HO4 ⊢
          go_wp2_with fail
          go_ret
          have e := HLq.out
          subst e
          exact ⟨VA, vc, rfl, Rd.of_own HO4.out, HBe.out⟩
theorem blk_oth {w : World} {b K : Nat} {T : TypeId} {cs : List Value} (h : Blk w b T cs) (hK : b ≠ K) (j : Nat) (v : Value) : Blk (w.setCell ⟨K, j, none⟩ v) b T cs := by
  unfold Blk at h ⊢
  rw [← h]
  simp [World.setCell, Array.getElem?_modify, Ne.symm hK]
theorem blk_fa {w w' : World} {b : Nat} {T : TypeId} {cs : List Value} {row : Option Nat} (h : Blk w b T cs) (hg : w.grownBy w' row) (hne : row ≠ some b) : Blk w' b T cs := (hg.block b h.lt (fun e => hne e.symm)).trans h
theorem own_nilc {w : World} {base : Nat} {e : TypeId} {size n m c : Nat} {A : Option Addr} {xs : List Value} (h : w.ownsRow base e size (.slice A m c) n xs) (hA : A = none) : c = 0 := by
  subst hA
  rcases h.2 with ⟨h1, _⟩ | ⟨g, cap, cur, h1, _⟩
  · simp only [Value.slice.injEq] at h1
    exact h1.2.2
  · cases h1
theorem own_cap {w : World} {base : Nat} {e : TypeId} {size n m c : Nat} {A : Option Addr} {xs : List Value} (h : w.ownsRow base e size (.slice A m c) n xs) : n ≤ c := by
  obtain ⟨_, _, e1, h1, _⟩ := own_slice h
  simp only [Value.slice.injEq] at e1
  omega
def PlanPost (st : List UInt8) (fin : List (List UInt8)) (ms : List Mv) (w : World) (e : Ending) (w' : World) : Prop :=
  ∃ (FA : Option Addr) (fc : Nat) (MA : Option Addr) (mc : Nat), e = .returned (planW st fin ms FA fc MA mc) ∧ Rd w' FA (Srs.strs fin) ∧ Rd w' MA (ms.flatMap mvCells) ∧ (FA = none → fc = 0) ∧ ms.length ≤ mc ∧ Below w.heap.size w w'
set_option maxRecDepth 100000 in
set_option maxHeartbeats 8000000 in
theorem plan_of (b o : Nat) (st : List UInt8) (fin : List (List UInt8)) (ms : List Mv) (hf : fin.length ≤ 1000) (hm : ms.length ≤ 1000) (FA : Option Addr) (fc : Nat) (MA : Option Addr) (mc : Nat) (w : World) (h : PIn w b o st fin ms FA fc MA mc) :
    Calls Tryz.prog 9 #[.pointer (some ⟨b, o, none⟩)] w (PlanPost st fin ms w) := by
  have H := Lib.hid h
  have c0 := h.c0
  have c0' := fun ob => cell_ext (ext_alloc w ob) c0
  have x1 := ext_alloc w (.cells #[.string ⟨#[]⟩, .slice none 0 0, .slice none 0 0] 42)
  obtain ⟨Va, hVa⟩ : ∃ Va, Va = w.alloc (.cells #[.string ⟨#[]⟩, .slice none 0 0, .slice none 0 0] 42) := ⟨_, rfl⟩
  have hba := Blk.new w 42 [.string ⟨#[]⟩, .slice none 0 0, .slice none 0 0]
  rw [← hVa] at x1 hba
  have x2 := ext_alloc Va (.cells #[.string ⟨st.toArray⟩, .slice none 0 0, .slice none 0 0] 42)
  have hbb := Blk.new Va 42 [.string ⟨st.toArray⟩, .slice none 0 0, .slice none 0 0]
  obtain ⟨V, hV⟩ : ∃ V, V = Va.alloc (.cells #[.string ⟨st.toArray⟩, .slice none 0 0, .slice none 0 0] 42) := ⟨_, rfl⟩
  rw [← hV] at x2 hbb
  have hsz : Va.heap.size = w.heap.size + 1 := by rw [hVa]; simp
  rw [hsz] at hbb
  have HX := Lib.hid (ext_trans x1 x2)
  have HZ := Lib.hid (blk_ext2 hba x2)
  have HOb := Lib.hid hbb
  obtain ⟨i0, hi, hz0, hz1, hz2⟩ := info_parts str_infoS
  have HI := Lib.hid hi
  have HI0 := Lib.hid hz0
  have HI1 := Lib.hid hz1
  have HI2 := Lib.hid hz2
  clear hi hz0 hz1 hz2
  obtain ⟨j0, hi, hz0, hz1, hz2⟩ := info_parts mv_infoM
  have HJ := Lib.hid hi
  have HJ0 := Lib.hid hz0
  have HJ1 := Lib.hid hz1
  have HJ2 := Lib.hid hz2
  clear h hi hz0 hz1 hz2 x1 x2 hba hbb hsz
  go_enter Tryz.func9, Tryz.ntmps9
  go_upto_region 2 with fail
  rw [← hVa, ← hV]
  clear hVa hV c0 c0'
  have k1 := HOb.out.cell 1 rfl
  have c1 := cell_ext HX.out H.out.c1
  have hsv : w.heap.size + 2 ≤ V.heap.size := HOb.out.lt
  go_still_tail 6, (by kernel_rfl)
  change wpList _ _ _ _ _ V.drew
  go_wp2_with (at_builtin; refine wpList_append_rd _ rfl _ _ _ rfl V.heap.size 9 i0 _ 1 16 Tryz.underlying39 HI.out HI0.out HI1.out HI2.out rfl (by omega) (.slice none 0 0) 0 [] rfl (World.ownsRow_nil _ _ _ _) FA fin.length fc (Srs.strs fin) rfl H.out.fnil (by simp [Srs.strs]) ((H.out.f.ext HX.out).ext (ext_drewN V 1)) (strs_one fin) (by simp only [maxLen]; omega) (by omega) (by simp) ?_; intro v1 w1 hown1 hg1; obtain ⟨F2, fc2, rfl, _, _⟩ := own_slice hown1; have HO1 := Lib.hid hown1; have HBw := Lib.hid (ext_trans (ext_drewN V 1) (LawT.ext_grown_nil hg1)); have HZ1 := Lib.hid (blk_ext2 HZ.out HBw.out); have HB1 := Lib.hid (blk_ext2 HOb.out HBw.out); have z1 := HB1.out.cell 1 rfl; have z2 := HB1.out.free 1; clear hown1 hg1)
  clear k1 c1 z1 z2
  have HFn := Lib.hid (show F2 = none → fc2 = 0 from fun h => own_nilc HO1.out h)
  have HRf := Lib.hid (show RdK w1 9 F2 (Srs.strs fin) from by have h := RdK.of_own HO1.out; simpa using h)
  have HBx := Lib.hid (ext_trans HX.out HBw.out)
  have hs1 : w.heap.size + 2 ≤ w1.heap.size := Nat.le_trans hsv HBw.out.size
  go_loopw [4] (fun t4 wr => ∃ (k : Nat) (vM : Value), t4 = .int .i64 k ∧ k ≤ ms.length ∧ Hid (Below w.heap.size w wr) ∧ Hid (Blk wr w.heap.size 42 [.string ⟨#[]⟩, .slice none 0 0, .slice none 0 0]) ∧ Hid (Blk wr (w.heap.size + 1) 42 [.string ⟨st.toArray⟩, .slice F2 fin.length fc2, vM]) ∧ Hid (RdK wr 9 F2 (Srs.strs fin)) ∧
    Hid (wr.ownsRow (w.heap.size + 2) 106 8 vM k ((ms.take k).flatMap mvCells))) (fun t4 _ => ms.length - (intOf t4).toNat)
  case atStart =>
    refine ⟨0, _, rfl, Nat.zero_le _, ?_, blk_oth HZ1.out (by omega) 1 _, ?_, rdk_set HRf.out HB1.out (by decide) 1 _, World.ownsRow_nil _ _ _ _⟩
    · exact Below.setCell (p := ⟨w.heap.size + 1, 1, none⟩) HBx.out (by simp) _
    · have h := HB1.out.set 1 (.slice F2 (0 + fin.length) fc2)
      show Blk _ _ _ _
      simpa using h
  case round =>
    clear HO1 HB1 HZ1 HBw HRf HBx HX HZ HOb
    obtain ⟨k, vM, rfl, hk, HB, HZ, HOb, HRf, HO⟩ := hrel
    have HP := Lib.hid (H.out.ext HB.out)
    have p2 := HP.out.c2
    have hsr := HOb.out.lt
    by_cases hlt : k < ms.length
    · have hcl : (k : Int) < (ms.length : Int) := by omega
      have HTK := Lib.hid (show ms.take (k + 1) = ms.take k ++ [ms[k]] from List.take_succ_eq_append_getElem hlt)
      obtain ⟨bb, oo, e0, hx⟩ := mv_at HP.out.m hlt
      subst e0
      generalize ms[k] = x at hx HTK
      obtain ⟨xn, xf, xt, xw, x1, x2, x3, x4⟩ := x
      obtain ⟨c0, c1, c2, c3, c4, c5, c6, c7⟩ := hx
      simp only at c0 c1 c2 c3 c4 c5 c6 c7
      have xa := ext_alloc wr (.cells #[.string ⟨xn.toArray⟩, .string ⟨xf.toArray⟩, .string ⟨xt.toArray⟩, .string ⟨xw.toArray⟩, .int .i64 x1, .int .i64 x2, .int .i64 x3, .int .i64 x4] 96)
      have ba := Blk.new wr 96 [.string ⟨xn.toArray⟩, .string ⟨xf.toArray⟩, .string ⟨xt.toArray⟩, .string ⟨xw.toArray⟩, .int .i64 x1, .int .i64 x2, .int .i64 x3, .int .i64 x4]
      obtain ⟨W1, hW1⟩ : ∃ W1, W1 = wr.alloc (.cells #[.string ⟨xn.toArray⟩, .string ⟨xf.toArray⟩, .string ⟨xt.toArray⟩, .string ⟨xw.toArray⟩, .int .i64 x1, .int .i64 x2, .int .i64 x3, .int .i64 x4] 96) := ⟨_, rfl⟩
      obtain ⟨R, hR⟩ : ∃ R, R = wr.heap.size := ⟨_, rfl⟩
      rw [← hW1] at xa ba
      rw [← hR] at ba
      have HO1 := Lib.hid (own_ext HO.out xa)
      have HZ1 := Lib.hid (blk_ext2 HZ.out xa)
      have HOb1 := Lib.hid (blk_ext2 HOb.out xa)
      have HRf1 := Lib.hid (HRf.out.ext xa)
      have HB1 := Lib.hid (ext_trans HB.out xa)
      have q2 := HOb1.out.cell 2 rfl
      have d0 := ba.cell 0 rfl
      have d1 := ba.cell 1 rfl
      have d2 := ba.cell 2 rfl
      have d3 := ba.cell 3 rfl
      have d4 := ba.cell 4 rfl
      have d5 := ba.cell 5 rfl
      have d6 := ba.cell 6 rfl
      have d7 := ba.cell 7 rfl
      have hs2 : w.heap.size + 2 ≤ W1.heap.size := by have := xa.size; omega
      clear xa ba HO HZ HOb HRf HB
      go_upto_region 7 with fail
      rw [← hW1, ← hR]
      clear hW1 hR c0 c1 c2 c3 c4 c5 c6 c7 p2
      go_wp2_with (at_builtin; refine wpList_append_own _ rfl _ _ _ rfl (w.heap.size + 2) 106 j0 _ 8 96 Tryz.underlying40 HJ.out HJ0.out HJ1.out HJ2.out rfl (by omega) vM k _ rfl (World.ownsRow.alloc HO1.out _) ⟨W1.heap.size, 0, none⟩ 1 1 [.string ⟨xn.toArray⟩, .string ⟨xf.toArray⟩, .string ⟨xt.toArray⟩, .string ⟨xw.toArray⟩, .int .i64 x1, .int .i64 x2, .int .i64 x3, .int .i64 x4] rfl rfl (new_cells W1 [.string ⟨xn.toArray⟩, .string ⟨xf.toArray⟩, .string ⟨xt.toArray⟩, .string ⟨xw.toArray⟩, .int .i64 x1, .int .i64 x2, .int .i64 x3, .int .i64 x4] _ _ rfl) (fun u hu => one_of (k := 8) rfl u hu) (by simp only [maxLen]; omega) (by omega) (by simp; omega) ?_; intro v2 w2 hown1 hg1 _; obtain ⟨A2, c2, rfl, _, _⟩ := own_slice hown1; have HOn := Lib.hid hown1; have HGn := Lib.hid hg1; have HOb2 := Lib.hid (blk_fa (blk_ext2 HOb1.out (ext_alloc W1 _)) hg1 (fun h => by have := (HO1.out.lt _ h).1; omega)); have y1 := HOb2.out.cell 2 rfl; have y2 := HOb2.out.free 2; clear hown1 hg1)
      have HZ2 := Lib.hid (blk_fa (blk_ext2 HZ1.out (ext_alloc W1 _)) HGn.out (fun h => by have := (HO1.out.lt _ h).1; omega))
      have HRf2 := Lib.hid ((HRf1.out.ext (ext_alloc W1 _)).grown HGn.out (Lib.ownsRow_kind (World.ownsRow.alloc HO1.out _)) (by decide))
      have HB2 := Lib.hid (Below.grown (ext_trans HB1.out (ext_alloc W1 _)) HGn.out (by simp; omega) (fun g hg => by have := (HO1.out.lt _ hg).1; omega))
      go_roundw
      case rel =>
        refine ⟨k + 1, _, by go_num, by omega, Below.setCell (p := ⟨w.heap.size + 1, 2, none⟩) HB2.out (by simp) _, blk_oth HZ2.out (by omega) 2 _, HOb2.out.set 2 _, rdk_set HRf2.out HOb2.out (by decide) 2 _, ?_⟩
        have ho := ownsRow_setCell_below HOn.out (a := ⟨w.heap.size + 1, 2, none⟩) (by simp) (.slice A2 (k + 1) c2)
        show World.ownsRow _ _ _ _ _ _ _
        rw [HTK.out, List.flatMap_append]
        simpa [mvCells] using ho
      case measure => show ms.length - (k + 1) < ms.length - k; omega
    · have hcl : ¬ (k : Int) < (ms.length : Int) := by omega
      obtain rfl : k = ms.length := by omega
      obtain ⟨A2, c2, rfl, _, _⟩ := own_slice HO.out
      have s0 := HOb.out.cell 0 rfl
      have s1 := HOb.out.cell 1 rfl
      have s2 := HOb.out.cell 2 rfl
      have z0 := HZ.out.cell 0 rfl
      have z1 := HZ.out.cell 1 rfl
      have z2 := HZ.out.cell 2 rfl
      have f0 := HZ.out.free 0
      have f1 := HZ.out.free 1
      have f2 := HZ.out.free 2
      have hE := Lib.hid (show ms.take ms.length = ms from List.take_length)
      go_wp2_with fail
      have t0 := (HZ.out.set 0 (.string ⟨st.toArray⟩)).cell 0 rfl
      have t1 := ((HZ.out.set 0 (.string ⟨st.toArray⟩)).set 1 (.slice F2 fin.length fc2)).cell 1 rfl
      have t2 := (((HZ.out.set 0 (.string ⟨st.toArray⟩)).set 1 (.slice F2 fin.length fc2)).set 2 (.slice A2 ms.length c2)).cell 2 rfl
      refine bodyPost_ret (v := .agg #[.string ⟨st.toArray⟩, .slice F2 fin.length fc2, .slice A2 ms.length c2]) (by simp [results, Tryz.results9, go_sem, t0, t1, t2]) rfl ⟨F2, fc2, A2, c2, rfl, ?_, ?_, HFn.out, own_cap HO.out, ?_⟩
      · exact (rdk_set (rdk_set (rdk_set HRf.out HZ.out (by decide) 0 _) (HZ.out.set 0 _) (by decide) 1 _) ((HZ.out.set 0 _).set 1 _) (by decide) 2 _).rd
      · have h1 := HO.out
        rw [hE.out] at h1
        have h2 := ownsRow_setCell_below h1 (a := ⟨w.heap.size, 0, none⟩) (by simp) (.string ⟨st.toArray⟩)
        have h3 := ownsRow_setCell_below h2 (a := ⟨w.heap.size, 1, none⟩) (by simp) (.slice F2 fin.length fc2)
        exact Rd.of_own (ownsRow_setCell_below h3 (a := ⟨w.heap.size, 2, none⟩) (by simp) (.slice A2 ms.length c2))
      · exact Below.setCell (p := ⟨w.heap.size, 2, none⟩) (Below.setCell (p := ⟨w.heap.size, 1, none⟩) (Below.setCell (p := ⟨w.heap.size, 0, none⟩) HB.out (by simp) _) (by simp) _) (by simp) _
end Go.Proofs.YtjfiodknjchngaaGreatDoor.Ce

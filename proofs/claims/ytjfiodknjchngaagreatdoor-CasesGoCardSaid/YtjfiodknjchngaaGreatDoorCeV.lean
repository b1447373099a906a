/- Cases: which plans are valid: what the program finds wrong. -/
import Derived.Test.YtjfiodknjchngaaGreatDoorCeR
import Derived.Test.YtjfiodknjchngaaGreatDoorDueP
namespace Go.Proofs.YtjfiodknjchngaaGreatDoor.Ce
open Go.RowKit Mem Nest Srs Cf Fk Msi CdP CdM Err

/-- the search at all stages -/
def ring (ms : List Mv) : Prop := ∃ v k, Rch (edge ms) k v v
def ranked (ms : List Mv) (all : List (List UInt8)) : Prop := ∃ L, Topo (edge ms) L ∧ (∀ v ∈ all, v ∈ L) ∧ ∀ v ∈ L, v ∈ all
theorem upto_mem (d : Array (List UInt8)) (x : List UInt8) : ∀ m, x ∈ Lib.compactUpTo d m ↔ ∃ j, j < m ∧ d[j]! = x
  | 0 => by simp [Lib.compactUpTo]
  | m + 1 => by
    have ih := upto_mem d x m
    rw [Lib.compactUpTo_succ, List.mem_append, ih]
    constructor
    · rintro (⟨j, hj, e⟩ | h)
      · exact ⟨j, by omega, e⟩
      · by_cases k : Lib.keeps d m = true
        · rw [if_pos k] at h
          exact ⟨m, by omega, (List.mem_singleton.1 h).symm⟩
        · rw [if_neg k] at h
          simp at h
    · rintro ⟨j, hj, e⟩
      by_cases c : j = m
      · subst c
        by_cases k : Lib.keeps d j = true
        · rw [if_pos k]
          exact .inr (by simp [e])
        · have k2 := k
          unfold Lib.keeps at k2
          simp only [decide_eq_true_eq, not_or, ne_eq, Decidable.not_not] at k2
          exact .inl ⟨j - 1, by omega, by rw [← k2.2]; exact e⟩
      · exact .inl ⟨j, by omega, e⟩
theorem compact_mem (zs : List (List UInt8)) (x : List UInt8) : x ∈ Lib.compact zs ↔ x ∈ zs := by
  unfold Lib.compact
  rw [upto_mem]
  constructor
  · rintro ⟨j, hj, e⟩
    have h : zs.toArray[j]! = zs[j] := by simp [hj]
    rw [← e, h]
    exact List.getElem_mem hj
  · intro h
    obtain ⟨j, hj, e⟩ := List.mem_iff_getElem.1 h
    exact ⟨j, hj, by simp [hj, e]⟩
theorem all_mem {st : List UInt8} {fin : List (List UInt8)} {ms : List Mv} {s : List UInt8} : s ∈ stagesF st fin ms ↔ s ∈ allF st fin ms := by
  unfold stagesF
  rw [compact_mem]
  unfold sortS
  exact List.mem_mergeSort
theorem all_ends (st : List UInt8) (fin : List (List UInt8)) (ms : List Mv) : ∀ m ∈ ms, m.frm ∈ stagesF st fin ms ∧ m.to_ ∈ stagesF st fin ms := fun m hm => by
  rw [all_mem, all_mem]
  unfold allF
  exact ⟨List.mem_append_right _ (List.mem_flatMap.2 ⟨m, hm, by simp⟩), List.mem_append_right _ (List.mem_flatMap.2 ⟨m, hm, by simp⟩)⟩
/-- the program's plan as one value -/
def planW (st : List UInt8) (fin : List (List UInt8)) (ms : List Mv) (FA : Option Addr) (fc : Nat) (MA : Option Addr) (mc : Nat) : Value := .agg #[.string ⟨st.toArray⟩, .slice FA fin.length fc, .slice MA ms.length mc]
set_option maxRecDepth 100000 in
set_option maxHeartbeats 4000000 in
theorem ring_all (st : List UInt8) (fin : List (List UInt8)) (ms : List Mv) (hms : ms.length ≤ 1000) (all : List (List UInt8)) (ha : all.length ≤ 1000) (hl : ∀ s ∈ all, s.length ≤ 9223372036854775807) (hall : ∀ m ∈ ms, m.frm ∈ all ∧ m.to_ ∈ all) (FA : Option Addr) (fc : Nat) (MA : Option Addr) (mc : Nat) (SA : Option Addr) (sc : Nat) (w : World)
    (hM : Rd w MA (ms.flatMap mvCells)) (hS : Rd w SA (Srs.strs all)) :
    Calls Tryz.prog 50 #[planW st fin ms FA fc MA mc, .slice SA all.length sc] w fun e w' => (e = .returned (.bool true) ∧ ring ms ∨ e = .returned (.bool false) ∧ ranked ms all) ∧ Below w.heap.size w w' := by
  unfold planW
  have hmm := @run_makeMap Tryz.prog
  obtain ⟨K, hK⟩ : ∃ K, K = w.heap.size := ⟨_, rfl⟩
  have x1 := ext_alloc w (.cells #[.string ⟨st.toArray⟩, .slice FA fin.length fc, .slice MA ms.length mc] 42)
  have p1 := (Blk.new w 42 [.string ⟨st.toArray⟩, .slice FA fin.length fc, .slice MA ms.length mc]).cell 2 rfl
  obtain ⟨W1, hW1⟩ : ∃ W1, W1 = w.alloc (.cells #[.string ⟨st.toArray⟩, .slice FA fin.length fc, .slice MA ms.length mc] 42) := ⟨_, rfl⟩
  have e1 : W1.heap.size = K + 1 := by rw [hW1, hK]; simp
  have p1 : W1.cell? ⟨K, 2, none⟩ = some (.slice MA ms.length mc) := by rw [hW1, hK]; exact p1
  rw [← hW1] at x1
  have x2 := ext_alloc W1 (.map #[] 0)
  have m2 := SI.made W1
  obtain ⟨W2, hW2⟩ : ∃ W2, W2 = W1.alloc (.map #[] 0) := ⟨_, rfl⟩
  have e2 : W2.heap.size = K + 1 + 1 := by rw [hW2, World.size_alloc, e1]
  rw [← hW2] at x2 m2
  rw [e1] at m2
  have x3 := ext_alloc W2 (.cells #[.map (some (K + 1))] 130)
  have t3 := (Blk.new W2 130 [.map (some (K + 1))]).cell 0 rfl
  obtain ⟨W3, hW3⟩ : ∃ W3, W3 = W2.alloc (.cells #[.map (some (K + 1))] 130) := ⟨_, rfl⟩
  have e3 : W3.heap.size = K + 1 + 1 + 1 := by rw [hW3, World.size_alloc, e2]
  have t3 : W3.cell? ⟨K + 1 + 1, 0, none⟩ = some (.map (some (K + 1))) := by rw [hW3, ← e2]; exact t3
  rw [← hW3] at x3
  have x4 := ext_alloc W3 (.cells #[.func (.func 81) #[] #[.pointer (some ⟨K + 1 + 1, 0, none⟩), .pointer (some ⟨K, 0, none⟩), .pointer (some ⟨K + 1 + 1 + 1, 0, none⟩)]] 109)
  have f4 := (Blk.new W3 109 [.func (.func 81) #[] #[.pointer (some ⟨K + 1 + 1, 0, none⟩), .pointer (some ⟨K, 0, none⟩), .pointer (some ⟨K + 1 + 1 + 1, 0, none⟩)]]).cell 0 rfl
  obtain ⟨W4, hW4⟩ : ∃ W4, W4 = W3.alloc (.cells #[.func (.func 81) #[] #[.pointer (some ⟨K + 1 + 1, 0, none⟩), .pointer (some ⟨K, 0, none⟩), .pointer (some ⟨K + 1 + 1 + 1, 0, none⟩)]] 109) := ⟨_, rfl⟩
  have f4 : W4.cell? ⟨K + 1 + 1 + 1, 0, none⟩ = some (.func (.func 81) #[] #[.pointer (some ⟨K + 1 + 1, 0, none⟩), .pointer (some ⟨K, 0, none⟩), .pointer (some ⟨K + 1 + 1 + 1, 0, none⟩)]) := by rw [hW4]; rw [e3] at f4; exact f4
  rw [← hW4] at x4
  have hx := ext_trans x1 (ext_trans x2 (ext_trans x3 x4))
  have HX := Lib.hid hx
  have HRg := Lib.hid (show RgM W4 ms (K + 1 + 1) (K + 1) K (K + 1 + 1 + 1) MA mc from ⟨cell_ext x4 t3, cell_ext x4 (cell_ext x3 (cell_ext x2 p1)), f4, hM.ext hx, by omega, by omega, by omega, fun hne a ha => by
    cases ms with
    | nil => exact absurd rfl hne
    | cons m l =>
      obtain ⟨b, o, e, hc⟩ := hM 0 _ rfl
      rw [e] at ha
      cases ha
      have h1 := cell_lt hc
      simp only at h1
      simp only
      omega⟩)
  have hI4 := ((m2.ext x3).ext x4)
  have HC := Lib.hid (idxs_has 81 (fun _ _ => by kernel_rfl) #[.pointer (some ⟨K + 1 + 1, 0, none⟩), .pointer (some ⟨K, 0, none⟩), .pointer (some ⟨K + 1 + 1 + 1, 0, none⟩)] all (by omega) SA sc
    (fun k w' => W4.grownBy w' (some (K + 1)) ∧ ∃ g L, Srch (edge ms) all g [] L ∧ (∀ s ∈ all.take k, s ∈ L) ∧ SI w' (K + 1) (2 * L.length) g) (fun _ w' => W4.grownBy w' (some (K + 1)) ∧ ring ms)
    (fun k w' h => rd_keep hS hx h.1 (by omega)) (fun k hk w' h => by
      obtain ⟨hg, g, L, hSr, hT, hI⟩ := h
      refine (ring1_any ms hms all ha hl hall (K + 1 + 1) (K + 1) K (K + 1 + 1 + 1) MA mc all.length [] L g all[k] w' hSr (fun v hv => by simp at hv) (List.getElem_mem hk) (by simp) (HRg.out.grown hg) (by simpa using hI)).mono ?_
      rintro e w2 (⟨rfl, hgr, hv⟩ | ⟨rfl, hgr, g2, L2, hS2, hin, hLL, hI2⟩)
      · exact .inl ⟨rfl, grow_trans hg hgr, hv⟩
      · refine .inr ⟨rfl, grow_trans hg hgr, g2, L2, hS2, fun s hs => ?_, by simpa using hI2⟩
        rw [List.take_succ_eq_append_getElem hk] at hs
        rcases List.mem_append.1 hs with hs | hs
        · exact hLL _ (hT s hs)
        · obtain rfl := List.mem_singleton.1 hs
          exact hin) W4 ⟨grow_refl _ _, fun _ => none, [], ⟨fun v => by simp, by simp, fun v hv => by simp at hv, trivial⟩, fun s hs => by simp at hs, by simpa using hI4⟩)
  have HBe := Lib.hid (fun (w' : World) (h : W4.grownBy w' (some (K + 1))) => (hx.grown h hx.size (fun g hg => by obtain rfl := Option.some.inj hg; omega) : Below w.heap.size w w'))
  clear hM hS x1 x2 x3 x4 p1 t3 m2 f4 hI4 hx ha hl hall hms
  go_enter Tryz.func50, Tryz.ntmps50
  go_wp2_with fail
  rw [← hK, ← hW1, ← hW2, ← hW3, ← hW4]
  refine HC.out.mono ?_
  rintro e w' (⟨rfl, k, hk, hg, hv⟩ | ⟨rfl, hg, g, L, hSr, hT, hI⟩)
  · have HE := Lib.hid (HBe.out w' hg)
    have HV := Lib.hid hv
    clear hg hv HC hk
    go_wp2_with fail
    go_ret
    exact ⟨.inl ⟨rfl, HV.out⟩, HE.out⟩
  · have HE := Lib.hid (HBe.out w' hg)
    have HV := Lib.hid (show ranked ms all from ⟨L, hSr.topo, fun v hv => hT v (by rw [List.take_of_length_le (Nat.le_refl _)]; exact hv), fun v hv => hSr.sub v (by simpa using hv)⟩)
    clear hg hSr hT hI HC
    go_wp2_with fail
    go_ret
    exact ⟨.inr ⟨rfl, HV.out⟩, HE.out⟩
theorem mv_ext {w w' : World} {b o : Nat} {m : Mv} (h : MvAt w b o m) (hb : Below w.heap.size w w') : MvAt w' b o m := ⟨cell_ext hb h.c0, cell_ext hb h.c1, cell_ext hb h.c2, cell_ext hb h.c3, cell_ext hb h.c4, cell_ext hb h.c5, cell_ext hb h.c6, cell_ext hb h.c7⟩
theorem mv_blk {w : World} {b : Nat} {T : TypeId} {m : Mv} (h : Blk w b T (mvCells m)) : MvAt w b 0 m := ⟨h.cell 0 rfl, h.cell 1 rfl, h.cell 2 rfl, h.cell 3 rfl, h.cell 4 rfl, h.cell 5 rfl, h.cell 6 rfl, h.cell 7 rfl⟩
theorem rd_pre {α : Type} {f : α → List Value} {w : World} {A : Option Addr} {l : List α} (h : Rd w A (l.flatMap f)) (k : Nat) : Rd w A ((l.take k).flatMap f) := fun j u hj => h j u (by
  have e : l.flatMap f = (l.take k).flatMap f ++ (l.drop k).flatMap f := by rw [← List.flatMap_append, List.take_append_drop]
  rw [e, List.getElem?_append_left (List.getElem?_eq_some_iff.1 hj).1]
  exact hj)
/-! what is wrong with a plan -/
def sameB (m o : Mv) : Bool := o.name == m.name && o.frm == m.frm
def badAt (ms : List Mv) (i : Nat) : Bool := match ms[i]? with
  | none => false
  | some m => !wordB m.name || !wordB m.who || (ms.take i).any (sameB m)
def badTo (ms : List Mv) (k : Nat) : Bool := (List.range k).any (badAt ms)
theorem badTo_succ {ms : List Mv} {k : Nat} (h : k < ms.length) : badTo ms (k + 1) = (badTo ms k || (!wordB ms[k].name || !wordB ms[k].who || (ms.take k).any (sameB ms[k]))) := by
  unfold badTo
  rw [List.range_succ, List.any_append]
  congr 1
  simp [badAt, h]
def kindB (fin : List (List UInt8)) (m : Mv) : Bool := fin.contains m.frm || decide (m.most < 0)
def cd0 : Cd := ⟨[false, false, false, false, false, false, false], [], rfl⟩
def DuesP : List Mv → Int → Prop
  | [], c => c = 0
  | m :: ms, c => ∃ o, DueP cd0 1 m.n m.u m.r o ∧ ((o.2 ≠ 0 ∧ c = o.2) ∨ (o.2 = 0 ∧ DuesP ms c))
def VQ (ms : List Mv) (all : List (List UInt8)) (b q : Bool) (c : Int) : Prop :=
  ((120 < ms.length ∨ 120 < all.length) ∧ c = 2) ∨ (¬ (120 < ms.length ∨ 120 < all.length) ∧ ((b = true ∧ c = 7) ∨ (b = false ∧ ((q = true ∧ c = 9) ∨ (q = false ∧ ((ring ms ∧ c = 8) ∨ (ranked ms all ∧ DuesP ms c)))))))
def VP (st : List UInt8) (fin : List (List UInt8)) (ms : List Mv) (c : Int) : Prop :=
  VQ ms (stagesF st fin ms) ((stagesF st fin ms).any (fun s => !wordB s) || badTo ms ms.length) (ms.any (kindB fin)) c
/-- the errors that are told -/
structure E6 (w : World) (A : Nat → Addr) : Prop where
  v1 : w.cell? ⟨1, 0, none⟩ = some (sentV (A 1))
  v3 : w.cell? ⟨0, 0, none⟩ = some (sentV (A 3))
  v6 : w.cell? ⟨2, 0, none⟩ = some (sentV (A 6))
  v7 : w.cell? ⟨4, 0, none⟩ = some (sentV (A 7))
  v8 : w.cell? ⟨3, 0, none⟩ = some (sentV (A 8))
  v10 : w.cell? ⟨5, 0, none⟩ = some (sentV (A 10))
theorem E6.below {w w' : World} {A : Nat → Addr} (h : E6 w A) (hb : Below w.heap.size w w') : E6 w' A := ⟨cell_ext hb h.v1, cell_ext hb h.v3, cell_ext hb h.v6, cell_ext hb h.v7, cell_ext hb h.v8, cell_ext hb h.v10⟩
theorem E6.e3 {w : World} {A : Nat → Addr} (h : E6 w A) : E3 w A := ⟨h.v1, h.v3, h.v8⟩
def CPost (A : Nat → Addr) (P : Int → Prop) (w : World) (e : Ending) (w' : World) : Prop := ∃ c, P c ∧ e = .returned (errC A c) ∧ Below w.heap.size w w'
def RetG (b : Bool) (w : World) (e : Ending) (w' : World) : Prop := e = .returned (.bool b) ∧ Below w.heap.size w w'
theorem retg {a b : Bool} {w w' : World} (h : a = b) (hb : Below w.heap.size w w') : RetG b w (.returned (.bool a)) w' := ⟨by rw [h], hb⟩
set_option maxRecDepth 100000 in
theorem cval1 (s : List UInt8) (hl : s.length ≤ 9223372036854775807) (w : World) : Calls Tryz.prog 44 #[.string ⟨s.toArray⟩] w (RetG (!wordB s) w) := by
  go_enter Tryz.func44, Tryz.ntmps44
  go_wp2_with fail
  refine (pword_any s hl w).mono ?_
  rintro e w' ⟨rfl, rfl⟩
  cases h : wordB s
  · go_wp2_with fail
    go_ret
    exact retg (by rw [h]; rfl) (Below.refl _ _)
  · go_wp2_with fail
    go_ret
    exact retg (by rw [h]; rfl) (Below.refl _ _)
set_option maxRecDepth 100000 in
set_option maxHeartbeats 1000000 in
theorem cval2 (m o : Mv) (b : Nat) (w : World) (h : MvAt w b 0 m) : Calls Tryz.prog 47 #[mvV o, .pointer (some ⟨b, 0, none⟩)] w (RetG (sameB m o) w) := by
  obtain ⟨xn, xf, xt, xw, x1, x2, x3, x4⟩ := m
  obtain ⟨zn, zf, zt, zw, z1, z2, z3, z4⟩ := o
  obtain ⟨c0, c1, _, _, _, _, _, _⟩ := h
  unfold mvV sameB
  simp only [Nat.zero_add] at *
  have hx := ext_alloc w (.cells #[.string ⟨zn.toArray⟩, .string ⟨zf.toArray⟩, .string ⟨zt.toArray⟩, .string ⟨zw.toArray⟩, .int .i64 z1, .int .i64 z2, .int .i64 z3, .int .i64 z4] 106)
  have HX := Lib.hid hx
  have c0 := cell_ext hx c0
  have c1 := cell_ext hx c1
  clear hx
  cases h1 : (zn == xn)
  · go_enter Tryz.func47, Tryz.ntmps47
    go_wp2_with fail
    go_ret
    exact retg (by simp) HX.out
  · cases h2 : (zf == xf)
    · go_enter Tryz.func47, Tryz.ntmps47
      go_wp2_with fail
      go_ret
      exact retg (by simp) HX.out
    · go_enter Tryz.func47, Tryz.ntmps47
      go_wp2_with fail
      go_ret
      exact retg (by simp) HX.out
set_option maxRecDepth 100000 in
set_option maxHeartbeats 1000000 in
theorem cval3 (fin : List (List UInt8)) (hf : fin.length ≤ 1000) (FA : Option Addr) (fc : Nat) (m : Mv) (b : Nat) (w : World) (h : w.cell? ⟨b, 1, none⟩ = some (.slice FA fin.length fc)) (hr : Rd w FA (Srs.strs fin)) :
    Calls Tryz.prog 48 #[mvV m, .pointer (some ⟨b, 0, none⟩)] w (RetG (kindB fin m) w) := by
  obtain ⟨zn, zf, zt, zw, z1, z2, z3, z4⟩ := m
  unfold mvV kindB
  simp only
  have hx := ext_alloc w (.cells #[.string ⟨zn.toArray⟩, .string ⟨zf.toArray⟩, .string ⟨zt.toArray⟩, .string ⟨zw.toArray⟩, .int .i64 z1, .int .i64 z2, .int .i64 z3, .int .i64 z4] 106)
  have HX := Lib.hid hx
  have c0 := cell_ext hx h
  have HR := Lib.hid (hr.ext hx)
  have HC := Lib.hid (hass_any fin (by omega) FA fc zf _ (hr.ext hx))
  clear hx h hr
  cases h1 : fin.contains zf
  · rw [h1] at HC
    by_cases h2 : z4 < 0
    · go_enter Tryz.func48, Tryz.ntmps48
      go_wp2_with fail
      refine HC.out.mono ?_
      rintro e w' ⟨rfl, rfl⟩
      go_wp2_with fail
      go_ret
      exact retg (by simp [h2]) HX.out
    · go_enter Tryz.func48, Tryz.ntmps48
      go_wp2_with fail
      refine HC.out.mono ?_
      rintro e w' ⟨rfl, rfl⟩
      go_wp2_with fail
      go_ret
      exact retg (by simp) HX.out
  · rw [h1] at HC
    go_enter Tryz.func48, Tryz.ntmps48
    go_wp2_with fail
    refine HC.out.mono ?_
    rintro e w' ⟨rfl, rfl⟩
    go_wp2_with fail
    go_ret
    exact retg (by simp) HX.out
end Go.Proofs.YtjfiodknjchngaaGreatDoor.Ce

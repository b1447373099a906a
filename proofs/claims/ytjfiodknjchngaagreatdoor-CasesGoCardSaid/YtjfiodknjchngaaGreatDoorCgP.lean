/- CasesGo, in plain lists: stages each once, rings by what is left, names in order. CasesGo: which plans are valid by the document. Cases: a case that is opened with a calendar. -/
import Derived.Test.YtjfiodknjchngaaGreatDoorCeL
import Derived.Test.YtjfiodknjchngaaGreatDoorCeW
import Derived.BigQuiet
import Derived.Test.YtjfiodknjchngaaGreatDoorCeO
import Derived.Test.YtjfiodknjchngaaGreatDoorCfP
namespace Go.Proofs.YtjfiodknjchngaaGreatDoor.Cg
open Srs Cf Ce

abbrev Tx := List UInt8
theorem slt_ext : ∀ (a b : List Tx), a.Pairwise (· < ·) → b.Pairwise (· < ·) → (∀ x, x ∈ a ↔ x ∈ b) → a = b
  | [], b, _, _, h => by
    cases b with
    | nil => rfl
    | cons y b => exact absurd ((h y).2 List.mem_cons_self) (by simp)
  | x :: a, [], _, _, h => absurd ((h x).1 List.mem_cons_self) (by simp)
  | x :: a, y :: b, ha, hb, h => by
    rw [List.pairwise_cons] at ha hb
    have hxy : x = y := by
      rcases List.mem_cons.1 ((h x).1 List.mem_cons_self) with e | h1
      · exact e
      · rcases List.mem_cons.1 ((h y).2 List.mem_cons_self) with e | h2
        · exact e.symm
        · exact absurd (List.lt_trans (hb.1 x h1) (ha.1 y h2)) (List.lt_irrefl y)
    subst hxy
    rw [slt_ext a b ha.2 hb.2 fun z => ?_]
    constructor
    · intro hz
      rcases List.mem_cons.1 ((h z).1 (List.mem_cons_of_mem _ hz)) with e | h2
      · exact absurd (e ▸ ha.1 z hz) (List.lt_irrefl x)
      · exact h2
    · intro hz
      rcases List.mem_cons.1 ((h z).2 (List.mem_cons_of_mem _ hz)) with e | h2
      · exact absurd (e ▸ hb.1 z hz) (List.lt_irrefl x)
      · exact h2
theorem lt_of {a b : Tx} (h : a ≤ b) (k : a ≠ b) : a < b := by
  by_cases c : b ≤ a
  · exact absurd (List.le_antisymm h c) k
  · exact List.not_le.mp c
theorem lt_of_le {a b c : Tx} (h : a ≤ b) (k : b < c) : a < c := by
  by_cases e : a = b
  · exact e ▸ k
  · exact List.lt_trans (lt_of h e) k
theorem sort_le (l : List Tx) : (sortS l).Pairwise (· ≤ ·) := by
  have := List.pairwise_mergeSort (le := fun x y : Tx => decide (x ≤ y)) (by intro a b c h k; simp at *; exact List.le_trans h k) (by intro a b; simp; exact List.le_total a b) l
  simpa [sortS] using this
theorem comp_lt (zs : List Tx) (hs : zs.Pairwise (· ≤ ·)) : ∀ m, m ≤ zs.length → (Lib.compactUpTo zs.toArray m).Pairwise (· < ·)
  | 0, _ => by simp [Lib.compactUpTo]
  | m + 1, hm => by
    have h1 := comp_lt zs hs m (by omega)
    have hg : zs.toArray[m]! = zs[m] := by simp [getElem!_pos, show m < zs.length by omega]
    rw [Lib.compactUpTo_succ, hg]
    by_cases hk : Lib.keeps zs.toArray m = true
    · rw [if_pos hk]
      refine List.pairwise_append.2 ⟨h1, by simp, fun a ha b hb => ?_⟩
      rw [List.mem_singleton] at hb
      subst hb
      obtain ⟨j, hjm, e⟩ := (upto_mem zs.toArray a m).1 ha
      have hgj : zs.toArray[j]! = zs[j] := by simp [getElem!_pos, show j < zs.length by omega]
      rw [hgj] at e
      subst e
      have hg1 : zs.toArray[m - 1]! = zs[m - 1] := by simp [getElem!_pos, show m - 1 < zs.length by omega]
      have hne : zs[m] ≠ zs[m - 1] := by
        have := hk
        unfold Lib.keeps at this
        rw [decide_eq_true_iff, hg, hg1] at this
        rcases this with h | h
        · omega
        · exact h
      have hle1 : zs[m - 1] ≤ zs[m] := List.pairwise_iff_getElem.1 hs _ _ (by omega) (by omega) (by omega)
      have hle2 : zs[j] ≤ zs[m - 1] := by
        by_cases e : j = m - 1
        · subst e; exact List.le_refl _
        · exact List.pairwise_iff_getElem.1 hs _ _ (by omega) (by omega) (by omega)
      exact lt_of_le hle2 (lt_of hle1 (Ne.symm hne))
    · rw [if_neg hk, List.append_nil]
      exact h1
theorem comps_lt (l : List Tx) : (Lib.compact (sortS l)).Pairwise (· < ·) := by
  unfold Lib.compact
  exact comp_lt _ (sort_le l) _ (Nat.le_refl _)
theorem sort_mem (l : List Tx) (x : Tx) : x ∈ sortS l ↔ x ∈ l := by
  unfold sortS
  exact List.mem_mergeSort
theorem slt_nodup {l : List Tx} (h : l.Pairwise (· < ·)) : l.Nodup := by
  unfold List.Nodup
  refine h.imp ?_
  intro a b hab e
  subst e
  exact List.lt_irrefl _ hab
theorem dd_nodup (l : List Tx) : (dd l).Nodup := by
  unfold dd
  have h : ∀ (l a : List Tx), a.Nodup → (l.foldl (fun a x => if a.contains x then a else a ++ [x]) a).Nodup := by
    intro l
    induction l with
    | nil => intro a h; exact h
    | cons y l ih =>
      intro a h
      rw [List.foldl_cons]
      refine ih _ ?_
      by_cases c : a.contains y = true
      · rw [if_pos c]; exact h
      · rw [if_neg c]
        rw [List.nodup_append]
        refine ⟨h, by simp, fun u hu v hv e => ?_⟩
        rw [List.mem_singleton] at hv
        subst hv e
        exact c (List.contains_iff_mem.2 hu)
  exact h l [] (by simp)
theorem stg_len (st : Tx) (fin : List Tx) (ms : List Mv) : (stagesF st fin ms).length = (dd (allF st fin ms)).length := by
  have h1 : (stagesF st fin ms).Nodup := slt_nodup (comps_lt _)
  exact Nat.le_antisymm (nodup_le _ _ h1 fun x hx => (dd_mem _ x).2 (all_mem.1 hx)) (nodup_le _ _ (dd_nodup _) fun x hx => all_mem.2 ((dd_mem _ x).1 hx))
theorem any_same {a b : List Tx} (h : ∀ x, x ∈ a ↔ x ∈ b) (p : Tx → Bool) : a.any p = b.any p := by
  rw [Bool.eq_iff_iff, List.any_eq_true, List.any_eq_true]
  exact ⟨fun ⟨x, hx, hp⟩ => ⟨x, (h x).1 hx, hp⟩, fun ⟨x, hx, hp⟩ => ⟨x, (h x).2 hx, hp⟩⟩
/-! rings by what is left -/
def onE (ms : List Mv) (left : List Tx) (s : Tx) : Bool := ms.any fun m => decide (m.most = 0) && (m.frm == s) && left.contains m.to_
theorem onE_iff {ms : List Mv} {left : List Tx} {s : Tx} : onE ms left s = true ↔ ∃ t, edge ms s t ∧ t ∈ left := by
  unfold onE
  rw [List.any_eq_true]
  constructor
  · rintro ⟨m, hm, h⟩
    simp only [Bool.and_eq_true, decide_eq_true_eq, beq_iff_eq, List.contains_iff_mem] at h
    exact ⟨m.to_, ⟨m, hm, h.1.2, h.1.1, rfl⟩, h.2⟩
  · rintro ⟨t, ⟨m, hm, h1, h2, h3⟩, ht⟩
    refine ⟨m, hm, ?_⟩
    simp only [Bool.and_eq_true, decide_eq_true_eq, beq_iff_eq, List.contains_iff_mem]
    exact ⟨⟨h2, h1⟩, h3 ▸ ht⟩
def cyc (ms : List Mv) (v : Tx) : Prop := ∃ k, Rch (edge ms) k v v
theorem cyc_next {ms : List Mv} {v : Tx} (h : cyc ms v) : ∃ t, edge ms v t ∧ cyc ms t := by
  obtain ⟨k, hk⟩ := h
  cases k with
  | zero => exact ⟨v, hk, 0, hk⟩
  | succ k =>
    obtain ⟨u, h1, h2⟩ := hk
    obtain ⟨q, hq⟩ := rch_app (E := edge ms) k 0 h2 (show Rch (edge ms) 0 v u from h1)
    exact ⟨u, h1, q, hq⟩
/-- what is left at the end is nothing just when there is no ring -/
theorem left_none {ms : List Mv} {all left : List Tx} (hr : ranked ms all) (hs : ∀ s ∈ left, s ∈ all) (h : ∀ s ∈ left, onE ms left s = true) : left = [] := by
  obtain ⟨L, hT, hL, _⟩ := hr
  have h0 : ∀ n, ∀ s ∈ left, rk L s < n → False := by
    intro n
    induction n with
    | zero => intro s _ h; omega
    | succ n ih =>
      intro s hsl hn
      obtain ⟨t, he, ht⟩ := onE_iff.1 (h s hsl)
      have := (topo_rk L hT (hL s (hs s hsl)) he).2
      exact ih t ht (by omega)
  cases left with
  | nil => rfl
  | cons s l => exact (h0 _ s List.mem_cons_self (Nat.lt_succ_self _)).elim
theorem ring_or (ms : List Mv) (all : List Tx) (h : ring ms) (hr : ranked ms all) (ha : ∀ m ∈ ms, m.frm ∈ all) : False := by
  obtain ⟨v, k, hk⟩ := h
  obtain ⟨L, hT, hL, _⟩ := hr
  exact noring hT (fun v t ⟨m, hm, h1, _, _⟩ => hL v (h1 ▸ ha m hm)) k v hk
/-! the names that may be, in order -/
def insS (out : List Tx) (x : Tx) : List Tx := out.takeWhile (fun y => decide (y < x)) ++ x :: out.dropWhile (fun y => decide (y < x))
theorem ins_mem (out : List Tx) (x z : Tx) : z ∈ insS out x ↔ z = x ∨ z ∈ out := by
  unfold insS
  have h : z ∈ out ↔ z ∈ out.takeWhile (fun y => decide (y < x)) ∨ z ∈ out.dropWhile (fun y => decide (y < x)) := by
    conv => lhs; rw [← List.takeWhile_append_dropWhile (p := fun y => decide (y < x)) (l := out)]
    rw [List.mem_append]
  rw [List.mem_append, List.mem_cons, h]
  constructor
  · rintro (h | h | h)
    · exact .inr (.inl h)
    · exact .inl h
    · exact .inr (.inr h)
  · rintro (h | h | h)
    · exact .inr (.inl h)
    · exact .inl h
    · exact .inr (.inr h)
theorem ins_lt : ∀ (out : List Tx) (x : Tx), out.Pairwise (· < ·) → x ∉ out → (insS out x).Pairwise (· < ·)
  | [], x, _, _ => by simp [insS]
  | y :: l, x, h, hx => by
    rw [List.pairwise_cons] at h
    by_cases c : y < x
    · have e : insS (y :: l) x = y :: insS l x := by simp [insS, c]
      rw [e, List.pairwise_cons]
      refine ⟨fun z hz => ?_, ins_lt l x h.2 fun hm => hx (List.mem_cons_of_mem _ hm)⟩
      rcases (ins_mem l x z).1 hz with e | hz
      · exact e ▸ c
      · exact h.1 z hz
    · have e : insS (y :: l) x = x :: y :: l := by simp [insS, c]
      rw [e, List.pairwise_cons]
      have hxy : x < y := lt_of (List.not_lt.mp c) fun e => hx (e ▸ List.mem_cons_self)
      refine ⟨fun z hz => ?_, List.pairwise_cons.2 h⟩
      rcases List.mem_cons.1 hz with e | hz
      · exact e ▸ hxy
      · exact List.lt_trans hxy (h.1 z hz)
/-- a list of names, each once, put in order one by one -/
theorem ins_all (l : List Tx) (h : l.Nodup) : l.foldl insS [] = Lib.compact (sortS l) := by
  have key : ∀ (l out : List Tx), out.Pairwise (· < ·) → (out ++ l).Nodup → (l.foldl insS out).Pairwise (· < ·) ∧ ∀ z, z ∈ l.foldl insS out ↔ z ∈ out ∨ z ∈ l := by
    intro l
    induction l with
    | nil => intro out ho _; exact ⟨ho, fun z => by simp⟩
    | cons x l ih =>
      intro out ho hn
      rw [List.foldl_cons]
      rw [List.nodup_append] at hn
      obtain ⟨n1, n2, n3⟩ := hn
      rw [List.nodup_cons] at n2
      have hx : x ∉ out := fun hm => n3 x hm x List.mem_cons_self rfl
      obtain ⟨h1, h2⟩ := ih (insS out x) (ins_lt out x ho hx) (by
        rw [List.nodup_append]
        refine ⟨slt_nodup (ins_lt out x ho hx), n2.2, fun a ha b hb e => ?_⟩
        subst e
        rcases (ins_mem out x a).1 ha with e | ha
        · exact n2.1 (e ▸ hb)
        · exact n3 a ha a (List.mem_cons_of_mem _ hb) rfl)
      refine ⟨h1, fun z => ?_⟩
      rw [h2, ins_mem, List.mem_cons]
      constructor
      · rintro ((h | h) | h)
        · exact .inr (.inl h)
        · exact .inl h
        · exact .inr (.inr h)
      · rintro (h | h | h)
        · exact .inl (.inr h)
        · exact .inl (.inl h)
        · exact .inr h
  obtain ⟨h1, h2⟩ := key l [] List.Pairwise.nil (by simpa using h)
  refine slt_ext _ _ h1 (comps_lt l) fun z => ?_
  rw [h2, compact_mem, sort_mem]
  simp
end Go.Proofs.YtjfiodknjchngaaGreatDoor.Cg
namespace Go.Proofs.YtjfiodknjchngaaGreatDoor.Cg
open Go.RowKit Mem Nest Srs Cf Fk Msi CdP CdM Err Solve Sol App Ce

theorem dues_same : ∀ (ms : List Mv) {c c' : Int}, DuesP ms c → DuesP ms c' → c = c'
  | [], c, c', h, h' => h.trans h'.symm
  | m :: ms, c, c', ⟨o, ho, h⟩, ⟨o', ho', h'⟩ => by
    obtain rfl := ho.same ho'
    rcases h with ⟨h1, rfl⟩ | ⟨h1, h2⟩ <;> rcases h' with ⟨h1', rfl⟩ | ⟨h1', h2'⟩
    · rfl
    · exact absurd h1' h1
    · exact absurd h1 h1'
    · exact dues_same ms h2 h2'
/-- what is wrong with a plan, as the document looks -/
def VD (ms : List Mv) (D : List Tx) (b q : Bool) (c : Int) : Prop :=
  ((120 < ms.length ∨ 120 < D.length) ∧ c = 2) ∨ (¬ (120 < ms.length ∨ 120 < D.length) ∧ ((b = true ∧ c = 7) ∨ (b = false ∧ ((q = true ∧ c = 9) ∨ (q = false ∧ ((¬ ranked ms D ∧ c = 8) ∨ (¬ ring ms ∧ DuesP ms c)))))))
def VR (st : Tx) (fin : List Tx) (ms : List Mv) (c : Int) : Prop := VD ms (dd (allF st fin ms)) ((dd (allF st fin ms)).any (fun s => !wordB s) || badTo ms ms.length) (ms.any (kindB fin)) c
theorem vp_same {st : Tx} {fin : List Tx} {ms : List Mv} {c c' : Int} (h : VP st fin ms c) (h' : VR st fin ms c') : c = c' := by
  have hm : ∀ x, x ∈ stagesF st fin ms ↔ x ∈ dd (allF st fin ms) := fun x => by rw [all_mem, dd_mem]
  have hl := stg_len st fin ms
  have ha := any_same hm (fun s => !wordB s)
  have hr : ranked ms (stagesF st fin ms) → ranked ms (dd (allF st fin ms)) := fun ⟨L, h1, h2, h3⟩ => ⟨L, h1, fun v hv => h2 v ((hm v).2 hv), fun v hv => (hm v).1 (h3 v hv)⟩
  unfold VP VQ at h
  unfold VR VD at h'
  rw [hl, ha] at h
  rcases h with ⟨h1, rfl⟩ | ⟨h1, ⟨h2, rfl⟩ | ⟨h2, ⟨h3, rfl⟩ | ⟨h3, ⟨h4, rfl⟩ | ⟨h4, h5⟩⟩⟩⟩ <;> rcases h' with ⟨k1, rfl⟩ | ⟨k1, ⟨k2, rfl⟩ | ⟨k2, ⟨k3, rfl⟩ | ⟨k3, ⟨k4, rfl⟩ | ⟨k4, k5⟩⟩⟩⟩
  all_goals first
    | rfl
    | exact absurd h1 k1
    | exact absurd k1 h1
    | exact absurd (h2.symm.trans k2) (by decide)
    | exact absurd (h3.symm.trans k3) (by decide)
    | exact absurd h4 k4
    | exact absurd (hr h4) k4
    | exact dues_same ms h5 k5
theorem bad_mono {ms : List Mv} {k n : Nat} (h : badTo ms k = true) (hk : k ≤ n) : badTo ms n = true := by
  unfold badTo at h ⊢
  rw [List.any_eq_true] at h ⊢
  obtain ⟨i, hi, hb⟩ := h
  exact ⟨i, List.mem_range.2 (by have := List.mem_range.1 hi; omega), hb⟩
theorem any_false {α : Type} (p : α → Bool) (l : List α) {k : Nat} (h : k < l.length) (ha : (l.take k).any p = false) (hk : p l[k] = false) : (l.take (k + 1)).any p = false := by
  rw [List.take_succ_eq_append_getElem h, List.any_append, ha]
  simp [hk]
theorem any_true {α : Type} (p : α → Bool) (l : List α) {k : Nat} (h : k < l.length) (hk : p l[k] = true) : l.any p = true := List.any_eq_true.2 ⟨l[k], List.getElem_mem h, hk⟩
theorem rcd0_at {w : World} {b : Nat} (h : Blk w b 100 [.bool false, .bool false, .bool false, .bool false, .bool false, .bool false, .bool false, .slice none 0 0]) : CdA w b 0 cd0 none 0 :=
  ⟨fun j hj => by
    match j, hj with
      | 0, _ => exact h.cell 0 rfl
      | 1, _ => exact h.cell 1 rfl
      | 2, _ => exact h.cell 2 rfl
      | 3, _ => exact h.cell 3 rfl
      | 4, _ => exact h.cell 4 rfl
      | 5, _ => exact h.cell 5 rfl
      | 6, _ => exact h.cell 6 rfl, h.cell 7 rfl, Rd.nil⟩
def RVPost (P : Int → Prop) (w : World) (e : Ending) (w' : World) : Prop := ∃ c, P c ∧ e = .returned (.int .i64 c) ∧ Below w.heap.size w w'
set_option maxRecDepth 100000 in
set_option maxHeartbeats 100000000 in
theorem rplan (b o : Nat) (st : Tx) (fin : List Tx) (ms : List Mv) (hf : fin.length ≤ 125) (hm : ms.length ≤ 125) (hsl : ∀ s ∈ allF st fin ms, s.length ≤ 9223372036854775807) (hmn : ∀ m ∈ ms, m.name.length ≤ 9223372036854775807 ∧ m.who.length ≤ 9223372036854775807)
    (FA : Option Addr) (fc : Nat) (MA : Option Addr) (mc : Nat) (w : World) (h : PIn w b o st fin ms FA fc MA mc) :
    Calls Tryz.prog 10 #[.pointer (some ⟨b, o, none⟩)] w (RVPost (VR st fin ms) w) := by
  have H := Lib.hid h
  have HSt := Lib.hid (rstages b o st fin ms (by omega) (by omega) FA fc MA mc w h)
  have HMn := Lib.hid hmn
  obtain ⟨D, hD⟩ : ∃ D, D = dd (allF st fin ms) := ⟨_, rfl⟩
  have HSl := Lib.hid (show ∀ s ∈ D, s.length ≤ 9223372036854775807 from fun s hs => hsl s ((dd_mem _ s).1 (hD ▸ hs)))
  have HV := Lib.hid (show ∀ c, VD ms D (D.any (fun s => !wordB s) || badTo ms ms.length) (ms.any (kindB fin)) c → VR st fin ms c from fun c h => by unfold VR; rw [← hD]; exact h)
  have HDl := Lib.hid (show D.length ≤ 400 from by have := dd_len (allF st fin ms); rw [all_len] at this; rw [hD]; omega)
  rw [← hD] at HSt
  have HDq := Lib.hid hD
  have p2 := h.c2
  obtain ⟨i0, hi0, hz0, hz1, hz2⟩ := info_parts str_infoS
  have HI0 := Lib.hid hi0
  have HZ0 := Lib.hid hz0
  have HZ1 := Lib.hid hz1
  have HZ2 := Lib.hid hz2
  clear h hsl hmn hD hi0 hz0 hz1 hz2
  go_enter Tryz.func10, Tryz.ntmps10
  go_wp2_with fail
  refine HSt.out.mono ?_
  rintro e w1 ⟨SA, sc, rfl, hr, hb1⟩
  have HB1 := Lib.hid hb1
  have HR1 := Lib.hid hr
  have p2 := cell_ext hb1 p2
  clear hr hb1 HSt
  have hdl := HDl.out
  by_cases g1 : 120 < ms.length ∨ 120 < D.length
  · have HG := Lib.hid g1
    by_cases g2 : 120 < ms.length
    · have g2' : (120 : Int) < ms.length := by omega
      clear g1
      go_wp2_with fail
      go_ret
      exact ⟨2, HV.out 2 (.inl ⟨HG.out, rfl⟩), rfl, HB1.out⟩
    · have g2' : ¬ (120 : Int) < ms.length := by omega
      have g3' : (120 : Int) < D.length := by omega
      have g3 : 120 < D.length := by omega
      clear g1
      go_wp2_with fail
      go_ret
      exact ⟨2, HV.out 2 (.inl ⟨HG.out, rfl⟩), rfl, HB1.out⟩
  have HG := Lib.hid g1
  have g2 : ms.length ≤ 120 := by omega
  have g3 : D.length ≤ 120 := by omega
  have g2' : ¬ (120 : Int) < ms.length := by omega
  have g3' : ¬ (120 : Int) < D.length := by omega
  clear g1 hdl
  go_wp2_with fail
  go_loopw [4] (fun s4 wr => ∃ i : Nat, s4 = .int .i64 i ∧ i ≤ D.length ∧ wr = w1 ∧ Hid ((D.take i).any (fun s => !wordB s) = false)) (fun s4 _ => D.length - (intOf s4).toNat)
  case atStart => exact ⟨0, rfl, Nat.zero_le _, rfl, by show _ = _; simp⟩
  case round =>
    obtain ⟨i, rfl, hi, rfl, HA⟩ := hrel
    by_cases hlt : i < D.length
    · have hcl : (i : Int) < (D.length : Int) := by omega
      obtain ⟨bb, oo, e0, y0⟩ := str_row HR1.out hlt
      subst e0
      have HW := Lib.hid (rword_any D[i] (HSl.out _ (List.getElem_mem hlt)) wr)
      have HAn := Lib.hid (fun hk => any_false (fun s => !wordB s) D hlt HA.out hk)
      have HAt := Lib.hid (fun hk => any_true (fun s => !wordB s) D hlt hk)
      generalize D[i] = x at y0 HW HAn HAt
      cases hw : wordB x with
      | true =>
        rw [hw] at HW
        have HA2 := Lib.hid (HAn.out (by simp [hw]))
        clear hw
        go_wp2_with fail
        refine HW.out.mono ?_
        rintro e w' ⟨rfl, rfl⟩
        go_wp2_with fail
        go_roundw
        case rel => exact ⟨i + 1, by go_num, by omega, by trivial, HA2.out⟩
        case measure => show D.length - (i + 1) < D.length - i; omega
      | false =>
        rw [hw] at HW
        have HA2 := Lib.hid (HAt.out (by simp [hw]))
        clear hw
        go_wp2_with fail
        refine HW.out.mono ?_
        rintro e w' ⟨rfl, rfl⟩
        go_wp2_with fail
        go_ret
        exact ⟨7, HV.out 7 (.inr ⟨HG.out, .inl ⟨by rw [HA2.out]; rfl, rfl⟩⟩), rfl, HB1.out⟩
    · have hcl : ¬ (i : Int) < (D.length : Int) := by omega
      have HD0 := Lib.hid (show D.any (fun s => !wordB s) = false from by have h := HA.out; rw [List.take_of_length_le (by omega)] at h; exact h)
      clear HA
      obtain ⟨w1, rfl⟩ : ∃ w1, w1 = wr := ⟨_, rfl⟩
      go_wp2_with fail
      go_loopw [6] (fun s6 wr => ∃ i : Nat, s6 = .int .i64 i ∧ i ≤ ms.length ∧ Hid (Below w1.heap.size w1 wr) ∧ Hid (badTo ms i = false)) (fun s6 _ => ms.length - (intOf s6).toNat)
      case atStart => exact ⟨0, rfl, Nat.zero_le _, Below.refl _ _, by show _ = _; simp [badTo]⟩
      case round =>
        obtain ⟨i, rfl, hi, HB, HA⟩ := hrel
        have HPr := Lib.hid ((H.out.ext HB1.out).ext HB.out)
        have HBr := Lib.hid (ext_trans HB1.out HB.out)
        have p2 := HPr.out.c2
        by_cases hlt : i < ms.length
        · have hcl : (i : Int) < (ms.length : Int) := by omega
          have HS := Lib.hid (badTo_succ hlt)
          have HNm := Lib.hid (HMn.out ms[i] (List.getElem_mem hlt))
          obtain ⟨bb, oo, e0, hx⟩ := mv_at HPr.out.m hlt
          subst e0
          have HTk := Lib.hid (show (ms.take i).length = i by simp; omega)
          generalize ms[i] = x at hx HS HNm
          have c0 := hx.c0
          have c1 := hx.c1
          have c3 := hx.c3
          clear hx
          obtain ⟨q1, hq1⟩ : ∃ q, q = wordB x.name := ⟨_, rfl⟩
          obtain ⟨q2, hq2⟩ : ∃ q, q = wordB x.who := ⟨_, rfl⟩
          have HW1 := Lib.hid (show Calls Tryz.prog 39 #[.string ⟨x.name.toArray⟩] wr (RetB q1 wr) from by rw [hq1]; exact rword_any x.name HNm.out.1 wr)
          have HW2 := Lib.hid (show Calls Tryz.prog 39 #[.string ⟨x.who.toArray⟩] wr (RetB q2 wr) from by rw [hq2]; exact rword_any x.who HNm.out.2 wr)
          have HT := Lib.hid (show badTo ms (i + 1) = (!q1 || !q2 || (ms.take i).any (sameB x)) from by rw [HS.out, HA.out, hq1, hq2]; rfl)
          have HBad := Lib.hid (fun (hb : badTo ms (i + 1) = true) => (show (D.any (fun s => !wordB s) || badTo ms ms.length) = true from by rw [bad_mono hb (by omega)]; simp))
          clear hq1 hq2
          cases q1 with
          | false =>
            go_wp2_with fail
            refine HW1.out.mono ?_
            rintro e w' ⟨rfl, rfl⟩
            go_wp2_with fail
            refine HW2.out.mono ?_
            rintro e w' ⟨rfl, rfl⟩
            go_wp2_with fail
            go_ret
            exact ⟨7, HV.out 7 (.inr ⟨HG.out, .inl ⟨HBad.out (by rw [HT.out]; rfl), rfl⟩⟩), rfl, HBr.out⟩
          | true =>
            cases q2 with
            | false =>
              go_wp2_with fail
              refine HW1.out.mono ?_
              rintro e w' ⟨rfl, rfl⟩
              go_wp2_with fail
              refine HW2.out.mono ?_
              rintro e w' ⟨rfl, rfl⟩
              go_wp2_with fail
              go_ret
              exact ⟨7, HV.out 7 (.inr ⟨HG.out, .inl ⟨HBad.out (by rw [HT.out]; rfl), rfl⟩⟩), rfl, HBr.out⟩
            | true =>
              go_wp2_with fail
              refine HW1.out.mono ?_
              rintro e w' ⟨rfl, rfl⟩
              go_wp2_with fail
              refine HW2.out.mono ?_
              rintro e w' ⟨rfl, rfl⟩
              obtain ⟨wo, rfl⟩ : ∃ wo, wo = wr := ⟨_, rfl⟩
              go_wp2_with fail
              clear HW1 HW2
              go_loopw [9] (fun s9 wr => ∃ j : Nat, s9 = .int .i64 j ∧ j ≤ i ∧ Hid (Below wo.heap.size wo wr) ∧ Hid ((ms.take j).any (sameB x) = false)) (fun s9 _ => i - (intOf s9).toNat)
              case atStart => exact ⟨0, rfl, Nat.zero_le _, Below.refl _ _, by show _ = _; simp⟩
              case round =>
                obtain ⟨j, rfl, hj, HBj, HAj⟩ := hrel
                have p2 := cell_ext HBj.out p2
                have c0 := cell_ext HBj.out c0
                have c1 := cell_ext HBj.out c1
                have HBe := Lib.hid (ext_trans HBr.out HBj.out)
                by_cases hjl : j < i
                · have hjc : (j : Int) < (i : Int) := by omega
                  have hjm : j < ms.length := by omega
                  have hjm' : (j : Int) < (ms.length : Int) := by omega
                  obtain ⟨b2, o2, e2, hy⟩ := mv_at (HPr.out.m.ext HBj.out) hjm
                  cases e2
                  have HAf := Lib.hid (fun hk => any_false (sameB x) ms hjm HAj.out hk)
                  have HAt := Lib.hid (show sameB x ms[j] = true → (ms.take i).any (sameB x) = true from fun hk => List.any_eq_true.2 ⟨ms[j], by rw [← List.getElem_take (j := i) (h := by simp; omega)]; exact List.getElem_mem _, hk⟩)
                  generalize ms[j] = y at hy HAf HAt
                  have d0 := hy.c0
                  have d1 := hy.c1
                  have hd := ext_drewN wr
                  have HDr := Lib.hid hd
                  clear hy hd
                  cases k1 : (y.name == x.name) with
                  | false =>
                    have HA2 := Lib.hid (HAf.out (by unfold sameB; rw [k1]; rfl))
                    go_wp2_with fail
                    go_quiet (fail)
                    go_wp2_with fail
                    go_roundw
                    case rel => exact ⟨j + 1, by go_num, by omega, ext_trans HBj.out (HDr.out _), HA2.out⟩
                    case measure => show i - (j + 1) < i - j; omega
                  | true =>
                    cases k2 : (y.frm == x.frm) with
                    | false =>
                      have HA2 := Lib.hid (HAf.out (by unfold sameB; rw [k1, k2]; rfl))
                      go_wp2_with fail
                      go_quiet (fail)
                      go_wp2_with fail
                      go_roundw
                      case rel => exact ⟨j + 1, by go_num, by omega, ext_trans HBj.out (HDr.out _), HA2.out⟩
                      case measure => show i - (j + 1) < i - j; omega
                    | true =>
                      have HA2 := Lib.hid (HAt.out (by unfold sameB; rw [k1, k2]; rfl))
                      go_wp2_with fail
                      go_quiet (fail)
                      go_wp2_with fail
                      go_ret
                      exact ⟨7, HV.out 7 (.inr ⟨HG.out, .inl ⟨HBad.out (by rw [HT.out, HA2.out]; rfl), rfl⟩⟩), rfl, ext_trans HBe.out (HDr.out _)⟩
                · have hjc : ¬ (j : Int) < (i : Int) := by omega
                  have HA2 := Lib.hid (show badTo ms (i + 1) = false from by have h := HAj.out; rw [show j = i by omega] at h; rw [HT.out, h]; rfl)
                  have HB2 := Lib.hid (ext_trans HB.out HBj.out)
                  go_wp2_with fail
                  go_roundw
                  case rel => exact ⟨i + 1, by go_num, by omega, HB2.out, HA2.out⟩
                  case measure => show ms.length - (i + 1) < ms.length - i; omega
        · have hcl : ¬ (i : Int) < (ms.length : Int) := by omega
          have HBd := Lib.hid (show (D.any (fun s => !wordB s) || badTo ms ms.length) = false from by have h := HA.out; rw [show i = ms.length by omega] at h; rw [HD0.out, h]; rfl)
          clear HA
          obtain ⟨w2, rfl⟩ : ∃ w2, w2 = wr := ⟨_, rfl⟩
          go_wp2_with fail
          go_loopw [10] (fun s10 wr => ∃ i : Nat, s10 = .int .i64 i ∧ i ≤ ms.length ∧ Hid (Below w2.heap.size w2 wr) ∧ Hid ((ms.take i).any (kindB fin) = false)) (fun s10 _ => ms.length - (intOf s10).toNat)
          case atStart => exact ⟨0, rfl, Nat.zero_le _, Below.refl _ _, by show _ = _; simp⟩
          case round =>
            obtain ⟨i, rfl, hi, HC, HA⟩ := hrel
            have HPr := Lib.hid (((H.out.ext HB1.out).ext HB.out).ext HC.out)
            have HBr := Lib.hid (ext_trans HB1.out (ext_trans HB.out HC.out))
            have p2 := HPr.out.c2
            have p1 := HPr.out.c1
            by_cases hlt : i < ms.length
            · have hcl : (i : Int) < (ms.length : Int) := by omega
              obtain ⟨bb, oo, e0, hx⟩ := mv_at HPr.out.m hlt
              subst e0
              have HAf := Lib.hid (fun hk => any_false (kindB fin) ms hlt HA.out hk)
              have HAt := Lib.hid (fun hk => any_true (kindB fin) ms hlt hk)
              generalize ms[i] = x at hx HAf HAt
              have c1 := hx.c1
              have c5 := hx.c7
              have HIn := Lib.hid (show ∀ n, Calls Tryz.prog 40 #[.slice FA fin.length fc, .string ⟨x.frm.toArray⟩] (wr.drewN n) (fun e w' => e = .returned (.bool (fin.contains x.frm)) ∧ wr.drewN n = w') from fun n => innames_any fin (by omega) FA fc x.frm (wr.drewN n) (HPr.out.f.ext (ext_drewN wr n)))
              have hd := ext_drewN wr
              have HDr := Lib.hid hd
              clear hx hd
              obtain ⟨q, hq⟩ : ∃ q, q = fin.contains x.frm := ⟨_, rfl⟩
              rw [← hq] at HIn
              have HK := Lib.hid (show kindB fin x = (q || decide (x.most < 0)) from by unfold kindB; rw [hq])
              clear hq
              generalize x.most = mx at *
              cases q with
              | true =>
                have HA2 := Lib.hid (HAt.out (by rw [HK.out]; rfl))
                go_wp2_with fail
                go_quiet ((go_at_call 40; exact Calls.quiet_of_same ((HIn.out _).mono fun e w' h => ⟨h.1, h.2.symm⟩)))
                go_wp2_with fail
                go_ret
                exact ⟨9, HV.out 9 (.inr ⟨HG.out, .inr ⟨HBd.out, .inl ⟨HA2.out, rfl⟩⟩⟩), rfl, ext_trans HBr.out (HDr.out _)⟩
              | false =>
                by_cases hz : mx < 0
                · have HA2 := Lib.hid (HAt.out (by rw [HK.out]; simp [hz]))
                  have p2d := fun n => cell_ext (ext_drewN wr n) p2
                  have c5d := fun n => cell_ext (ext_drewN wr n) c5
                  go_wp2_with fail
                  go_quiet ((go_at_call 40; exact Calls.quiet_of_same ((HIn.out _).mono fun e w' h => ⟨h.1, h.2.symm⟩)))
                  go_wp2_with fail
                  go_ret
                  exact ⟨9, HV.out 9 (.inr ⟨HG.out, .inr ⟨HBd.out, .inl ⟨HA2.out, rfl⟩⟩⟩), rfl, ext_trans HBr.out (HDr.out _)⟩
                · have HA2 := Lib.hid (HAf.out (by rw [HK.out]; simp [hz]))
                  have p2d := fun n => cell_ext (ext_drewN wr n) p2
                  have c5d := fun n => cell_ext (ext_drewN wr n) c5
                  go_wp2_with fail
                  go_quiet ((go_at_call 40; exact Calls.quiet_of_same ((HIn.out _).mono fun e w' h => ⟨h.1, h.2.symm⟩)))
                  go_wp2_with fail
                  go_roundw
                  case rel => exact ⟨i + 1, by go_num, by omega, ext_trans HC.out (HDr.out _), HA2.out⟩
                  case measure => show ms.length - (i + 1) < ms.length - i; omega
            · have hcl : ¬ (i : Int) < (ms.length : Int) := by omega
              have HKd := Lib.hid (show ms.any (kindB fin) = false from by have h := HA.out; rw [List.take_of_length_le (by omega)] at h; exact h)
              clear HA
              obtain ⟨w3, rfl⟩ : ∃ w3, w3 = wr := ⟨_, rfl⟩
              have HR3 := Lib.hid ((HR1.out.ext HB.out).ext HC.out)
              go_wp2_with fail
              go_loopw [12, 13] (fun s12 s13 wr => ∃ (lf : List Tx) (LA : Option Addr) (lc : Nat) (ag : Bool), s12 = .slice LA lf.length lc ∧ s13 = .bool ag ∧ lf.length ≤ 120 ∧ Hid (Below w3.heap.size w3 wr) ∧ Hid (Rd wr LA (Srs.strs lf)) ∧ Hid ((∀ v, cyc ms v → v ∈ lf) ∧ (∀ v ∈ lf, v ∈ D) ∧ (ag = false → ∀ s ∈ lf, onE ms lf s = true))) (fun s12 s13 _ => match s12, s13 with
                | .slice _ n _, .bool true => n + 1
                | _, _ => 0)
              case atStart =>
                refine ⟨D, SA, sc, true, rfl, rfl, g3, Below.refl _ _, HR3.out, fun v hv => ?_, fun v hv => hv, fun h => by cases h⟩
                obtain ⟨t, ⟨m, hm1, h1, _, _⟩, _⟩ := cyc_next hv
                rw [HDq.out, dd_mem, ← all_mem, ← h1]
                exact (all_ends st fin ms m hm1).1
              case round =>
                obtain ⟨lf, LA, lc, ag, rfl, rfl, hl, HE, HRl, HF⟩ := hrel
                cases ag with
                | true =>
                  obtain ⟨w4, rfl⟩ : ∃ w4, w4 = wr := ⟨_, rfl⟩
                  go_wp2_with fail
                  go_loopw [13, 14, 15] (fun s13 s14 s15 wr => ∃ (i : Nat) (nx : List Tx) (ag : Bool), s13 = .bool ag ∧ s15 = .int .i64 i ∧ i ≤ lf.length ∧ nx.length ≤ i ∧ Hid (nx = (lf.take i).filter (onE ms lf)) ∧ Hid ((ag = false → nx.length = i) ∧ (ag = true → nx.length < i)) ∧ Hid (Below w4.heap.size w4 wr) ∧ Hid (wr.ownsRow w4.heap.size 9 1 s14 nx.length (Srs.strs nx))) (fun _ _ s15 _ => lf.length - (intOf s15).toNat)
                  case atStart => exact ⟨0, [], false, rfl, rfl, Nat.zero_le _, Nat.zero_le _, by show _ = _; simp, ⟨fun _ => rfl, fun h => by cases h⟩, Below.refl _ _, World.ownsRow_nil _ _ _ _⟩
                  case round =>
                    obtain ⟨i, nx, ag, rfl, rfl, hi6, hnx, HN, HAg, HB4, HOn⟩ := hrel
                    have HRi := Lib.hid (HRl.out.ext HB4.out)
                    by_cases hlt6 : i < lf.length
                    · have hcl6 : (i : Int) < (lf.length : Int) := by omega
                      have HFs := Lib.hid (show (lf.take (i + 1)).filter (onE ms lf) = nx ++ if onE ms lf lf[i] then [lf[i]] else [] from by
                        rw [List.take_succ_eq_append_getElem hlt6, List.filter_append, ← HN.out]
                        by_cases c : onE ms lf lf[i] = true
                        · simp [c]
                        · simp [c])
                      have HRk := Lib.hid HRi.out
                      obtain ⟨lb, lo, e0, y0⟩ := str_row HRi.out hlt6
                      subst e0
                      generalize lf[i] = x at y0 HFs
                      obtain ⟨w5, rfl⟩ : ∃ w5, w5 = wr := ⟨_, rfl⟩
                      go_wp2_with fail
                      go_loopw [16, 17] (fun s16 s17 wr => ∃ (k : Nat) (q : Bool), s16 = .bool q ∧ s17 = .int .i64 k ∧ k ≤ ms.length ∧ Hid (q = (ms.take k).any fun m => decide (m.most = 0) && (m.frm == x) && lf.contains m.to_) ∧ Hid (Below w5.heap.size w5 wr)) (fun _ s17 _ => ms.length - (intOf s17).toNat)
                      case atStart => exact ⟨0, false, rfl, rfl, Nat.zero_le _, by show _ = _; simp, Below.refl _ _⟩
                      case round =>
                        obtain ⟨k, q, rfl, rfl, hk, HQ, HB5⟩ := hrel
                        have HPr := Lib.hid (((((H.out.ext HB1.out).ext HB.out).ext HC.out).ext HE.out).ext (ext_trans HB4.out HB5.out))
                        have p2 := HPr.out.c2
                        have y0 := cell_ext HB5.out y0
                        by_cases hkl : k < ms.length
                        · have hkc : (k : Int) < (ms.length : Int) := by omega
                          have HQs := Lib.hid (show ((ms.take (k + 1)).any fun m => decide (m.most = 0) && (m.frm == x) && lf.contains m.to_) = (q || (decide (ms[k].most = 0) && (ms[k].frm == x) && lf.contains ms[k].to_)) from by
                            rw [List.take_succ_eq_append_getElem hkl, List.any_append, ← HQ.out]
                            simp)
                          obtain ⟨bb, oo, e0, hx⟩ := mv_at HPr.out.m hkl
                          subst e0
                          generalize ms[k] = y at hx HQs
                          obtain ⟨c0, c1, c2, c3, c4, c5, c6, c7⟩ := hx
                          have xa := ext_alloc wr (.cells #[.string ⟨y.name.toArray⟩, .string ⟨y.frm.toArray⟩, .string ⟨y.to_.toArray⟩, .string ⟨y.who.toArray⟩, .int .i64 y.n, .int .i64 y.u, .int .i64 y.r, .int .i64 y.most] 96)
                          have ba := Blk.new wr 96 [.string ⟨y.name.toArray⟩, .string ⟨y.frm.toArray⟩, .string ⟨y.to_.toArray⟩, .string ⟨y.who.toArray⟩, .int .i64 y.n, .int .i64 y.u, .int .i64 y.r, .int .i64 y.most]
                          obtain ⟨V, hV⟩ : ∃ V, V = wr.alloc (.cells #[.string ⟨y.name.toArray⟩, .string ⟨y.frm.toArray⟩, .string ⟨y.to_.toArray⟩, .string ⟨y.who.toArray⟩, .int .i64 y.n, .int .i64 y.u, .int .i64 y.r, .int .i64 y.most] 96) := ⟨_, rfl⟩
                          obtain ⟨R, hR⟩ : ∃ R, R = wr.heap.size := ⟨_, rfl⟩
                          rw [← hV] at xa ba
                          rw [← hR] at ba
                          have d1 := ba.cell 1 rfl
                          have d2 := ba.cell 2 rfl
                          have d7 := ba.cell 7 rfl
                          have y0v := cell_ext xa y0
                          have HBv := Lib.hid (ext_trans HB5.out xa)
                          have HIn := Lib.hid (innames_any lf (by omega) (some ⟨lb, lo, none⟩) lc y.to_ V ((HRk.out.ext HB5.out).ext xa))
                          obtain ⟨r, hr⟩ : ∃ r, r = lf.contains y.to_ := ⟨_, rfl⟩
                          rw [← hr] at HIn HQs
                          have HDv := Lib.hid (ext_drewN V)
                          clear hr xa ba
                          go_upto_region 41 with fail
                          rw [← hV, ← hR]
                          clear hV hR c0 c1 c2 c3 c4 c5 c6 c7 p2 y0
                          go_wp2_with fail
                          refine HIn.out.mono ?_
                          rintro e w' ⟨rfl, rfl⟩
                          go_wp2_with fail
                          cases q with
                          | true =>
                            go_quiet (fail)
                            go_wp2_with fail
                            go_roundw
                            case rel => exact ⟨k + 1, true, rfl, by go_num, by omega, by show _ = _; rw [HQs.out]; rfl, ext_trans HBv.out (HDv.out _)⟩
                            case measure => show ms.length - (k + 1) < ms.length - k; omega
                          | false =>
                            by_cases z : y.most = 0
                            · cases f1 : (y.frm == x) with
                              | true =>
                                cases r with
                                | true =>
                                  go_quiet (fail)
                                  go_wp2_with fail
                                  go_roundw
                                  case rel => exact ⟨k + 1, true, rfl, by go_num, by omega, by show _ = _; rw [HQs.out]; simp [z, f1], ext_trans HBv.out (HDv.out _)⟩
                                  case measure => show ms.length - (k + 1) < ms.length - k; omega
                                | false =>
                                  go_quiet (fail)
                                  go_wp2_with fail
                                  go_roundw
                                  case rel => exact ⟨k + 1, false, rfl, by go_num, by omega, by show _ = _; rw [HQs.out]; simp [z, f1], ext_trans HBv.out (HDv.out _)⟩
                                  case measure => show ms.length - (k + 1) < ms.length - k; omega
                              | false =>
                                go_quiet (fail)
                                go_wp2_with fail
                                go_roundw
                                case rel => exact ⟨k + 1, false, rfl, by go_num, by omega, by show _ = _; rw [HQs.out]; simp [f1], ext_trans HBv.out (HDv.out _)⟩
                                case measure => show ms.length - (k + 1) < ms.length - k; omega
                            · have z' : (y.most == 0) = false := by simp [z]
                              have HZn := Lib.hid z
                              clear z
                              go_quiet (fail)
                              go_wp2_with fail
                              go_roundw
                              case rel => exact ⟨k + 1, false, rfl, by go_num, by omega, by show _ = _; rw [HQs.out]; simp [HZn.out], ext_trans HBv.out (HDv.out _)⟩
                              case measure => show ms.length - (k + 1) < ms.length - k; omega
                        · have hkc : ¬ (k : Int) < (ms.length : Int) := by omega
                          have HQe := Lib.hid (show onE ms lf x = q from by have h := HQ.out; rw [List.take_of_length_le (by omega)] at h; exact h.symm)
                          have HOv := Lib.hid (own_ext HOn.out HB5.out)
                          have HBs := Lib.hid (ext_trans HB4.out HB5.out)
                          clear HQ
                          cases q with
                          | true =>
                            have HF2 := Lib.hid (show nx ++ [x] = (lf.take (i + 1)).filter (onE ms lf) from by rw [HFs.out, HQe.out]; rfl)
                            go_wp2_with (at_builtin; refine wpList_append_own _ rfl _ _ _ rfl w4.heap.size 9 i0 _ 1 16 Tryz.underlying39 HI0.out HZ0.out HZ1.out HZ2.out rfl (by omega) u14 nx.length _ rfl (World.ownsRow.alloc HOv.out _) ⟨wr.heap.size, 0, none⟩ 1 1 [.string ⟨List.toArray x⟩] rfl rfl (new_cells wr [.string ⟨List.toArray x⟩] _ _ rfl) (by intro v hv; simp only [List.mem_singleton] at hv; subst hv; rfl) (by simp only [maxLen]; omega) (by omega) (by have := HBs.out.size; simp; omega) ?_; intro v2 wn hown1 hg1 _; have HO4 := Lib.hid hown1; have HB6 := Lib.hid (grown_ext (HBs.out.trans ((ext_alloc wr _).mono HBs.out.size)) rfl (World.ownsRow.alloc HOv.out _) hg1); clear hown1 hg1)
                            go_roundw
                            case rel => exact ⟨i + 1, nx ++ [x], ag, rfl, by go_num, by omega, by simp; omega, HF2.out, ⟨fun h => by have := HAg.out.1 h; simp; omega, fun h => by have := HAg.out.2 h; simp; omega⟩, HB6.out, by show World.ownsRow _ _ _ _ _ _ _; have h := HO4.out; rw [strsS_app, List.length_append]; simpa [Srs.strs, encStr] using h⟩
                            case measure => show lf.length - (i + 1) < lf.length - i; omega
                          | false =>
                            have HF2 := Lib.hid (show nx = (lf.take (i + 1)).filter (onE ms lf) from by rw [HFs.out, HQe.out]; simp)
                            go_wp2_with fail
                            go_roundw
                            case rel => exact ⟨i + 1, nx, true, rfl, by go_num, by omega, by omega, HF2.out, ⟨(fun h => by cases h), fun _ => by omega⟩, HBs.out, HOv.out⟩
                            case measure => show lf.length - (i + 1) < lf.length - i; omega
                    · have hcl6 : ¬ (i : Int) < (lf.length : Int) := by omega
                      have HNf := Lib.hid (show nx = lf.filter (onE ms lf) from by have h := HN.out; rw [List.take_of_length_le (by omega)] at h; exact h)
                      have HBs := Lib.hid (ext_trans HE.out HB4.out)
                      have hie : i = lf.length := by omega
                      have HIe := Lib.hid hie
                      obtain ⟨NA, nc, rfl, _, _⟩ := own_slice HOn.out
                      clear HN hie
                      go_wp2_with fail
                      go_roundw
                      case rel =>
                        refine ⟨nx, NA, nc, ag, rfl, rfl, by omega, HBs.out, Rd.of_own HOn.out, fun v hv => ?_, fun v hv => ?_, fun h => ?_⟩
                        · rw [HNf.out, List.mem_filter]
                          obtain ⟨t, he, ht⟩ := cyc_next hv
                          exact ⟨HF.out.1 v hv, onE_iff.2 ⟨t, he, HF.out.1 t ht⟩⟩
                        · rw [HNf.out, List.mem_filter] at hv
                          exact HF.out.2.1 v hv.1
                        · have h1 := HAg.out.1 h
                          have h2 := HNf.out
                          have h3 : lf.filter (onE ms lf) = lf := List.filter_eq_self.2 (List.length_filter_eq_length_iff.1 (by rw [← h2, h1, HIe.out]))
                          rw [h3] at h2
                          rw [h2]
                          intro z hz
                          rw [← h3, List.mem_filter] at hz
                          exact hz.2
                      case measure =>
                        cases ag with
                        | false => show 0 < lf.length + 1; omega
                        | true => have := HAg.out.2 rfl; show nx.length + 1 < lf.length + 1; omega
                | false =>
                  by_cases hn : lf = []
                  · subst hn
                    have HNr := Lib.hid (show ¬ ring ms from fun ⟨v, hv⟩ => by have := HF.out.1 v hv; simp at this)
                    have HBz := Lib.hid (ext_trans HB1.out (ext_trans HB.out (ext_trans HC.out HE.out)))
                    simp only [List.length_nil]
                    have xv := ext_alloc wr (.cells #[.bool false, .bool false, .bool false, .bool false, .bool false, .bool false, .bool false, .slice none 0 0] 100)
                    have hCv := Blk.new wr 100 [.bool false, .bool false, .bool false, .bool false, .bool false, .bool false, .bool false, .slice none 0 0]
                    obtain ⟨V, hV⟩ : ∃ V, V = wr.alloc (.cells #[.bool false, .bool false, .bool false, .bool false, .bool false, .bool false, .bool false, .slice none 0 0] 100) := ⟨_, rfl⟩
                    obtain ⟨K, hK⟩ : ∃ K, K = wr.heap.size := ⟨_, rfl⟩
                    rw [← hV] at xv hCv
                    rw [← hK] at hCv
                    have HCv := Lib.hid (rcd0_at hCv)
                    have HBv := Lib.hid (ext_trans HBz.out xv)
                    clear xv hCv HRl HF
                    go_upto_region 51 with fail
                    rw [← hV, ← hK]
                    clear hV hK
                    have HPv := Lib.hid (H.out.ext HBv.out)
                    go_loopw [21] (fun s21 wr => ∃ k : Nat, s21 = .int .i64 k ∧ k ≤ ms.length ∧ Hid (∀ c, DuesP (ms.drop k) c → DuesP ms c) ∧ Hid (Below V.heap.size V wr)) (fun s21 _ => ms.length - (intOf s21).toNat)
                    case atStart => exact ⟨0, rfl, Nat.zero_le _, fun c h => by simpa using h, Below.refl _ _⟩
                    case round =>
                      obtain ⟨k, rfl, hk, HDs, HBq⟩ := hrel
                      have HPr := Lib.hid (HPv.out.ext HBq.out)
                      have p2 := HPr.out.c2
                      have HBr := Lib.hid (ext_trans HBv.out HBq.out)
                      by_cases hkl : k < ms.length
                      · have hkc : (k : Int) < (ms.length : Int) := by omega
                        have HDr := Lib.hid (show ms.drop k = ms[k] :: ms.drop (k + 1) from List.drop_eq_getElem_cons hkl)
                        obtain ⟨bb, oo, e0, hx⟩ := mv_at HPr.out.m hkl
                        subst e0
                        generalize ms[k] = y at hx HDr
                        have c4 := hx.c4
                        have c5 := hx.c5
                        have c6 := hx.c6
                        have HDue := Lib.hid (rdue_any cd0 (by decide) K 0 none 0 1 y.n y.u y.r wr (HCv.out.ext HBq.out))
                        clear hx
                        go_wp2_with fail
                        refine HDue.out.mono ?_
                        rintro e w5 ⟨⟨r1, r2⟩, hD, rfl, hb5⟩
                        have HDd := Lib.hid hD
                        have HR5 := Lib.hid (ext_trans HBr.out hb5)
                        have HW5 := Lib.hid (ext_trans HBq.out hb5)
                        have hcode := hD.code
                        clear hD hb5 HDue c4 c5 c6
                        simp only at hcode
                        by_cases hr : r2 = 0
                        · subst hr
                          have HN := Lib.hid (show ∀ c, DuesP (ms.drop (k + 1)) c → DuesP ms c from fun c h => HDs.out c (by rw [HDr.out]; exact ⟨_, HDd.out, .inr ⟨rfl, h⟩⟩))
                          go_wp2_with fail
                          go_roundw
                          case rel => exact ⟨k + 1, by go_num, by omega, HN.out, HW5.out⟩
                          case measure => show ms.length - (k + 1) < ms.length - k; omega
                        · have HN := Lib.hid (show DuesP ms r2 from HDs.out r2 (by rw [HDr.out]; exact ⟨_, HDd.out, .inl ⟨hr, rfl⟩⟩))
                          have hp : 0 < r2 := by rcases hcode with e | e | e | e <;> omega
                          clear hcode hr
                          go_wp2_with fail
                          go_ret
                          exact ⟨r2, HV.out r2 (.inr ⟨HG.out, .inr ⟨HBd.out, .inr ⟨HKd.out, .inr ⟨HNr.out, HN.out⟩⟩⟩⟩), rfl, HR5.out⟩
                      · have hkc : ¬ (k : Int) < (ms.length : Int) := by omega
                        have HN := Lib.hid (show DuesP ms 0 from HDs.out 0 (by rw [List.drop_of_length_le (by omega)]; rfl))
                        go_wp2_with fail
                        go_ret
                        exact ⟨0, HV.out 0 (.inr ⟨HG.out, .inr ⟨HBd.out, .inr ⟨HKd.out, .inr ⟨HNr.out, HN.out⟩⟩⟩⟩), rfl, HBr.out⟩
                  · have HNk := Lib.hid (show ¬ ranked ms D from fun hr => hn (left_none hr HF.out.2.1 (HF.out.2.2 rfl)))
                    have HBz := Lib.hid (ext_trans HB1.out (ext_trans HB.out (ext_trans HC.out HE.out)))
                    have h0 : 0 < lf.length := List.length_pos_iff.2 hn
                    have h0' : (0 : Int) < (lf.length : Int) := by omega
                    obtain ⟨ln, hln⟩ : ∃ ln, ln = lf.length := ⟨_, rfl⟩
                    rw [← hln] at h0 h0' ⊢
                    clear hln hn
                    go_wp2_with fail
                    go_ret
                    exact ⟨8, HV.out 8 (.inr ⟨HG.out, .inr ⟨HBd.out, .inr ⟨HKd.out, .inl ⟨HNk.out, rfl⟩⟩⟩⟩), rfl, HBz.out⟩
end Go.Proofs.YtjfiodknjchngaaGreatDoor.Cg
namespace Go.Proofs.YtjfiodknjchngaaGreatDoor.Ce
open Go.RowKit Mem Nest Srs Cf Fk Msi CdP CdM Err Solve Sol

theorem off_list (cd : Cd) : cd.off = [cd.off[0]'(by rw [cd.len]; omega), cd.off[1]'(by rw [cd.len]; omega), cd.off[2]'(by rw [cd.len]; omega), cd.off[3]'(by rw [cd.len]; omega), cd.off[4]'(by rw [cd.len]; omega), cd.off[5]'(by rw [cd.len]; omega), cd.off[6]'(by rw [cd.len]; omega)] := by
  obtain ⟨off, hol, hl⟩ := cd
  match off, hl with
  | [a, b, c, d, e, f, g], _ => rfl
theorem cd_at {w : World} {b : Nat} {cd : Cd} {v0 v1 v2 v3 v4 v5 v6 : Bool} {H : Option Addr} {hc : Nat} (h : Blk w b 99 [.bool v0, .bool v1, .bool v2, .bool v3, .bool v4, .bool v5, .bool v6, .slice H cd.hol.length hc]) (hv : cd.off = [v0, v1, v2, v3, v4, v5, v6]) (hr : Rd w H (ints cd.hol)) : CdA w b 0 cd H hc := by
  obtain ⟨off, hol, hl⟩ := cd
  simp only at hv
  subst hv
  refine ⟨fun j hj => ?_, h.cell 7 rfl, hr⟩
  match j, hj with
    | 0, _ => exact h.cell 0 rfl
    | 1, _ => exact h.cell 1 rfl
    | 2, _ => exact h.cell 2 rfl
    | 3, _ => exact h.cell 3 rfl
    | 4, _ => exact h.cell 4 rfl
    | 5, _ => exact h.cell 5 rfl
    | 6, _ => exact h.cell 6 rfl
theorem keep8 {w : World} {K : Nat} {T : TypeId} {cs : List Value} (P : World → Prop) (hs : ∀ (w' : World) (cs' : List Value) (j : Nat) (v : Value), Blk w' K T cs' → P w' → P (w'.setCell ⟨K, j, none⟩ v)) (hb : Blk w K T cs) (h : P w) (a0 a1 a2 a3 a4 a5 a6 a7 : Value) :
    P ((((((((w.setCell ⟨K, 0, none⟩ a0).setCell ⟨K, 1, none⟩ a1).setCell ⟨K, 2, none⟩ a2).setCell ⟨K, 3, none⟩ a3).setCell ⟨K, 4, none⟩ a4).setCell ⟨K, 5, none⟩ a5).setCell ⟨K, 6, none⟩ a6).setCell ⟨K, 7, none⟩ a7) := by
  have b1 := hb.set 0 a0
  have b2 := b1.set 1 a1
  have b3 := b2.set 2 a2
  have b4 := b3.set 3 a3
  have b5 := b4.set 4 a4
  have b6 := b5.set 5 a5
  have b7 := b6.set 6 a6
  exact hs _ _ _ _ b7 (hs _ _ _ _ b6 (hs _ _ _ _ b5 (hs _ _ _ _ b4 (hs _ _ _ _ b3 (hs _ _ _ _ b2 (hs _ _ _ _ b1 (hs _ _ _ _ hb h)))))))
theorem blk_otr {w : World} {b K : Nat} {T : TypeId} {cs : List Value} (h : Blk w b T cs) (hK : b ≠ K) (j : Nat) (v : Value) : Blk (w.setCell ⟨K, j, none⟩ v) b T cs := by
  unfold Blk at h ⊢
  rw [← h]
  simp [World.setCell, Array.getElem?_modify, Ne.symm hK]
set_option maxRecDepth 100000 in
set_option maxHeartbeats 8000000 in
theorem gopen (st : List UInt8) (fin : List (List UInt8)) (ms : List Mv) (hf : fin.length ≤ 1000) (hm : ms.length ≤ 1000) (hlen : ∀ s ∈ stagesF st fin ms, s.length ≤ 9223372036854775807) (hmn : ∀ m ∈ ms, m.name.length ≤ 9223372036854775807 ∧ m.who.length ≤ 9223372036854775807)
    (FA MA : Option Addr) (fc mc : Nat) (hn : FA = none → fc = 0) (hmc : ms.length ≤ mc) (on : Int) (cd : Cd) (hok : CdOk cd) (xb xo : Nat) (XH : Option Addr) (xhc : Nat) (w : World) (A : Nat → Addr) (hCd : CdA w xb xo cd XH xhc) (hE : E6 w A) (hF : Rd w FA (Srs.strs fin)) (hM : Rd w MA (ms.flatMap mvCells)) :
    Calls Tryz.prog 8 #[planW st fin ms FA fc MA mc, .int .i64 on, .pointer (some ⟨xb, xo, none⟩)] w (OpenPost A (VP st fin ms) st fin ms cd on w) := by
  have bx := Blk.new w 42 [.string ⟨st.toArray⟩, .slice FA fin.length fc, .slice MA ms.length mc]
  have hx1 := ext_alloc w (.cells #[.string ⟨st.toArray⟩, .slice FA fin.length fc, .slice MA ms.length mc] 42)
  obtain ⟨W, hW⟩ : ∃ W, W = w.alloc (.cells #[.string ⟨st.toArray⟩, .slice FA fin.length fc, .slice MA ms.length mc] 42) := ⟨_, rfl⟩
  obtain ⟨K, hK⟩ : ∃ K, K = w.heap.size := ⟨_, rfl⟩
  have bx : Blk W K 42 [.string ⟨st.toArray⟩, .slice FA fin.length fc, .slice MA ms.length mc] := by rw [hW, hK]; exact bx
  rw [← hW] at hx1
  have HX := Lib.hid hx1
  have HKb := Lib.hid bx
  have HKk := Lib.hid (show w.heap.size ≤ K by omega)
  have HF0 := Lib.hid hF
  have HM0 := Lib.hid hM
  have HF := Lib.hid (hF.ext hx1)
  have HM := Lib.hid (hM.ext hx1)
  have HV := Lib.hid (cvalid st fin ms hf hm hlen hmn FA MA fc mc hn hmc W A (hE.below hx1) (hF.ext hx1) (hM.ext hx1))
  have HE := Lib.hid (hE.below hx1)
  have HCx := Lib.hid (hCd.ext hx1)
  have y0 := bx.cell 0 rfl
  have y1 := bx.cell 1 rfl
  have y2 := bx.cell 2 rfl
  unfold planW at HV ⊢
  clear bx hx1 hF hM hE hlen hmn hn hCd
  go_enter Tryz.func8, Tryz.ntmps8
  go_upto_region 1 with fail
  rw [← hW, ← hK]
  clear hW hK
  go_wp2_with fail
  refine HV.out.mono ?_
  rintro e w1 ⟨c, hc, rfl, hb1⟩
  have HB1 := Lib.hid (ext_trans HX.out hb1)
  have HK1 := Lib.hid (Sol.blk_ext HKb.out hb1)
  have HE1 := Lib.hid (HE.out.below hb1)
  have HF1 := Lib.hid (HF.out.ext hb1)
  have HM1 := Lib.hid (HM.out.ext hb1)
  have HC1 := Lib.hid (HCx.out.ext hb1)
  have HP := Lib.hid hc
  clear hb1 y0 y1 y2 HV HE HF HM hc HCx
  by_cases hz : c = 0
  · subst hz
    simp only [errC_zero]
    by_cases hg : Gd on
    · have HG := Lib.hid hg
      go_wp2_with fail
      refine (Dut.day_yes on hg _).mono ?_
      rintro e w2 ⟨rfl, rfl⟩
      have hx2 := ext_alloc w2 (.cells #[.bool false, .bool false, .bool false, .bool false, .bool false, .bool false, .bool false, .slice none 0 0] 99)
      have hCb := Blk.new w2 99 [.bool false, .bool false, .bool false, .bool false, .bool false, .bool false, .bool false, .slice none 0 0]
      obtain ⟨Wc, hWc⟩ : ∃ Wc, Wc = w2.alloc (.cells #[.bool false, .bool false, .bool false, .bool false, .bool false, .bool false, .bool false, .slice none 0 0] 99) := ⟨_, rfl⟩
      obtain ⟨Kc, hKc⟩ : ∃ Kc, Kc = w2.heap.size := ⟨_, rfl⟩
      rw [← hWc] at hx2 hCb
      rw [← hKc] at hCb
      go_upto_region 8 with fail
      rw [← hWc, ← hKc]
      have HKne := Lib.hid (show Kc ≠ K by have := HK1.out.lt; omega)
      have HWx := Lib.hid (ext_trans HB1.out hx2)
      have HKc := Lib.hid (show w.heap.size ≤ Kc by have := HB1.out.size; omega)
      have HCd := Lib.hid hCb
      have HK2 := Lib.hid (blk_ext2 HK1.out hx2)
      have HF2 := Lib.hid (HF1.out.ext hx2)
      have HM2 := Lib.hid (HM1.out.ext hx2)
      have HC2 := Lib.hid (HC1.out.ext hx2)
      have hd : Below Wc.heap.size Wc Wc.drew := ext_drewN Wc 1
      have HDr := Lib.hid hd
      have o0 := cell_ext hd (HC2.out.off 0 (by omega))
      have o1 := cell_ext hd (HC2.out.off 1 (by omega))
      have o2 := cell_ext hd (HC2.out.off 2 (by omega))
      have o3 := cell_ext hd (HC2.out.off 3 (by omega))
      have o4 := cell_ext hd (HC2.out.off 4 (by omega))
      have o5 := cell_ext hd (HC2.out.off 5 (by omega))
      have o6 := cell_ext hd (HC2.out.off 6 (by omega))
      have o7 := cell_ext hd HC2.out.hol
      clear hWc hKc hCb hx2 hg hd
      obtain ⟨v0, hv0⟩ : ∃ v, v = cd.off[0]'(by rw [cd.len]; omega) := ⟨_, rfl⟩
      obtain ⟨v1, hv1⟩ : ∃ v, v = cd.off[1]'(by rw [cd.len]; omega) := ⟨_, rfl⟩
      obtain ⟨v2, hv2⟩ : ∃ v, v = cd.off[2]'(by rw [cd.len]; omega) := ⟨_, rfl⟩
      obtain ⟨v3, hv3⟩ : ∃ v, v = cd.off[3]'(by rw [cd.len]; omega) := ⟨_, rfl⟩
      obtain ⟨v4, hv4⟩ : ∃ v, v = cd.off[4]'(by rw [cd.len]; omega) := ⟨_, rfl⟩
      obtain ⟨v5, hv5⟩ : ∃ v, v = cd.off[5]'(by rw [cd.len]; omega) := ⟨_, rfl⟩
      obtain ⟨v6, hv6⟩ : ∃ v, v = cd.off[6]'(by rw [cd.len]; omega) := ⟨_, rfl⟩
      rw [← hv0, Nat.add_zero] at o0
      rw [← hv1] at o1
      rw [← hv2] at o2
      rw [← hv3] at o3
      rw [← hv4] at o4
      rw [← hv5] at o5
      rw [← hv6] at o6
      have HVs := Lib.hid (show cd.off = [v0, v1, v2, v3, v4, v5, v6] from by
        rw [hv0, hv1, hv2, hv3, hv4, hv5, hv6]
        exact off_list cd)
      clear hv0 hv1 hv2 hv3 hv4 hv5 hv6
      go_cut [] (fun w9 => ∃ (H2 : Option Addr) (hc2 : Nat), Hid (Blk w9 Kc 99 [.bool v0, .bool v1, .bool v2, .bool v3, .bool v4, .bool v5, .bool v6, .slice H2 cd.hol.length hc2] ∧ RdK w9 3 H2 (ints cd.hol) ∧ Blk w9 K 42 [.string ⟨st.toArray⟩, .slice FA fin.length fc, .slice MA ms.length mc] ∧ Below w.heap.size w w9))
      case first =>
        go_region_law (first
          | (go_simp; go_at_call 35; refine (cloneI_any cd.hol hok.len XH xhc _ (HC2.out.rd.ext HDr.out)).mono ?_; rintro e w3 ⟨⟨vH, rfl, hown⟩, hb3⟩; obtain ⟨H2, hc2, rfl, _, _⟩ := own_slice hown; have HB3 := Lib.hid hb3; have HO3 := Lib.hid hown; have HD3 := Lib.hid (blk_ext2 (blk_ext2 HCd.out HDr.out) hb3); have n0 := cell_ext hb3 o0; have n1 := cell_ext hb3 o1; have n2 := cell_ext hb3 o2; have n3 := cell_ext hb3 o3; have n4 := cell_ext hb3 o4; have n5 := cell_ext hb3 o5; have n6 := cell_ext hb3 o6; have n7 := cell_ext hb3 o7; have d0 := HD3.out.cell 0 rfl; have d1 := HD3.out.cell 1 rfl; have d2 := HD3.out.cell 2 rfl; have d3 := HD3.out.cell 3 rfl; have d4 := HD3.out.cell 4 rfl; have d5 := HD3.out.cell 5 rfl; have d6 := HD3.out.cell 6 rfl; have d7 := HD3.out.cell 7 rfl; have f0 := HD3.out.free 0; have f1 := HD3.out.free 1; have f2 := HD3.out.free 2; have f3 := HD3.out.free 3; have f4 := HD3.out.free 4; have f5 := HD3.out.free 5; have f6 := HD3.out.free 6; have f7 := HD3.out.free 7; clear hown hb3))
        all_goals (
          go_wp2_with fail
          go_meet
          refine ⟨H2, hc2, Lib.hid ⟨(((((((HD3.out.set 0 _).set 1 _).set 2 _).set 3 _).set 4 _).set 5 _).set 6 _).set 7 _, ?_, ?_, ?_⟩⟩
          · exact keep8 (fun w' => RdK w' 3 H2 (ints cd.hol)) (fun w' cs' j v hb h => rdk_set h hb (by decide) j v) HD3.out (RdK.of_own HO3.out) _ _ _ _ _ _ _ _
          · exact keep8 (fun w' => Blk w' K 42 [.string ⟨st.toArray⟩, .slice FA fin.length fc, .slice MA ms.length mc]) (fun w' cs' j v _ h => blk_otr h (Ne.symm HKne.out) j v) HD3.out (blk_ext2 (blk_ext2 HK2.out HDr.out) HB3.out) _ _ _ _ _ _ _ _
          · exact keep8 (fun w' => Below w.heap.size w w') (fun w' cs' j v _ h => Below.setCell (p := ⟨Kc, j, none⟩) h HKc.out v) HD3.out (ext_trans HWx.out (ext_trans HDr.out HB3.out)) _ _ _ _ _ _ _ _)
      case rest =>
        obtain ⟨H2, hc2, HX8⟩ := hcut
        obtain ⟨Wd, rfl⟩ : ∃ Wd, Wd = wc := ⟨_, rfl⟩
        clear o0 o1 o2 o3 o4 o5 o6 o7
        have HH9 := Lib.hid HX8.out.2.1
        have HCa := Lib.hid (cd_at HX8.out.1 HVs.out HX8.out.2.1.rd)
        have hd : Below Wd.heap.size Wd Wd.drew := ext_drewN Wd 1
        have HKd := Lib.hid (blk_ext2 HX8.out.2.2.1 hd)
        have HFd := Lib.hid ((HF0.out.ext HX8.out.2.2.2).ext hd)
        have HMd := Lib.hid ((HM0.out.ext HX8.out.2.2.2).ext hd)
        have k1 := HKd.out.cell 1 rfl
        have k2 := HKd.out.cell 2 rfl
        have HWx := Lib.hid HX8.out.2.2.2
        go_wp2_with fail
        go_cut [] (fun w9 => ∃ (F2 : Option Addr) (fc2 : Nat) (M2 : Option Addr) (mc2 : Nat), Hid (Blk w9 K 42 [.string ⟨st.toArray⟩, .slice F2 fin.length fc2, .slice M2 ms.length mc2] ∧ Fx w9 ⟨st, fin, ms, F2, fc2, M2, mc2, Kc, cd, H2, hc2, on⟩ ∧ Below w.heap.size w w9))
        case first =>
          go_region_law (first
            | (go_simp; go_at_call 36; refine (cloneS_any fin (by omega) FA fc _ HFd.out).mono ?_; rintro e w3 ⟨⟨F2, fc2, rfl, hr1, hn1, hl1⟩, hb3⟩; have HB3 := Lib.hid hb3; have HR1 := Lib.hid hr1; have HK3 := Lib.hid (blk_ext2 HKd.out hb3); have q1 := HK3.out.cell 1 rfl; have q2 := HK3.out.cell 2 rfl; have HM3 := Lib.hid (HMd.out.ext hb3); clear hr1 hn1 hl1 hb3)
            | (go_simp; go_at_call 37; refine (cloneM_any ms (by omega) MA mc _ HM3.out).mono ?_; rintro e w4 ⟨⟨M2, mc2, rfl, hr2, hn2, hl2⟩, hb4⟩; have HB4 := Lib.hid hb4; have HR2 := Lib.hid hr2; have HK4 := Lib.hid (blk_ext2 HK3.out hb4); have r1 := HK4.out.cell 1 rfl; have r2 := HK4.out.cell 2 rfl; have r3 := HK4.out.free 1; have r4 := fun v => (HK4.out.set 1 v).free 2; have r5 := fun v => (HK4.out.set 1 v).cell 2 rfl; clear hr2 hn2 hl2 hb4))
          all_goals go_wp2_with fail
          all_goals go_meet
          all_goals refine ⟨F2, fc2, M2, mc2, Lib.hid ⟨(HK4.out.set 1 _).set 2 _, ?_, ?_⟩⟩
          all_goals first
            | exact ⟨rdk_set (rdk_set (HR1.out.ext HB4.out) HK4.out (by decide) 1 _) (HK4.out.set 1 _) (by decide) 2 _, rdk_set (rdk_set HR2.out HK4.out (by decide) 1 _) (HK4.out.set 1 _) (by decide) 2 _, cda_set (cda_set (((HCa.out.ext hd).ext HB3.out).ext HB4.out) HKne.out 1 _ (rdk_set (((HH9.out.ext hd).ext HB3.out).ext HB4.out) HK4.out (by decide) 1 _).rd) HKne.out 2 _ (rdk_set (rdk_set (((HH9.out.ext hd).ext HB3.out).ext HB4.out) HK4.out (by decide) 1 _) (HK4.out.set 1 _) (by decide) 2 _).rd, hok, hf, hm⟩
            | exact Below.setCell (p := ⟨K, 2, none⟩) (Below.setCell (p := ⟨K, 1, none⟩) (ext_trans HWx.out (ext_trans hd (ext_trans HB3.out HB4.out))) HKk.out _) HKk.out _
        case rest =>
          obtain ⟨F2, fc2, M2, mc2, HX9⟩ := hcut
          obtain ⟨Wf, rfl⟩ : ∃ Wf, Wf = wc := ⟨_, rfl⟩
          have q0 := HX9.out.1.cell 0 rfl
          have q1 := HX9.out.1.cell 1 rfl
          have q2 := HX9.out.1.cell 2 rfl
          have hmk := fun w => make_ints ms.length (by omega) w
          have hdr : Below Wf.heap.size Wf Wf.drew := ext_drewN Wf 1
          clear hd k1 k2
          go_wp2_with fail
          go_region_held3 (fun w' => w'.cell? ⟨K, 0, none⟩ = some (.string ⟨st.toArray⟩) ∧ w'.cell? ⟨K, 1, none⟩ = some (.slice F2 fin.length fc2) ∧ w'.cell? ⟨K, 2, none⟩ = some (.slice M2 ms.length mc2))
            ((first | exact ⟨q0, q1, q2⟩ | exact ⟨cell_ext hdr q0, cell_ext hdr q1, cell_ext hdr q2⟩ | exact ⟨cell_ext (ext_trans hdr (ext_alloc _ _)) q0, cell_ext (ext_trans hdr (ext_alloc _ _)) q1, cell_ext (ext_trans hdr (ext_alloc _ _)) q2⟩ | exact ⟨cell_ext (ext_trans hdr (ext_trans (ext_alloc _ _) (ext_alloc _ _))) q0, cell_ext (ext_trans hdr (ext_trans (ext_alloc _ _) (ext_alloc _ _))) q1, cell_ext (ext_trans hdr (ext_trans (ext_alloc _ _) (ext_alloc _ _))) q2⟩))
            (fail)
          go_wp2_with fail
          go_ret2
          clear hmk q0 q1 q2
          have xa := ext_alloc Wf (.cells (ints (List.replicate ms.length 0)).toArray 3)
          have ba := Blk.new Wf 3 (ints (List.replicate ms.length 0))
          obtain ⟨Wa, hWa⟩ : ∃ Wa, Wa = Wf.alloc (.cells (ints (List.replicate ms.length 0)).toArray 3) := ⟨_, rfl⟩
          have hsz : Wa.heap.size = Wf.heap.size + 1 := by rw [hWa]; simp
          rw [← hWa] at xa ba ⊢
          have xb := ext_alloc Wa (.cells #[.string ⟨st.toArray⟩, .slice F2 fin.length fc2, .slice M2 ms.length mc2, .pointer (some ⟨Kc, 0, none⟩), .string ⟨st.toArray⟩, .int .i64 on, .int .i64 on, .slice none 0 0, .slice (some ⟨Wf.heap.size, 0, none⟩) ms.length ms.length] 108)
          have bb := Blk.new Wa 108 [.string ⟨st.toArray⟩, .slice F2 fin.length fc2, .slice M2 ms.length mc2, .pointer (some ⟨Kc, 0, none⟩), .string ⟨st.toArray⟩, .int .i64 on, .int .i64 on, .slice none 0 0, .slice (some ⟨Wf.heap.size, 0, none⟩) ms.length ms.length]
          obtain ⟨Wb, hWb⟩ : ∃ Wb, Wb = Wa.alloc (.cells #[.string ⟨st.toArray⟩, .slice F2 fin.length fc2, .slice M2 ms.length mc2, .pointer (some ⟨Kc, 0, none⟩), .string ⟨st.toArray⟩, .int .i64 on, .int .i64 on, .slice none 0 0, .slice (some ⟨Wf.heap.size, 0, none⟩) ms.length ms.length] 108) := ⟨_, rfl⟩
          rw [← hWb] at xb bb ⊢
          have xc : Below Wb.heap.size Wb Wb.drew := ext_drewN Wb 1
          rw [hsz] at bb
          have xall := ext_trans xa (ext_trans xb xc)
          refine ⟨0, HP.out, ext_trans HX9.out.2.2 xall, .inr (.inr ⟨rfl, HG.out, Wf, ⟨st, fin, ms, F2, fc2, M2, mc2, Kc, cd, H2, hc2, on⟩, rfl, rfl, rfl, rfl, rfl, HX9.out.2.2, ⟨xall, HX9.out.2.1, ?_, by simp, none, 0, blk_ext2 bb xc, ?_⟩, rfl⟩)⟩
          · have h := blk_ext2 (blk_ext2 ba xb) xc
            rw [show nats (List.replicate ms.length 0) = ints (List.replicate ms.length 0) by simp [nats, ints]]
            exact h
          · exact World.ownsRow_nil _ _ _ _
    · have HG := Lib.hid hg
      have e3 := HE1.out.v3
      unfold sentV at e3
      go_wp2_with fail
      refine (Dut.day_no on hg _).mono ?_
      rintro e w2 ⟨rfl, rfl⟩
      clear hg
      go_wp2_with fail
      go_quiet (fail)
      go_wp2_with fail
      go_ret2
      exact ⟨0, HP.out, ext_trans HB1.out (ext_drewN _ _), .inr (.inl ⟨rfl, HG.out, rfl⟩)⟩
  · have HEc2 := Lib.hid (show errV (A (c - 1).toNat) = errC A c from (if_neg hz).symm)
    have HZ := Lib.hid hz
    simp only
    rw [← HEc2.out]
    obtain ⟨ad, had⟩ : ∃ ad, ad = A (c - 1).toNat := ⟨_, rfl⟩
    rw [← had] at HEc2 ⊢
    unfold errV at *
    clear had hz
    go_wp2_with fail
    go_ret2
    exact ⟨c, HP.out, HB1.out, .inl ⟨HZ.out, by rw [← HEc2.out]; rfl⟩⟩
end Go.Proofs.YtjfiodknjchngaaGreatDoor.Ce

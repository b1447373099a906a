/- Facts: one more fact in a file: the program's Add and the document's. Facts: one more fact in a file: the document's Add. -/
import Derived.Test.YtnchlnfenebomaaGreatDoorFkW
import Derived.Test.YtnchlnfenebomaaGreatDoorErr
import Derived.Test.YtnchlnfenebomaaGreatDoorNest
import Derived.Test.YtnchlnfenebomaaGreatDoorApp
import Derived.Deep.RegionHeld3
import Derived.Lib.OthersKept
import Derived.Lib.BufferKept
import Derived.BigRegion
import Derived.Deep.QuietTactic
import Derived.Deep.CutBlock
import Derived.Deep.DeepCutAuto
import Derived.Deep.Cut
import Derived.IntWalk
namespace Go.Proofs.YtnchlnfenebomaaGreatDoor.Fk
open Go.RowKit Mem Nest Err App

def faC (x : Fa) : List Value := [.int .i64 x.who, .string ⟨x.name.toArray⟩, .int .i64 x.other, .int .i64 x.value, .int .i64 x.from_, .int .i64 x.to_, .int .i64 x.learnt]
theorem faC_len (x : Fa) : (faC x).length = 7 := rfl
/-- who a fact is about -/
def kindB (x : Fa) : Bool := bodyB x.who && (x.other == -1 || (bodyB x.other && !(x.other == x.who)))
/-- a fact's days -/
def daysB (x : Fa) : Bool := dayB x.from_ && dayB x.learnt && (x.to_ == 0 || (dayB x.to_ && !decide (x.to_ ≤ x.from_)))
/-- the number of the error of a fact that comes; 0: it is taken -/
def codeF (n : Nat) (x : Fa) : Int := if 500 ≤ n then 2 else if wordB x.name = false then 7 else if kindB x = false then 9 else if coinB x.value = false then 3 else if daysB x = false then 4 else 0
theorem code2 {n : Nat} {x : Fa} (h : 500 ≤ n) : codeF n x = 2 := by unfold codeF; rw [if_pos h]
theorem code7 {n : Nat} {x : Fa} (h : ¬ 500 ≤ n) (h1 : wordB x.name = false) : codeF n x = 7 := by unfold codeF; rw [if_neg h, if_pos h1]
theorem code9 {n : Nat} {x : Fa} (h : ¬ 500 ≤ n) (h1 : wordB x.name = true) (h2 : kindB x = false) : codeF n x = 9 := by unfold codeF; rw [if_neg h, if_neg (by simp [h1]), if_pos h2]
theorem code3 {n : Nat} {x : Fa} (h : ¬ 500 ≤ n) (h1 : wordB x.name = true) (h2 : kindB x = true) (h3 : coinB x.value = false) : codeF n x = 3 := by unfold codeF; rw [if_neg h, if_neg (by simp [h1]), if_neg (by simp [h2]), if_pos h3]
theorem code4 {n : Nat} {x : Fa} (h : ¬ 500 ≤ n) (h1 : wordB x.name = true) (h2 : kindB x = true) (h3 : coinB x.value = true) (h4 : daysB x = false) : codeF n x = 4 := by unfold codeF; rw [if_neg h, if_neg (by simp [h1]), if_neg (by simp [h2]), if_neg (by simp [h3]), if_pos h4]
theorem code0 {n : Nat} {x : Fa} (h : ¬ 500 ≤ n) (h1 : wordB x.name = true) (h2 : kindB x = true) (h3 : coinB x.value = true) (h4 : daysB x = true) : codeF n x = 0 := by unfold codeF; rw [if_neg h, if_neg (by simp [h1]), if_neg (by simp [h2]), if_neg (by simp [h3]), if_neg (by simp [h4])]
/-- a file of facts in memory -/
def FileV (TF T : TypeId) (w : World) (base b : Nat) (v : Value) (l : List Fa) : Prop := base ≤ b ∧ Blk w b TF [v] ∧ w.ownsRow base T 7 v l.length (l.flatMap faC)
def FileP (TF T : TypeId) (w : World) (base b : Nat) (l : List Fa) : Prop := ∃ v, FileV TF T w base b v l
theorem FileP.ext {TF T : TypeId} {w w' : World} {base b : Nat} {l : List Fa} (h : FileP TF T w base b l) (hb : Below w.heap.size w w') : FileP TF T w' base b l := by
  obtain ⟨v, h1, h2, h3⟩ := h
  exact ⟨v, h1, h2.ext (hb.mono (show b + 1 ≤ _ from h2.lt)), own_ext h3 hb⟩
/-- another file's rows and block stay -/
theorem FileP.oth {TF T TF' T' : TypeId} {w w' : World} {base b b' : Nat} {l : List Fa} (h : FileP TF T w base b l) (hb : b ≠ b') (hT : TF ≠ T') (hT2 : T ≠ T') (hTb : T ≠ TF') (hF' : ∃ v, Blk w b' TF' [v]) (ho : Lib.OthersKept T' (some b') w w') : FileP TF T w' base b l := by
  obtain ⟨v, h1, h2, h3⟩ := h
  obtain ⟨v', h4⟩ := hF'
  refine ⟨v, h1, ?_, ?_⟩
  · unfold Blk at h2 ⊢
    exact ho b _ h2 (fun e => hb (Option.some.inj e)) (fun c fz e => by simp only [Obj.cells.injEq] at e; exact hT e.2.1)
  · have hk := Lib.ownsRow_kind h3
    refine ⟨h3.1, ?_⟩
    rcases h3.2 with h | ⟨g, cap, cur, hv, hbg, hg, hrest⟩
    · exact .inl h
    · refine .inr ⟨g, cap, cur, hv, hbg, ?_, hrest⟩
      refine ho g _ hg (fun e => ?_) (fun c fz e => by simp only [Obj.cells.injEq] at e; exact hT2 e.2.1)
      obtain rfl := Option.some.inj e
      unfold Blk at h4
      rw [hg] at h4
      simp only [Option.some.injEq, Obj.cells.injEq] at h4
      exact hTb h4.2.1
def AddOk (TF T : TypeId) (l : List Fa) (x : Fa) (base b : Nat) (w w' : World) : Prop := FileP TF T w' base b (l ++ [x]) ∧ Below base w w' ∧ Lib.OthersKept T (some b) w w'
theorem cell_set_other {w : World} {p a : Addr} {u : Value} (h : w.cell? p = some u) (hne : p.block ≠ a.block) (v : Value) : (w.setCell a v).cell? p = some u := by
  rw [← h]
  simp [World.cell?, World.setCell, Array.getElem?_modify, Ne.symm hne]
theorem blk_grown {w w1 : World} {V : Nat} {T : TypeId} {cs : List Value} {row : Option Nat} (h : Blk w V T cs) (hg : w.grownBy w1 row) (hne : some V ≠ row) : Blk w1 V T cs := by
  unfold Blk at h ⊢
  rw [hg.block V (Array.getElem?_eq_some_iff.1 h).1 hne]
  exact h
theorem add_done {TF T : TypeId} (hne : TF ≠ T) {w W w1 : World} {base b : Nat} {v v1 : Value} {l : List Fa} {x : Fa} (hbb : base ≤ b) (hF : Blk W b TF [v]) (hown : W.ownsRow base T 7 v l.length (l.flatMap faC)) (hB : Below w.heap.size w W) (hBw : base ≤ w.heap.size) (hown1 : w1.ownsRow base T 7 v1 (l.length + 1) (l.flatMap faC ++ faC x)) (hg : W.grownBy w1 v.ownBlock) : AddOk TF T l x base b w (w1.setCell ⟨b, 0, none⟩ v1) := by
  have hrow : v.ownBlock ≠ some b := fun e => by
    obtain ⟨c, fz, h⟩ := Lib.ownsRow_kind hown b e
    unfold Blk at hF
    rw [hF] at h
    simp only [Option.some.injEq, Obj.cells.injEq] at h
    exact hne h.2.1
  have hF1 : Blk w1 b TF [v] := by
    unfold Blk at hF ⊢
    rw [hg.block b (Array.getElem?_eq_some_iff.1 hF).1 (fun e => hrow e.symm)]
    exact hF
  have hrow1 : v1.ownBlock ≠ some b := fun e => by
    obtain ⟨c, fz, h⟩ := Lib.ownsRow_kind hown1 b e
    unfold Blk at hF1
    rw [hF1] at h
    simp only [Option.some.injEq, Obj.cells.injEq] at h
    exact hne h.2.1
  have hBW : Below base w W := hB.mono hBw
  refine ⟨⟨v1, hbb, by simpa using hF1.set 0 v1, ?_⟩, ?_, ?_⟩
  · have := hown1.kept (row := some b) (w' := w1.setCell ⟨b, 0, none⟩ v1) ⟨rfl, rfl, rfl, by simp [World.setCell], fun k _ hk => Below.heap_setCell _ _ _ _ (fun e => hk (by simp [e]))⟩ (Or.inr hrow1)
    simpa using this
  · exact (hBW.grown hg (Nat.le_trans hBw hB.size) (fun k hk => (hown.lt k hk).1)).setCell (p := ⟨b, 0, none⟩) hbb _
  · intro k o hk hkb ho
    have hkl : k < w.heap.size := (Array.getElem?_eq_some_iff.1 hk).1
    have h1 : W.heap[k]? = some o := by rw [hB.block k hkl]; exact hk
    have h2 : some k ≠ v.ownBlock := fun e => by
      obtain ⟨c, fz, h⟩ := Lib.ownsRow_kind hown k e.symm
      rw [h1] at h
      exact ho _ _ (Option.some.inj h)
    rw [Below.heap_setCell _ _ _ _ (fun e => hkb (by rw [e])), hg.block k (Array.getElem?_eq_some_iff.1 h1).1 h2]
    exact h1
theorem pfact_info : (Tryz.prog.info? 102).map (fun i => (i.zero, i.size, i.bytes)) = some (some (.agg #[.int .i64 0, .string ByteArray.empty, .int .i64 0, .int .i64 0, .int .i64 0, .int .i64 0, .int .i64 0]), 7, 64) := by kernel_rfl
theorem rfact_info : (Tryz.prog.info? 96).map (fun i => (i.zero, i.size, i.bytes)) = some (some (.agg #[.int .i64 0, .string ByteArray.empty, .int .i64 0, .int .i64 0, .int .i64 0, .int .i64 0, .int .i64 0]), 7, 64) := by kernel_rfl
theorem faC_one (x : Fa) : ∀ u ∈ faC x, u.oneCell' = true := by
  intro u hu
  simp only [faC, List.mem_cons, List.not_mem_nil, or_false] at hu
  rcases hu with rfl | rfl | rfl | rfl | rfl | rfl | rfl <;> rfl
def PAdd (l : List Fa) (x : Fa) (A : Nat → Addr) (base b : Nat) (w : World) (e : Ending) (w' : World) : Prop :=
  (codeF l.length x = 0 ∧ e = .returned .nilIface ∧ AddOk 149 102 l x base b w w') ∨ (∃ c : Nat, c < 11 ∧ codeF l.length x = (c : Int) + 1 ∧ e = .returned (sentV (A c)) ∧ Below w.heap.size w w')
def RAdd (l : List Fa) (x : Fa) (base b : Nat) (w : World) (e : Ending) (w' : World) : Prop :=
  (codeF l.length x = 0 ∧ e = .returned (.int .i64 0) ∧ AddOk 100 96 l x base b w w') ∨ (codeF l.length x ≠ 0 ∧ e = .returned (.int .i64 (codeF l.length x)) ∧ Below w.heap.size w w')
theorem radd_no {l : List Fa} {x : Fa} {base b : Nat} {w w' : World} {c : Int} (hc : codeF l.length x = c) (h0 : c ≠ 0) (hb : Below w.heap.size w w') : RAdd l x base b w (.returned (.int .i64 c)) w' := .inr ⟨by rw [hc]; exact h0, by rw [hc], hb⟩
set_option maxRecDepth 20000 in
set_option maxHeartbeats 4000000 in
theorem padd_any (l : List Fa) (hl : l.length ≤ 500) (x : Fa) (hn : x.name.length ≤ 100) (base b : Nat) (A : Nat → Addr) (w : World) (hE : Errs w A) (hF : FileP 149 102 w base b l) (hBw : base ≤ w.heap.size) :
    Calls Tryz.prog 36 #[.pointer (some ⟨b, 0, none⟩), .agg (faC x).toArray] w (PAdd l x A base b w) := by
  obtain ⟨i0, hi, hz0, hz1, hz2⟩ := info_parts pfact_info
  have HI := Lib.hid hi
  have HZ0 := Lib.hid hz0
  have HZ1 := Lib.hid hz1
  have HZ2 := Lib.hid hz2
  obtain ⟨v, hbb, hblk, hown⟩ := hF
  obtain ⟨A0, c0, rfl, _⟩ := own_slice hown
  have bx := Blk.new w 102 (faC x)
  have hx := ext_alloc w (.cells (faC x).toArray 102)
  obtain ⟨W, hW⟩ : ∃ W, W = w.alloc (.cells (faC x).toArray 102) := ⟨_, rfl⟩
  obtain ⟨K, hK⟩ : ∃ K, K = w.heap.size := ⟨_, rfl⟩
  rw [← hW] at bx hx
  rw [← hK] at bx
  have hfb := hblk.ext (hx.mono (show b + 1 ≤ _ from hblk.lt))
  have HFB := Lib.hid hfb
  have HOW := Lib.hid (own_ext hown hx)
  have HX := Lib.hid hx
  have HBW := Lib.hid hBw
  have HO0 := Lib.hid hown
  have HBL := Lib.hid hblk.lt
  have HBB := Lib.hid hbb
  have HBX := Lib.hid bx
  have HXX := Lib.hid (show ∃ y, y = x from ⟨x, rfl⟩)
  have y0 := hfb.cell 0 rfl
  have y1 := hfb.free 0
  have HN100 := Lib.hid hn
  have hEW := hE.below hx
  have g1 := hEW.v1
  have g2 := hEW.v6
  have g3 := hEW.v8
  have g4 := hEW.v2
  have g5 := hEW.v3
  unfold sentV at g1 g2 g3 g4 g5
  clear hE hEW
  have HKD := Lib.hid (show ∀ q : Bool, kindB x = q ↔ kindB x = q from fun _ => Iff.rfl)
  obtain ⟨nm, who, other, value, from_, to_, learnt, hxe⟩ : ∃ nm who other value from_ to_ learnt, x = ⟨who, nm, other, value, from_, to_, learnt⟩ := ⟨_, _, _, _, _, _, _, rfl⟩
  subst hxe
  have k0 := bx.cell 0 rfl
  have k1 := bx.cell 1 rfl
  have k2 := bx.cell 2 rfl
  have k3 := bx.cell 3 rfl
  have k4 := bx.cell 4 rfl
  have k5 := bx.cell 5 rfl
  have k6 := bx.cell 6 rfl
  have hnl : nm.length ≤ 9223372036854775807 := by have := hn; simp only at this; omega
  clear hi hz0 hz1 hz2 hblk hown hfb hx hBw hbb bx HXX HKD hn
  unfold faC
  simp only at k0 k1 k2 k3 k4 k5 k6
  have HFC := Lib.hid (show faC ⟨who, nm, other, value, from_, to_, learnt⟩ = [.int .i64 who, .string ⟨nm.toArray⟩, .int .i64 other, .int .i64 value, .int .i64 from_, .int .i64 to_, .int .i64 learnt] from rfl)
  have hWe : w.alloc (.cells #[.int .i64 who, .string ⟨nm.toArray⟩, .int .i64 other, .int .i64 value, .int .i64 from_, .int .i64 to_, .int .i64 learnt] 102) = W := hW.symm
  clear hW
  have HWE := Lib.hid hWe
  have HKE := Lib.hid hK
  clear hWe hK
  go_enter Tryz.func36, Tryz.ntmps36
  go_upto_region 1 with fail
  rw [HWE.out, ← HKE.out]
  by_cases h500 : l.length = 500
  · have hq5 : ((l.length : Int) == 500) = true := by rw [beq_iff_eq]; omega
    have H5 := Lib.hid (show 500 ≤ l.length by omega)
    clear h500
    go_wp2_with fail
    go_ret
    exact .inr ⟨1, by omega, code2 H5.out, rfl, HX.out⟩
  · have hq5 : ((l.length : Int) == 500) = false := by rw [beq_eq_false_iff_ne]; omega
    have H5 := Lib.hid (show ¬ 500 ≤ l.length by omega)
    clear h500
    go_wp2_with fail
    refine (pword_any nm hnl _).mono ?_
    obtain ⟨b7, hb7⟩ : ∃ b, b = wordB nm := ⟨_, rfl⟩
    rw [← hb7]
    have HW2 := Lib.hid hb7
    clear hb7
    rintro e w7 ⟨rfl, rfl⟩
    cases b7 with
    | false =>
      go_wp2_with fail
      go_ret
      exact .inr ⟨6, by omega, code7 H5.out HW2.out.symm, rfl, HX.out⟩
    | true =>
      go_wp2_with fail
      refine (somebody_any who _).mono ?_
      obtain ⟨b6, hb6⟩ : ∃ b, b = bodyB who := ⟨_, rfl⟩
      rw [← hb6]
      have HWH := Lib.hid hb6
      clear hb6
      rintro e w6 ⟨rfl, rfl⟩
      cases b6 with
      | false =>
        go_wp2_with fail
        go_ret
        exact .inr ⟨8, by omega, code9 H5.out HW2.out.symm (show kindB (⟨who, nm, other, value, from_, to_, learnt⟩ : Fa) = false by simp only [kindB]; rw [← HWH.out]; simp), rfl, HX.out⟩
      | true =>
        by_cases ho1 : other = -1
        · subst ho1
          have HKI := Lib.hid (show kindB (⟨who, nm, (-1), value, from_, to_, learnt⟩ : Fa) = true by simp only [kindB]; rw [← HWH.out]; simp)
          go_wp2_with fail
          refine (coin_any value _).mono ?_
          obtain ⟨b4, hb4⟩ : ∃ b, b = coinB value := ⟨_, rfl⟩
          rw [← hb4]
          have HCO := Lib.hid hb4
          clear hb4
          rintro e w4 ⟨rfl, rfl⟩
          cases b4 with
          | false =>
            go_wp2_with fail
            go_ret
            exact .inr ⟨2, by omega, code3 H5.out HW2.out.symm HKI.out HCO.out.symm, rfl, HX.out⟩
          | true =>
            go_wp2_with fail
            refine (day_any from_ _).mono ?_
            obtain ⟨b3, hb3⟩ : ∃ b, b = dayB from_ := ⟨_, rfl⟩
            rw [← hb3]
            have HFR := Lib.hid hb3
            clear hb3
            rintro e w3 ⟨rfl, rfl⟩
            cases b3 with
            | false =>
              go_wp2_with fail
              go_ret
              exact .inr ⟨3, by omega, code4 H5.out HW2.out.symm HKI.out HCO.out.symm (show daysB (⟨who, nm, (-1), value, from_, to_, learnt⟩ : Fa) = false by simp only [daysB]; rw [← HFR.out]; simp), rfl, HX.out⟩
            | true =>
              go_wp2_with fail
              refine (day_any learnt _).mono ?_
              obtain ⟨b2, hb2⟩ : ∃ b, b = dayB learnt := ⟨_, rfl⟩
              rw [← hb2]
              have HLN := Lib.hid hb2
              clear hb2
              rintro e w2 ⟨rfl, rfl⟩
              cases b2 with
              | false =>
                go_wp2_with fail
                go_ret
                exact .inr ⟨3, by omega, code4 H5.out HW2.out.symm HKI.out HCO.out.symm (show daysB (⟨who, nm, (-1), value, from_, to_, learnt⟩ : Fa) = false by simp only [daysB]; rw [← HFR.out, ← HLN.out]; simp), rfl, HX.out⟩
              | true =>
                by_cases ht0 : to_ = 0
                · subst ht0
                  have HDA := Lib.hid (show daysB (⟨who, nm, (-1), value, from_, 0, learnt⟩ : Fa) = true by simp only [daysB]; rw [← HFR.out, ← HLN.out]; simp)
                  go_upto_region 11 with fail
                  (try clear hq1)
                  (try clear hq)
                  (try clear hq2)
                  refine wp_region_held_drew (S := (fun w' => w'.cell? ⟨K, 0, none⟩ = some (.int .i64 who) ∧ w'.cell? ⟨K, 1, none⟩ = some (.string ⟨nm.toArray⟩) ∧ w'.cell? ⟨K, 2, none⟩ = some (.int .i64 (-1)) ∧ w'.cell? ⟨K, 3, none⟩ = some (.int .i64 value) ∧ w'.cell? ⟨K, 4, none⟩ = some (.int .i64 from_) ∧ w'.cell? ⟨K, 5, none⟩ = some (.int .i64 0) ∧ w'.cell? ⟨K, 6, none⟩ = some (.int .i64 learnt))) (by kernel_rfl) ?_ (fun hHeld => ?_)
                  · exact ⟨k0, k1, k2, k3, k4, k5, k6⟩
                  refine wpAnyH_take (i := 0) (v := ?_) rfl (by kernel_rfl) (by kernel_rfl) (by kernel_rfl) (fun _ _ _ h => h) (Or.inl ⟨by rfl, ?_⟩) (by assumption) ?_
                  rotate_left
                  · intro w hSw; (try dsimp only at hSw); go_simp; try with_reducible rfl
                  (try dsimp only [Act.put, List.setIfInBounds_toArray, List.set_cons_zero, List.set_cons_succ])
                  refine wpAnyH_take (i := 1) (v := ?_) rfl (by kernel_rfl) (by kernel_rfl) (by kernel_rfl) (fun _ _ _ h => h) (Or.inl ⟨by rfl, ?_⟩) (by assumption) ?_
                  rotate_left
                  · intro w hSw; (try dsimp only at hSw); go_simp; try with_reducible rfl
                  (try dsimp only [Act.put, List.setIfInBounds_toArray, List.set_cons_zero, List.set_cons_succ])
                  refine wpAnyH_take (i := 2) (v := ?_) rfl (by kernel_rfl) (by kernel_rfl) (by kernel_rfl) (fun _ _ _ h => h) (Or.inl ⟨by rfl, ?_⟩) (by assumption) ?_
                  rotate_left
                  · intro w hSw; (try dsimp only at hSw); go_simp; try with_reducible rfl
                  (try dsimp only [Act.put, List.setIfInBounds_toArray, List.set_cons_zero, List.set_cons_succ])
                  refine wpAnyH_take (i := 3) (v := ?_) rfl (by kernel_rfl) (by kernel_rfl) (by kernel_rfl) (fun _ _ _ h => h) (Or.inl ⟨by rfl, ?_⟩) (by assumption) ?_
                  rotate_left
                  · intro w hSw; (try dsimp only at hSw); go_simp; try with_reducible rfl
                  (try dsimp only [Act.put, List.setIfInBounds_toArray, List.set_cons_zero, List.set_cons_succ])
                  refine wpAnyH_take (i := 5) (v := ?_) rfl (by kernel_rfl) (by kernel_rfl) (by kernel_rfl) (fun _ _ _ h => h) (Or.inl ⟨by rfl, ?_⟩) (by assumption) ?_
                  rotate_left
                  · intro w hSw; (try dsimp only at hSw); go_simp; try with_reducible rfl
                  (try dsimp only [Act.put, List.setIfInBounds_toArray, List.set_cons_zero, List.set_cons_succ])
                  refine wpAnyH_ready (rs := [4, 6]) (by kernel_rfl) (by simp) ?_
                  refine AllReadyH.cons rfl (fun K2 hK2 => ?_) ?_
                  · have y0d : (W.drewN 1).cell? ⟨b, 0, none⟩ = some (.slice A0 l.length c0) := cell_ext (ext_drewN W 1) y0
                    go_simp
                    refine hK2.out _ _ ?_ (fun hHeld => ?_)
                    · exact ⟨(cell_ext (ext_drewN W 1) k0), (cell_ext (ext_drewN W 1) k1), (cell_ext (ext_drewN W 1) k2), (cell_ext (ext_drewN W 1) k3), (cell_ext (ext_drewN W 1) k4), (cell_ext (ext_drewN W 1) k5), (cell_ext (ext_drewN W 1) k6)⟩
                    clear hK2 K2
                    (try dsimp only [Act.put, List.setIfInBounds_toArray, List.set_cons_zero, List.set_cons_succ])
                    refine wpAnyH_ready (rs := [6]) (by kernel_rfl) (by simp) ?_
                    refine AllReadyH.cons rfl (fun K2 hK2 => ?_) ?_
                    · go_simp
                      have HW6 := Lib.hid (ext_trans (ext_alloc W (.cells #[.int .i64 who, .string ⟨nm.toArray⟩, .int .i64 (-1), .int .i64 value, .int .i64 from_, .int .i64 0, .int .i64 learnt] 102)) (ext_drewN (W.alloc (.cells #[.int .i64 who, .string ⟨nm.toArray⟩, .int .i64 (-1), .int .i64 value, .int .i64 from_, .int .i64 0, .int .i64 learnt] 102)) 1))
                      refine hK2.out _ _ ?_ (fun hHeld => ?_)
                      · exact ⟨(cell_ext HW6.out k0), (cell_ext HW6.out k1), (cell_ext HW6.out k2), (cell_ext HW6.out k3), (cell_ext HW6.out k4), (cell_ext HW6.out k5), (cell_ext HW6.out k6)⟩
                      clear hK2 K2
                      (try dsimp only [Act.put, List.setIfInBounds_toArray, List.set_cons_zero, List.set_cons_succ])
                      refine wpAnyH_ready (rs := [7]) (by kernel_rfl) (by simp) ?_
                      refine AllReadyH.cons rfl (fun K2 hK2 => ?_) ?_
                      · refine step_append_rd _ (by rfl) _ _ _ (by rfl) base 102 i0 _ 7 64 Tryz.underlying147 HI.out HZ0.out HZ1.out HZ2.out rfl (by omega) (.slice A0 l.length c0) l.length (l.flatMap faC) (by rfl) (own_ext HOW.out HW6.out) (some ⟨W.heap.size, 0, none⟩) 1 1 (faC ⟨who, nm, (-1), value, from_, 0, learnt⟩) (by rfl) (fun h => by cases h) rfl (fun j u hj => ⟨W.heap.size, 0, rfl, by rw [Nat.zero_add]; exact (Blk.new W 102 (faC ⟨who, nm, (-1), value, from_, 0, learnt⟩)).cell j hj⟩) (faC_one _) (by unfold maxLen; omega) (by omega) (Nat.le_trans (Nat.le_trans HBW.out HX.out.size) HW6.out.size) ?_
                        intro v1 w1 hown1 hg1
                        obtain ⟨A1, c1, rfl, _⟩ := own_slice hown1
                        have HDN := Lib.hid (add_done (TF := 149) (T := 102) (by decide) (x := ⟨who, nm, (-1), value, from_, 0, learnt⟩) HBB.out (HFB.out.ext (HW6.out.mono (show b + 1 ≤ _ from HFB.out.lt))) (own_ext HOW.out HW6.out) (ext_trans HX.out HW6.out) HBW.out hown1 hg1)
                        have hrow : some b ≠ (Value.slice A0 l.length c0).ownBlock := fun e => by
                          obtain ⟨c, fz, h⟩ := Lib.ownsRow_kind HOW.out b e.symm
                          have h2 := HFB.out
                          unfold Blk at h2
                          rw [h2] at h
                          simp only [Option.some.injEq, Obj.cells.injEq] at h
                          exact absurd h.2.1 (by decide)
                        have hrowK : some K ≠ (Value.slice A0 l.length c0).ownBlock := fun e => by
                          have := (HO0.out.lt K e.symm).2
                          rw [HKE.out] at this
                          omega
                        have hKb : K ≠ b := by
                          have := HBL.out
                          rw [HKE.out]
                          omega
                        have hb1 := blk_grown (HFB.out.ext (HW6.out.mono (show b + 1 ≤ _ from HFB.out.lt))) hg1 hrow
                        have z1 := hb1.cell 0 rfl
                        have z2 := hb1.free 0
                        refine hK2.out _ _ ?_ (fun hHeld => ?_)
                        · exact ⟨hg1.cell (cell_ext HW6.out k0) hrowK, hg1.cell (cell_ext HW6.out k1) hrowK, hg1.cell (cell_ext HW6.out k2) hrowK, hg1.cell (cell_ext HW6.out k3) hrowK, hg1.cell (cell_ext HW6.out k4) hrowK, hg1.cell (cell_ext HW6.out k5) hrowK, hg1.cell (cell_ext HW6.out k6) hrowK⟩
                        clear hK2 K2
                        (try dsimp only [Act.put, List.setIfInBounds_toArray, List.set_cons_zero, List.set_cons_succ])
                        refine wpAnyH_take (i := 8) (v := ?_) rfl (by kernel_rfl) (by kernel_rfl) (by kernel_rfl) (fun _ _ _ h => h) (Or.inl ⟨by rfl, ?_⟩) (by assumption) ?_
                        rotate_left
                        · intro w hSw; (try dsimp only at hSw); go_simp; try with_reducible rfl
                        (try dsimp only [Act.put, List.setIfInBounds_toArray, List.set_cons_zero, List.set_cons_succ])
                        refine wpAnyH_take (i := 9) (v := ?_) rfl (by kernel_rfl) (by kernel_rfl) (by kernel_rfl) (fun _ _ _ h => h) (Or.inl ⟨by rfl, ?_⟩) (by assumption) ?_
                        rotate_left
                        · intro w hSw; (try dsimp only at hSw); go_simp; try with_reducible rfl
                        (try dsimp only [Act.put, List.setIfInBounds_toArray, List.set_cons_zero, List.set_cons_succ])
                        refine wpAnyH_ready (rs := [10]) (by kernel_rfl) (by simp) ?_
                        refine AllReadyH.cons rfl (fun K2 hK2 => ?_) ?_
                        · go_simp
                          refine hK2.out _ _ ?_ (fun hHeld => ?_)
                          · exact ⟨cell_set_other (hg1.cell (cell_ext HW6.out k0) hrowK) hKb _, cell_set_other (hg1.cell (cell_ext HW6.out k1) hrowK) hKb _, cell_set_other (hg1.cell (cell_ext HW6.out k2) hrowK) hKb _, cell_set_other (hg1.cell (cell_ext HW6.out k3) hrowK) hKb _, cell_set_other (hg1.cell (cell_ext HW6.out k4) hrowK) hKb _, cell_set_other (hg1.cell (cell_ext HW6.out k5) hrowK) hKb _, cell_set_other (hg1.cell (cell_ext HW6.out k6) hrowK) hKb _⟩
                          clear hK2 K2
                          (try dsimp only [Act.put, List.setIfInBounds_toArray, List.set_cons_zero, List.set_cons_succ])
                          refine wpAnyH_done (by kernel_rfl) ?_ _
                          go_wp2_with fail
                          go_ret
                          exact .inl ⟨code0 H5.out HW2.out.symm HKI.out HCO.out.symm HDA.out, rfl, HDN.out⟩
                        exact AllReadyH.nil
                      exact AllReadyH.nil
                    exact AllReadyH.nil
                  refine AllReadyH.cons rfl (fun K2 hK2 => ?_) ?_
                  · go_simp
                    have HW6 := Lib.hid (ext_trans (ext_alloc W (.cells #[.int .i64 who, .string ⟨nm.toArray⟩, .int .i64 (-1), .int .i64 value, .int .i64 from_, .int .i64 0, .int .i64 learnt] 102)) (ext_drewN (W.alloc (.cells #[.int .i64 who, .string ⟨nm.toArray⟩, .int .i64 (-1), .int .i64 value, .int .i64 from_, .int .i64 0, .int .i64 learnt] 102)) 1))
                    refine hK2.out _ _ ?_ (fun hHeld => ?_)
                    · exact ⟨(cell_ext HW6.out k0), (cell_ext HW6.out k1), (cell_ext HW6.out k2), (cell_ext HW6.out k3), (cell_ext HW6.out k4), (cell_ext HW6.out k5), (cell_ext HW6.out k6)⟩
                    clear hK2 K2
                    (try dsimp only [Act.put, List.setIfInBounds_toArray, List.set_cons_zero, List.set_cons_succ])
                    refine wpAnyH_ready (rs := [4]) (by kernel_rfl) (by simp) ?_
                    refine AllReadyH.cons rfl (fun K2 hK2 => ?_) ?_
                    · have y0e : (W.alloc (.cells #[.int .i64 who, .string ⟨nm.toArray⟩, .int .i64 (-1), .int .i64 value, .int .i64 from_, .int .i64 0, .int .i64 learnt] 102)).drew.cell? ⟨b, 0, none⟩ = some (.slice A0 l.length c0) := cell_ext HW6.out y0
                      go_simp
                      refine hK2.out _ _ ?_ (fun hHeld => ?_)
                      · exact ⟨(cell_ext HW6.out k0), (cell_ext HW6.out k1), (cell_ext HW6.out k2), (cell_ext HW6.out k3), (cell_ext HW6.out k4), (cell_ext HW6.out k5), (cell_ext HW6.out k6)⟩
                      clear hK2 K2
                      (try dsimp only [Act.put, List.setIfInBounds_toArray, List.set_cons_zero, List.set_cons_succ])
                      refine wpAnyH_ready (rs := [7]) (by kernel_rfl) (by simp) ?_
                      refine AllReadyH.cons rfl (fun K2 hK2 => ?_) ?_
                      · refine step_append_rd _ (by rfl) _ _ _ (by rfl) base 102 i0 _ 7 64 Tryz.underlying147 HI.out HZ0.out HZ1.out HZ2.out rfl (by omega) (.slice A0 l.length c0) l.length (l.flatMap faC) (by rfl) (own_ext HOW.out HW6.out) (some ⟨W.heap.size, 0, none⟩) 1 1 (faC ⟨who, nm, (-1), value, from_, 0, learnt⟩) (by rfl) (fun h => by cases h) rfl (fun j u hj => ⟨W.heap.size, 0, rfl, by rw [Nat.zero_add]; exact (Blk.new W 102 (faC ⟨who, nm, (-1), value, from_, 0, learnt⟩)).cell j hj⟩) (faC_one _) (by unfold maxLen; omega) (by omega) (Nat.le_trans (Nat.le_trans HBW.out HX.out.size) HW6.out.size) ?_
                        intro v1 w1 hown1 hg1
                        obtain ⟨A1, c1, rfl, _⟩ := own_slice hown1
                        have HDN := Lib.hid (add_done (TF := 149) (T := 102) (by decide) (x := ⟨who, nm, (-1), value, from_, 0, learnt⟩) HBB.out (HFB.out.ext (HW6.out.mono (show b + 1 ≤ _ from HFB.out.lt))) (own_ext HOW.out HW6.out) (ext_trans HX.out HW6.out) HBW.out hown1 hg1)
                        have hrow : some b ≠ (Value.slice A0 l.length c0).ownBlock := fun e => by
                          obtain ⟨c, fz, h⟩ := Lib.ownsRow_kind HOW.out b e.symm
                          have h2 := HFB.out
                          unfold Blk at h2
                          rw [h2] at h
                          simp only [Option.some.injEq, Obj.cells.injEq] at h
                          exact absurd h.2.1 (by decide)
                        have hrowK : some K ≠ (Value.slice A0 l.length c0).ownBlock := fun e => by
                          have := (HO0.out.lt K e.symm).2
                          rw [HKE.out] at this
                          omega
                        have hKb : K ≠ b := by
                          have := HBL.out
                          rw [HKE.out]
                          omega
                        have hb1 := blk_grown (HFB.out.ext (HW6.out.mono (show b + 1 ≤ _ from HFB.out.lt))) hg1 hrow
                        have z1 := hb1.cell 0 rfl
                        have z2 := hb1.free 0
                        refine hK2.out _ _ ?_ (fun hHeld => ?_)
                        · exact ⟨hg1.cell (cell_ext HW6.out k0) hrowK, hg1.cell (cell_ext HW6.out k1) hrowK, hg1.cell (cell_ext HW6.out k2) hrowK, hg1.cell (cell_ext HW6.out k3) hrowK, hg1.cell (cell_ext HW6.out k4) hrowK, hg1.cell (cell_ext HW6.out k5) hrowK, hg1.cell (cell_ext HW6.out k6) hrowK⟩
                        clear hK2 K2
                        (try dsimp only [Act.put, List.setIfInBounds_toArray, List.set_cons_zero, List.set_cons_succ])
                        refine wpAnyH_take (i := 8) (v := ?_) rfl (by kernel_rfl) (by kernel_rfl) (by kernel_rfl) (fun _ _ _ h => h) (Or.inl ⟨by rfl, ?_⟩) (by assumption) ?_
                        rotate_left
                        · intro w hSw; (try dsimp only at hSw); go_simp; try with_reducible rfl
                        (try dsimp only [Act.put, List.setIfInBounds_toArray, List.set_cons_zero, List.set_cons_succ])
                        refine wpAnyH_take (i := 9) (v := ?_) rfl (by kernel_rfl) (by kernel_rfl) (by kernel_rfl) (fun _ _ _ h => h) (Or.inl ⟨by rfl, ?_⟩) (by assumption) ?_
                        rotate_left
                        · intro w hSw; (try dsimp only at hSw); go_simp; try with_reducible rfl
                        (try dsimp only [Act.put, List.setIfInBounds_toArray, List.set_cons_zero, List.set_cons_succ])
                        refine wpAnyH_ready (rs := [10]) (by kernel_rfl) (by simp) ?_
                        refine AllReadyH.cons rfl (fun K2 hK2 => ?_) ?_
                        · go_simp
                          refine hK2.out _ _ ?_ (fun hHeld => ?_)
                          · exact ⟨cell_set_other (hg1.cell (cell_ext HW6.out k0) hrowK) hKb _, cell_set_other (hg1.cell (cell_ext HW6.out k1) hrowK) hKb _, cell_set_other (hg1.cell (cell_ext HW6.out k2) hrowK) hKb _, cell_set_other (hg1.cell (cell_ext HW6.out k3) hrowK) hKb _, cell_set_other (hg1.cell (cell_ext HW6.out k4) hrowK) hKb _, cell_set_other (hg1.cell (cell_ext HW6.out k5) hrowK) hKb _, cell_set_other (hg1.cell (cell_ext HW6.out k6) hrowK) hKb _⟩
                          clear hK2 K2
                          (try dsimp only [Act.put, List.setIfInBounds_toArray, List.set_cons_zero, List.set_cons_succ])
                          refine wpAnyH_done (by kernel_rfl) ?_ _
                          go_wp2_with fail
                          go_ret
                          exact .inl ⟨code0 H5.out HW2.out.symm HKI.out HCO.out.symm HDA.out, rfl, HDN.out⟩
                        exact AllReadyH.nil
                      exact AllReadyH.nil
                    exact AllReadyH.nil
                  exact AllReadyH.nil
                · have hq : (to_ == 0) = false := by simp [ht0]
                  have HT0 := Lib.hid ht0
                  clear ht0
                  go_wp2_with fail
                  refine (day_any to_ _).mono ?_
                  obtain ⟨b1, hb1⟩ : ∃ b, b = dayB to_ := ⟨_, rfl⟩
                  rw [← hb1]
                  have HTO := Lib.hid hb1
                  clear hb1
                  rintro e w1 ⟨rfl, rfl⟩
                  cases b1 with
                  | false =>
                    go_wp2_with fail
                    go_ret
                    exact .inr ⟨3, by omega, code4 H5.out HW2.out.symm HKI.out HCO.out.symm (show daysB (⟨who, nm, (-1), value, from_, to_, learnt⟩ : Fa) = false by simp only [daysB]; rw [← HFR.out, ← HLN.out, ← HTO.out]; simp [HT0.out]), rfl, HX.out⟩
                  | true =>
                    by_cases hle : to_ ≤ from_
                    · have HLE := Lib.hid hle
                      go_wp2_with fail
                      go_ret
                      exact .inr ⟨3, by omega, code4 H5.out HW2.out.symm HKI.out HCO.out.symm (show daysB (⟨who, nm, (-1), value, from_, to_, learnt⟩ : Fa) = false by simp only [daysB]; rw [← HFR.out, ← HLN.out, ← HTO.out, decide_eq_true HLE.out]; simp [HT0.out]), rfl, HX.out⟩
                    · have HLE := Lib.hid hle
                      have HDA := Lib.hid (show daysB (⟨who, nm, (-1), value, from_, to_, learnt⟩ : Fa) = true by simp only [daysB]; rw [← HFR.out, ← HLN.out, ← HTO.out, decide_eq_false HLE.out]; simp)
                      go_upto_region 11 with fail
                      (try clear hq1)
                      (try clear hq)
                      (try clear hq2)
                      refine wp_region_held_drew (S := (fun w' => w'.cell? ⟨K, 0, none⟩ = some (.int .i64 who) ∧ w'.cell? ⟨K, 1, none⟩ = some (.string ⟨nm.toArray⟩) ∧ w'.cell? ⟨K, 2, none⟩ = some (.int .i64 (-1)) ∧ w'.cell? ⟨K, 3, none⟩ = some (.int .i64 value) ∧ w'.cell? ⟨K, 4, none⟩ = some (.int .i64 from_) ∧ w'.cell? ⟨K, 5, none⟩ = some (.int .i64 to_) ∧ w'.cell? ⟨K, 6, none⟩ = some (.int .i64 learnt))) (by kernel_rfl) ?_ (fun hHeld => ?_)
                      · exact ⟨k0, k1, k2, k3, k4, k5, k6⟩
                      refine wpAnyH_take (i := 0) (v := ?_) rfl (by kernel_rfl) (by kernel_rfl) (by kernel_rfl) (fun _ _ _ h => h) (Or.inl ⟨by rfl, ?_⟩) (by assumption) ?_
                      rotate_left
                      · intro w hSw; (try dsimp only at hSw); go_simp; try with_reducible rfl
                      (try dsimp only [Act.put, List.setIfInBounds_toArray, List.set_cons_zero, List.set_cons_succ])
                      refine wpAnyH_take (i := 1) (v := ?_) rfl (by kernel_rfl) (by kernel_rfl) (by kernel_rfl) (fun _ _ _ h => h) (Or.inl ⟨by rfl, ?_⟩) (by assumption) ?_
                      rotate_left
                      · intro w hSw; (try dsimp only at hSw); go_simp; try with_reducible rfl
                      (try dsimp only [Act.put, List.setIfInBounds_toArray, List.set_cons_zero, List.set_cons_succ])
                      refine wpAnyH_take (i := 2) (v := ?_) rfl (by kernel_rfl) (by kernel_rfl) (by kernel_rfl) (fun _ _ _ h => h) (Or.inl ⟨by rfl, ?_⟩) (by assumption) ?_
                      rotate_left
                      · intro w hSw; (try dsimp only at hSw); go_simp; try with_reducible rfl
                      (try dsimp only [Act.put, List.setIfInBounds_toArray, List.set_cons_zero, List.set_cons_succ])
                      refine wpAnyH_take (i := 3) (v := ?_) rfl (by kernel_rfl) (by kernel_rfl) (by kernel_rfl) (fun _ _ _ h => h) (Or.inl ⟨by rfl, ?_⟩) (by assumption) ?_
                      rotate_left
                      · intro w hSw; (try dsimp only at hSw); go_simp; try with_reducible rfl
                      (try dsimp only [Act.put, List.setIfInBounds_toArray, List.set_cons_zero, List.set_cons_succ])
                      refine wpAnyH_take (i := 5) (v := ?_) rfl (by kernel_rfl) (by kernel_rfl) (by kernel_rfl) (fun _ _ _ h => h) (Or.inl ⟨by rfl, ?_⟩) (by assumption) ?_
                      rotate_left
                      · intro w hSw; (try dsimp only at hSw); go_simp; try with_reducible rfl
                      (try dsimp only [Act.put, List.setIfInBounds_toArray, List.set_cons_zero, List.set_cons_succ])
                      refine wpAnyH_ready (rs := [4, 6]) (by kernel_rfl) (by simp) ?_
                      refine AllReadyH.cons rfl (fun K2 hK2 => ?_) ?_
                      · have y0d : (W.drewN 1).cell? ⟨b, 0, none⟩ = some (.slice A0 l.length c0) := cell_ext (ext_drewN W 1) y0
                        go_simp
                        refine hK2.out _ _ ?_ (fun hHeld => ?_)
                        · exact ⟨(cell_ext (ext_drewN W 1) k0), (cell_ext (ext_drewN W 1) k1), (cell_ext (ext_drewN W 1) k2), (cell_ext (ext_drewN W 1) k3), (cell_ext (ext_drewN W 1) k4), (cell_ext (ext_drewN W 1) k5), (cell_ext (ext_drewN W 1) k6)⟩
                        clear hK2 K2
                        (try dsimp only [Act.put, List.setIfInBounds_toArray, List.set_cons_zero, List.set_cons_succ])
                        refine wpAnyH_ready (rs := [6]) (by kernel_rfl) (by simp) ?_
                        refine AllReadyH.cons rfl (fun K2 hK2 => ?_) ?_
                        · go_simp
                          have HW6 := Lib.hid (ext_trans (ext_alloc W (.cells #[.int .i64 who, .string ⟨nm.toArray⟩, .int .i64 (-1), .int .i64 value, .int .i64 from_, .int .i64 to_, .int .i64 learnt] 102)) (ext_drewN (W.alloc (.cells #[.int .i64 who, .string ⟨nm.toArray⟩, .int .i64 (-1), .int .i64 value, .int .i64 from_, .int .i64 to_, .int .i64 learnt] 102)) 1))
                          refine hK2.out _ _ ?_ (fun hHeld => ?_)
                          · exact ⟨(cell_ext HW6.out k0), (cell_ext HW6.out k1), (cell_ext HW6.out k2), (cell_ext HW6.out k3), (cell_ext HW6.out k4), (cell_ext HW6.out k5), (cell_ext HW6.out k6)⟩
                          clear hK2 K2
                          (try dsimp only [Act.put, List.setIfInBounds_toArray, List.set_cons_zero, List.set_cons_succ])
                          refine wpAnyH_ready (rs := [7]) (by kernel_rfl) (by simp) ?_
                          refine AllReadyH.cons rfl (fun K2 hK2 => ?_) ?_
                          · refine step_append_rd _ (by rfl) _ _ _ (by rfl) base 102 i0 _ 7 64 Tryz.underlying147 HI.out HZ0.out HZ1.out HZ2.out rfl (by omega) (.slice A0 l.length c0) l.length (l.flatMap faC) (by rfl) (own_ext HOW.out HW6.out) (some ⟨W.heap.size, 0, none⟩) 1 1 (faC ⟨who, nm, (-1), value, from_, to_, learnt⟩) (by rfl) (fun h => by cases h) rfl (fun j u hj => ⟨W.heap.size, 0, rfl, by rw [Nat.zero_add]; exact (Blk.new W 102 (faC ⟨who, nm, (-1), value, from_, to_, learnt⟩)).cell j hj⟩) (faC_one _) (by unfold maxLen; omega) (by omega) (Nat.le_trans (Nat.le_trans HBW.out HX.out.size) HW6.out.size) ?_
                            intro v1 w1 hown1 hg1
                            obtain ⟨A1, c1, rfl, _⟩ := own_slice hown1
                            have HDN := Lib.hid (add_done (TF := 149) (T := 102) (by decide) (x := ⟨who, nm, (-1), value, from_, to_, learnt⟩) HBB.out (HFB.out.ext (HW6.out.mono (show b + 1 ≤ _ from HFB.out.lt))) (own_ext HOW.out HW6.out) (ext_trans HX.out HW6.out) HBW.out hown1 hg1)
                            have hrow : some b ≠ (Value.slice A0 l.length c0).ownBlock := fun e => by
                              obtain ⟨c, fz, h⟩ := Lib.ownsRow_kind HOW.out b e.symm
                              have h2 := HFB.out
                              unfold Blk at h2
                              rw [h2] at h
                              simp only [Option.some.injEq, Obj.cells.injEq] at h
                              exact absurd h.2.1 (by decide)
                            have hrowK : some K ≠ (Value.slice A0 l.length c0).ownBlock := fun e => by
                              have := (HO0.out.lt K e.symm).2
                              rw [HKE.out] at this
                              omega
                            have hKb : K ≠ b := by
                              have := HBL.out
                              rw [HKE.out]
                              omega
                            have hb1 := blk_grown (HFB.out.ext (HW6.out.mono (show b + 1 ≤ _ from HFB.out.lt))) hg1 hrow
                            have z1 := hb1.cell 0 rfl
                            have z2 := hb1.free 0
                            refine hK2.out _ _ ?_ (fun hHeld => ?_)
                            · exact ⟨hg1.cell (cell_ext HW6.out k0) hrowK, hg1.cell (cell_ext HW6.out k1) hrowK, hg1.cell (cell_ext HW6.out k2) hrowK, hg1.cell (cell_ext HW6.out k3) hrowK, hg1.cell (cell_ext HW6.out k4) hrowK, hg1.cell (cell_ext HW6.out k5) hrowK, hg1.cell (cell_ext HW6.out k6) hrowK⟩
                            clear hK2 K2
                            (try dsimp only [Act.put, List.setIfInBounds_toArray, List.set_cons_zero, List.set_cons_succ])
                            refine wpAnyH_take (i := 8) (v := ?_) rfl (by kernel_rfl) (by kernel_rfl) (by kernel_rfl) (fun _ _ _ h => h) (Or.inl ⟨by rfl, ?_⟩) (by assumption) ?_
                            rotate_left
                            · intro w hSw; (try dsimp only at hSw); go_simp; try with_reducible rfl
                            (try dsimp only [Act.put, List.setIfInBounds_toArray, List.set_cons_zero, List.set_cons_succ])
                            refine wpAnyH_take (i := 9) (v := ?_) rfl (by kernel_rfl) (by kernel_rfl) (by kernel_rfl) (fun _ _ _ h => h) (Or.inl ⟨by rfl, ?_⟩) (by assumption) ?_
                            rotate_left
                            · intro w hSw; (try dsimp only at hSw); go_simp; try with_reducible rfl
                            (try dsimp only [Act.put, List.setIfInBounds_toArray, List.set_cons_zero, List.set_cons_succ])
                            refine wpAnyH_ready (rs := [10]) (by kernel_rfl) (by simp) ?_
                            refine AllReadyH.cons rfl (fun K2 hK2 => ?_) ?_
                            · go_simp
                              refine hK2.out _ _ ?_ (fun hHeld => ?_)
                              · exact ⟨cell_set_other (hg1.cell (cell_ext HW6.out k0) hrowK) hKb _, cell_set_other (hg1.cell (cell_ext HW6.out k1) hrowK) hKb _, cell_set_other (hg1.cell (cell_ext HW6.out k2) hrowK) hKb _, cell_set_other (hg1.cell (cell_ext HW6.out k3) hrowK) hKb _, cell_set_other (hg1.cell (cell_ext HW6.out k4) hrowK) hKb _, cell_set_other (hg1.cell (cell_ext HW6.out k5) hrowK) hKb _, cell_set_other (hg1.cell (cell_ext HW6.out k6) hrowK) hKb _⟩
                              clear hK2 K2
                              (try dsimp only [Act.put, List.setIfInBounds_toArray, List.set_cons_zero, List.set_cons_succ])
                              refine wpAnyH_done (by kernel_rfl) ?_ _
                              go_wp2_with fail
                              go_ret
                              exact .inl ⟨code0 H5.out HW2.out.symm HKI.out HCO.out.symm HDA.out, rfl, HDN.out⟩
                            exact AllReadyH.nil
                          exact AllReadyH.nil
                        exact AllReadyH.nil
                      refine AllReadyH.cons rfl (fun K2 hK2 => ?_) ?_
                      · go_simp
                        have HW6 := Lib.hid (ext_trans (ext_alloc W (.cells #[.int .i64 who, .string ⟨nm.toArray⟩, .int .i64 (-1), .int .i64 value, .int .i64 from_, .int .i64 to_, .int .i64 learnt] 102)) (ext_drewN (W.alloc (.cells #[.int .i64 who, .string ⟨nm.toArray⟩, .int .i64 (-1), .int .i64 value, .int .i64 from_, .int .i64 to_, .int .i64 learnt] 102)) 1))
                        refine hK2.out _ _ ?_ (fun hHeld => ?_)
                        · exact ⟨(cell_ext HW6.out k0), (cell_ext HW6.out k1), (cell_ext HW6.out k2), (cell_ext HW6.out k3), (cell_ext HW6.out k4), (cell_ext HW6.out k5), (cell_ext HW6.out k6)⟩
                        clear hK2 K2
                        (try dsimp only [Act.put, List.setIfInBounds_toArray, List.set_cons_zero, List.set_cons_succ])
                        refine wpAnyH_ready (rs := [4]) (by kernel_rfl) (by simp) ?_
                        refine AllReadyH.cons rfl (fun K2 hK2 => ?_) ?_
                        · have y0e : (W.alloc (.cells #[.int .i64 who, .string ⟨nm.toArray⟩, .int .i64 (-1), .int .i64 value, .int .i64 from_, .int .i64 to_, .int .i64 learnt] 102)).drew.cell? ⟨b, 0, none⟩ = some (.slice A0 l.length c0) := cell_ext HW6.out y0
                          go_simp
                          refine hK2.out _ _ ?_ (fun hHeld => ?_)
                          · exact ⟨(cell_ext HW6.out k0), (cell_ext HW6.out k1), (cell_ext HW6.out k2), (cell_ext HW6.out k3), (cell_ext HW6.out k4), (cell_ext HW6.out k5), (cell_ext HW6.out k6)⟩
                          clear hK2 K2
                          (try dsimp only [Act.put, List.setIfInBounds_toArray, List.set_cons_zero, List.set_cons_succ])
                          refine wpAnyH_ready (rs := [7]) (by kernel_rfl) (by simp) ?_
                          refine AllReadyH.cons rfl (fun K2 hK2 => ?_) ?_
                          · refine step_append_rd _ (by rfl) _ _ _ (by rfl) base 102 i0 _ 7 64 Tryz.underlying147 HI.out HZ0.out HZ1.out HZ2.out rfl (by omega) (.slice A0 l.length c0) l.length (l.flatMap faC) (by rfl) (own_ext HOW.out HW6.out) (some ⟨W.heap.size, 0, none⟩) 1 1 (faC ⟨who, nm, (-1), value, from_, to_, learnt⟩) (by rfl) (fun h => by cases h) rfl (fun j u hj => ⟨W.heap.size, 0, rfl, by rw [Nat.zero_add]; exact (Blk.new W 102 (faC ⟨who, nm, (-1), value, from_, to_, learnt⟩)).cell j hj⟩) (faC_one _) (by unfold maxLen; omega) (by omega) (Nat.le_trans (Nat.le_trans HBW.out HX.out.size) HW6.out.size) ?_
                            intro v1 w1 hown1 hg1
                            obtain ⟨A1, c1, rfl, _⟩ := own_slice hown1
                            have HDN := Lib.hid (add_done (TF := 149) (T := 102) (by decide) (x := ⟨who, nm, (-1), value, from_, to_, learnt⟩) HBB.out (HFB.out.ext (HW6.out.mono (show b + 1 ≤ _ from HFB.out.lt))) (own_ext HOW.out HW6.out) (ext_trans HX.out HW6.out) HBW.out hown1 hg1)
                            have hrow : some b ≠ (Value.slice A0 l.length c0).ownBlock := fun e => by
                              obtain ⟨c, fz, h⟩ := Lib.ownsRow_kind HOW.out b e.symm
                              have h2 := HFB.out
                              unfold Blk at h2
                              rw [h2] at h
                              simp only [Option.some.injEq, Obj.cells.injEq] at h
                              exact absurd h.2.1 (by decide)
                            have hrowK : some K ≠ (Value.slice A0 l.length c0).ownBlock := fun e => by
                              have := (HO0.out.lt K e.symm).2
                              rw [HKE.out] at this
                              omega
                            have hKb : K ≠ b := by
                              have := HBL.out
                              rw [HKE.out]
                              omega
                            have hb1 := blk_grown (HFB.out.ext (HW6.out.mono (show b + 1 ≤ _ from HFB.out.lt))) hg1 hrow
                            have z1 := hb1.cell 0 rfl
                            have z2 := hb1.free 0
                            refine hK2.out _ _ ?_ (fun hHeld => ?_)
                            · exact ⟨hg1.cell (cell_ext HW6.out k0) hrowK, hg1.cell (cell_ext HW6.out k1) hrowK, hg1.cell (cell_ext HW6.out k2) hrowK, hg1.cell (cell_ext HW6.out k3) hrowK, hg1.cell (cell_ext HW6.out k4) hrowK, hg1.cell (cell_ext HW6.out k5) hrowK, hg1.cell (cell_ext HW6.out k6) hrowK⟩
                            clear hK2 K2
                            (try dsimp only [Act.put, List.setIfInBounds_toArray, List.set_cons_zero, List.set_cons_succ])
                            refine wpAnyH_take (i := 8) (v := ?_) rfl (by kernel_rfl) (by kernel_rfl) (by kernel_rfl) (fun _ _ _ h => h) (Or.inl ⟨by rfl, ?_⟩) (by assumption) ?_
                            rotate_left
                            · intro w hSw; (try dsimp only at hSw); go_simp; try with_reducible rfl
                            (try dsimp only [Act.put, List.setIfInBounds_toArray, List.set_cons_zero, List.set_cons_succ])
                            refine wpAnyH_take (i := 9) (v := ?_) rfl (by kernel_rfl) (by kernel_rfl) (by kernel_rfl) (fun _ _ _ h => h) (Or.inl ⟨by rfl, ?_⟩) (by assumption) ?_
                            rotate_left
                            · intro w hSw; (try dsimp only at hSw); go_simp; try with_reducible rfl
                            (try dsimp only [Act.put, List.setIfInBounds_toArray, List.set_cons_zero, List.set_cons_succ])
                            refine wpAnyH_ready (rs := [10]) (by kernel_rfl) (by simp) ?_
                            refine AllReadyH.cons rfl (fun K2 hK2 => ?_) ?_
                            · go_simp
                              refine hK2.out _ _ ?_ (fun hHeld => ?_)
                              · exact ⟨cell_set_other (hg1.cell (cell_ext HW6.out k0) hrowK) hKb _, cell_set_other (hg1.cell (cell_ext HW6.out k1) hrowK) hKb _, cell_set_other (hg1.cell (cell_ext HW6.out k2) hrowK) hKb _, cell_set_other (hg1.cell (cell_ext HW6.out k3) hrowK) hKb _, cell_set_other (hg1.cell (cell_ext HW6.out k4) hrowK) hKb _, cell_set_other (hg1.cell (cell_ext HW6.out k5) hrowK) hKb _, cell_set_other (hg1.cell (cell_ext HW6.out k6) hrowK) hKb _⟩
                              clear hK2 K2
                              (try dsimp only [Act.put, List.setIfInBounds_toArray, List.set_cons_zero, List.set_cons_succ])
                              refine wpAnyH_done (by kernel_rfl) ?_ _
                              go_wp2_with fail
                              go_ret
                              exact .inl ⟨code0 H5.out HW2.out.symm HKI.out HCO.out.symm HDA.out, rfl, HDN.out⟩
                            exact AllReadyH.nil
                          exact AllReadyH.nil
                        exact AllReadyH.nil
                      exact AllReadyH.nil
        · have hq1 : (other == -1) = false := by simp [ho1]
          have hq1b : (other != -1) = true := by simp [ho1]
          have HO1 := Lib.hid hq1
          clear ho1
          go_wp2_with fail
          refine (somebody_any other _).mono ?_
          obtain ⟨b5, hb5⟩ : ∃ b, b = bodyB other := ⟨_, rfl⟩
          rw [← hb5]
          have HOT := Lib.hid hb5
          clear hb5
          rintro e w5 ⟨rfl, rfl⟩
          cases b5 with
          | false =>
            go_wp2_with fail
            go_ret
            exact .inr ⟨8, by omega, code9 H5.out HW2.out.symm (show kindB (⟨who, nm, other, value, from_, to_, learnt⟩ : Fa) = false by simp only [kindB]; rw [← HWH.out, ← HOT.out, HO1.out]; simp), rfl, HX.out⟩
          | true =>
            by_cases how : other = who
            · have hq2 : (other == who) = true := by simp [how]
              have HOWH := Lib.hid hq2
              clear how
              go_wp2_with fail
              go_ret
              exact .inr ⟨8, by omega, code9 H5.out HW2.out.symm (show kindB (⟨who, nm, other, value, from_, to_, learnt⟩ : Fa) = false by simp only [kindB]; rw [← HWH.out, ← HOT.out, HOWH.out, HO1.out]; simp), rfl, HX.out⟩
            · have hq2 : (other == who) = false := by simp [how]
              have HOWH := Lib.hid hq2
              clear how
              have HKI := Lib.hid (show kindB (⟨who, nm, other, value, from_, to_, learnt⟩ : Fa) = true by simp only [kindB]; rw [← HWH.out, ← HOT.out, HOWH.out]; simp)
              go_wp2_with fail
              refine (coin_any value _).mono ?_
              obtain ⟨b4, hb4⟩ : ∃ b, b = coinB value := ⟨_, rfl⟩
              rw [← hb4]
              have HCO := Lib.hid hb4
              clear hb4
              rintro e w4 ⟨rfl, rfl⟩
              cases b4 with
              | false =>
                go_wp2_with fail
                go_ret
                exact .inr ⟨2, by omega, code3 H5.out HW2.out.symm HKI.out HCO.out.symm, rfl, HX.out⟩
              | true =>
                go_wp2_with fail
                refine (day_any from_ _).mono ?_
                obtain ⟨b3, hb3⟩ : ∃ b, b = dayB from_ := ⟨_, rfl⟩
                rw [← hb3]
                have HFR := Lib.hid hb3
                clear hb3
                rintro e w3 ⟨rfl, rfl⟩
                cases b3 with
                | false =>
                  go_wp2_with fail
                  go_ret
                  exact .inr ⟨3, by omega, code4 H5.out HW2.out.symm HKI.out HCO.out.symm (show daysB (⟨who, nm, other, value, from_, to_, learnt⟩ : Fa) = false by simp only [daysB]; rw [← HFR.out]; simp), rfl, HX.out⟩
                | true =>
                  go_wp2_with fail
                  refine (day_any learnt _).mono ?_
                  obtain ⟨b2, hb2⟩ : ∃ b, b = dayB learnt := ⟨_, rfl⟩
                  rw [← hb2]
                  have HLN := Lib.hid hb2
                  clear hb2
                  rintro e w2 ⟨rfl, rfl⟩
                  cases b2 with
                  | false =>
                    go_wp2_with fail
                    go_ret
                    exact .inr ⟨3, by omega, code4 H5.out HW2.out.symm HKI.out HCO.out.symm (show daysB (⟨who, nm, other, value, from_, to_, learnt⟩ : Fa) = false by simp only [daysB]; rw [← HFR.out, ← HLN.out]; simp), rfl, HX.out⟩
                  | true =>
                    by_cases ht0 : to_ = 0
                    · subst ht0
                      have HDA := Lib.hid (show daysB (⟨who, nm, other, value, from_, 0, learnt⟩ : Fa) = true by simp only [daysB]; rw [← HFR.out, ← HLN.out]; simp)
                      go_upto_region 11 with fail
                      (try clear hq1)
                      (try clear hq)
                      (try clear hq2)
                      refine wp_region_held_drew (S := (fun w' => w'.cell? ⟨K, 0, none⟩ = some (.int .i64 who) ∧ w'.cell? ⟨K, 1, none⟩ = some (.string ⟨nm.toArray⟩) ∧ w'.cell? ⟨K, 2, none⟩ = some (.int .i64 other) ∧ w'.cell? ⟨K, 3, none⟩ = some (.int .i64 value) ∧ w'.cell? ⟨K, 4, none⟩ = some (.int .i64 from_) ∧ w'.cell? ⟨K, 5, none⟩ = some (.int .i64 0) ∧ w'.cell? ⟨K, 6, none⟩ = some (.int .i64 learnt))) (by kernel_rfl) ?_ (fun hHeld => ?_)
                      · exact ⟨k0, k1, k2, k3, k4, k5, k6⟩
                      refine wpAnyH_take (i := 0) (v := ?_) rfl (by kernel_rfl) (by kernel_rfl) (by kernel_rfl) (fun _ _ _ h => h) (Or.inl ⟨by rfl, ?_⟩) (by assumption) ?_
                      rotate_left
                      · intro w hSw; (try dsimp only at hSw); go_simp; try with_reducible rfl
                      (try dsimp only [Act.put, List.setIfInBounds_toArray, List.set_cons_zero, List.set_cons_succ])
                      refine wpAnyH_take (i := 1) (v := ?_) rfl (by kernel_rfl) (by kernel_rfl) (by kernel_rfl) (fun _ _ _ h => h) (Or.inl ⟨by rfl, ?_⟩) (by assumption) ?_
                      rotate_left
                      · intro w hSw; (try dsimp only at hSw); go_simp; try with_reducible rfl
                      (try dsimp only [Act.put, List.setIfInBounds_toArray, List.set_cons_zero, List.set_cons_succ])
                      refine wpAnyH_take (i := 2) (v := ?_) rfl (by kernel_rfl) (by kernel_rfl) (by kernel_rfl) (fun _ _ _ h => h) (Or.inl ⟨by rfl, ?_⟩) (by assumption) ?_
                      rotate_left
                      · intro w hSw; (try dsimp only at hSw); go_simp; try with_reducible rfl
                      (try dsimp only [Act.put, List.setIfInBounds_toArray, List.set_cons_zero, List.set_cons_succ])
                      refine wpAnyH_take (i := 3) (v := ?_) rfl (by kernel_rfl) (by kernel_rfl) (by kernel_rfl) (fun _ _ _ h => h) (Or.inl ⟨by rfl, ?_⟩) (by assumption) ?_
                      rotate_left
                      · intro w hSw; (try dsimp only at hSw); go_simp; try with_reducible rfl
                      (try dsimp only [Act.put, List.setIfInBounds_toArray, List.set_cons_zero, List.set_cons_succ])
                      refine wpAnyH_take (i := 5) (v := ?_) rfl (by kernel_rfl) (by kernel_rfl) (by kernel_rfl) (fun _ _ _ h => h) (Or.inl ⟨by rfl, ?_⟩) (by assumption) ?_
                      rotate_left
                      · intro w hSw; (try dsimp only at hSw); go_simp; try with_reducible rfl
                      (try dsimp only [Act.put, List.setIfInBounds_toArray, List.set_cons_zero, List.set_cons_succ])
                      refine wpAnyH_ready (rs := [4, 6]) (by kernel_rfl) (by simp) ?_
                      refine AllReadyH.cons rfl (fun K2 hK2 => ?_) ?_
                      · have y0d : (W.drewN 1).cell? ⟨b, 0, none⟩ = some (.slice A0 l.length c0) := cell_ext (ext_drewN W 1) y0
                        go_simp
                        refine hK2.out _ _ ?_ (fun hHeld => ?_)
                        · exact ⟨(cell_ext (ext_drewN W 1) k0), (cell_ext (ext_drewN W 1) k1), (cell_ext (ext_drewN W 1) k2), (cell_ext (ext_drewN W 1) k3), (cell_ext (ext_drewN W 1) k4), (cell_ext (ext_drewN W 1) k5), (cell_ext (ext_drewN W 1) k6)⟩
                        clear hK2 K2
                        (try dsimp only [Act.put, List.setIfInBounds_toArray, List.set_cons_zero, List.set_cons_succ])
                        refine wpAnyH_ready (rs := [6]) (by kernel_rfl) (by simp) ?_
                        refine AllReadyH.cons rfl (fun K2 hK2 => ?_) ?_
                        · go_simp
                          have HW6 := Lib.hid (ext_trans (ext_alloc W (.cells #[.int .i64 who, .string ⟨nm.toArray⟩, .int .i64 other, .int .i64 value, .int .i64 from_, .int .i64 0, .int .i64 learnt] 102)) (ext_drewN (W.alloc (.cells #[.int .i64 who, .string ⟨nm.toArray⟩, .int .i64 other, .int .i64 value, .int .i64 from_, .int .i64 0, .int .i64 learnt] 102)) 1))
                          refine hK2.out _ _ ?_ (fun hHeld => ?_)
                          · exact ⟨(cell_ext HW6.out k0), (cell_ext HW6.out k1), (cell_ext HW6.out k2), (cell_ext HW6.out k3), (cell_ext HW6.out k4), (cell_ext HW6.out k5), (cell_ext HW6.out k6)⟩
                          clear hK2 K2
                          (try dsimp only [Act.put, List.setIfInBounds_toArray, List.set_cons_zero, List.set_cons_succ])
                          refine wpAnyH_ready (rs := [7]) (by kernel_rfl) (by simp) ?_
                          refine AllReadyH.cons rfl (fun K2 hK2 => ?_) ?_
                          · refine step_append_rd _ (by rfl) _ _ _ (by rfl) base 102 i0 _ 7 64 Tryz.underlying147 HI.out HZ0.out HZ1.out HZ2.out rfl (by omega) (.slice A0 l.length c0) l.length (l.flatMap faC) (by rfl) (own_ext HOW.out HW6.out) (some ⟨W.heap.size, 0, none⟩) 1 1 (faC ⟨who, nm, other, value, from_, 0, learnt⟩) (by rfl) (fun h => by cases h) rfl (fun j u hj => ⟨W.heap.size, 0, rfl, by rw [Nat.zero_add]; exact (Blk.new W 102 (faC ⟨who, nm, other, value, from_, 0, learnt⟩)).cell j hj⟩) (faC_one _) (by unfold maxLen; omega) (by omega) (Nat.le_trans (Nat.le_trans HBW.out HX.out.size) HW6.out.size) ?_
                            intro v1 w1 hown1 hg1
                            obtain ⟨A1, c1, rfl, _⟩ := own_slice hown1
                            have HDN := Lib.hid (add_done (TF := 149) (T := 102) (by decide) (x := ⟨who, nm, other, value, from_, 0, learnt⟩) HBB.out (HFB.out.ext (HW6.out.mono (show b + 1 ≤ _ from HFB.out.lt))) (own_ext HOW.out HW6.out) (ext_trans HX.out HW6.out) HBW.out hown1 hg1)
                            have hrow : some b ≠ (Value.slice A0 l.length c0).ownBlock := fun e => by
                              obtain ⟨c, fz, h⟩ := Lib.ownsRow_kind HOW.out b e.symm
                              have h2 := HFB.out
                              unfold Blk at h2
                              rw [h2] at h
                              simp only [Option.some.injEq, Obj.cells.injEq] at h
                              exact absurd h.2.1 (by decide)
                            have hrowK : some K ≠ (Value.slice A0 l.length c0).ownBlock := fun e => by
                              have := (HO0.out.lt K e.symm).2
                              rw [HKE.out] at this
                              omega
                            have hKb : K ≠ b := by
                              have := HBL.out
                              rw [HKE.out]
                              omega
                            have hb1 := blk_grown (HFB.out.ext (HW6.out.mono (show b + 1 ≤ _ from HFB.out.lt))) hg1 hrow
                            have z1 := hb1.cell 0 rfl
                            have z2 := hb1.free 0
                            refine hK2.out _ _ ?_ (fun hHeld => ?_)
                            · exact ⟨hg1.cell (cell_ext HW6.out k0) hrowK, hg1.cell (cell_ext HW6.out k1) hrowK, hg1.cell (cell_ext HW6.out k2) hrowK, hg1.cell (cell_ext HW6.out k3) hrowK, hg1.cell (cell_ext HW6.out k4) hrowK, hg1.cell (cell_ext HW6.out k5) hrowK, hg1.cell (cell_ext HW6.out k6) hrowK⟩
                            clear hK2 K2
                            (try dsimp only [Act.put, List.setIfInBounds_toArray, List.set_cons_zero, List.set_cons_succ])
                            refine wpAnyH_take (i := 8) (v := ?_) rfl (by kernel_rfl) (by kernel_rfl) (by kernel_rfl) (fun _ _ _ h => h) (Or.inl ⟨by rfl, ?_⟩) (by assumption) ?_
                            rotate_left
                            · intro w hSw; (try dsimp only at hSw); go_simp; try with_reducible rfl
                            (try dsimp only [Act.put, List.setIfInBounds_toArray, List.set_cons_zero, List.set_cons_succ])
                            refine wpAnyH_take (i := 9) (v := ?_) rfl (by kernel_rfl) (by kernel_rfl) (by kernel_rfl) (fun _ _ _ h => h) (Or.inl ⟨by rfl, ?_⟩) (by assumption) ?_
                            rotate_left
                            · intro w hSw; (try dsimp only at hSw); go_simp; try with_reducible rfl
                            (try dsimp only [Act.put, List.setIfInBounds_toArray, List.set_cons_zero, List.set_cons_succ])
                            refine wpAnyH_ready (rs := [10]) (by kernel_rfl) (by simp) ?_
                            refine AllReadyH.cons rfl (fun K2 hK2 => ?_) ?_
                            · go_simp
                              refine hK2.out _ _ ?_ (fun hHeld => ?_)
                              · exact ⟨cell_set_other (hg1.cell (cell_ext HW6.out k0) hrowK) hKb _, cell_set_other (hg1.cell (cell_ext HW6.out k1) hrowK) hKb _, cell_set_other (hg1.cell (cell_ext HW6.out k2) hrowK) hKb _, cell_set_other (hg1.cell (cell_ext HW6.out k3) hrowK) hKb _, cell_set_other (hg1.cell (cell_ext HW6.out k4) hrowK) hKb _, cell_set_other (hg1.cell (cell_ext HW6.out k5) hrowK) hKb _, cell_set_other (hg1.cell (cell_ext HW6.out k6) hrowK) hKb _⟩
                              clear hK2 K2
                              (try dsimp only [Act.put, List.setIfInBounds_toArray, List.set_cons_zero, List.set_cons_succ])
                              refine wpAnyH_done (by kernel_rfl) ?_ _
                              go_wp2_with fail
                              go_ret
                              exact .inl ⟨code0 H5.out HW2.out.symm HKI.out HCO.out.symm HDA.out, rfl, HDN.out⟩
                            exact AllReadyH.nil
                          exact AllReadyH.nil
                        exact AllReadyH.nil
                      refine AllReadyH.cons rfl (fun K2 hK2 => ?_) ?_
                      · go_simp
                        have HW6 := Lib.hid (ext_trans (ext_alloc W (.cells #[.int .i64 who, .string ⟨nm.toArray⟩, .int .i64 other, .int .i64 value, .int .i64 from_, .int .i64 0, .int .i64 learnt] 102)) (ext_drewN (W.alloc (.cells #[.int .i64 who, .string ⟨nm.toArray⟩, .int .i64 other, .int .i64 value, .int .i64 from_, .int .i64 0, .int .i64 learnt] 102)) 1))
                        refine hK2.out _ _ ?_ (fun hHeld => ?_)
                        · exact ⟨(cell_ext HW6.out k0), (cell_ext HW6.out k1), (cell_ext HW6.out k2), (cell_ext HW6.out k3), (cell_ext HW6.out k4), (cell_ext HW6.out k5), (cell_ext HW6.out k6)⟩
                        clear hK2 K2
                        (try dsimp only [Act.put, List.setIfInBounds_toArray, List.set_cons_zero, List.set_cons_succ])
                        refine wpAnyH_ready (rs := [4]) (by kernel_rfl) (by simp) ?_
                        refine AllReadyH.cons rfl (fun K2 hK2 => ?_) ?_
                        · have y0e : (W.alloc (.cells #[.int .i64 who, .string ⟨nm.toArray⟩, .int .i64 other, .int .i64 value, .int .i64 from_, .int .i64 0, .int .i64 learnt] 102)).drew.cell? ⟨b, 0, none⟩ = some (.slice A0 l.length c0) := cell_ext HW6.out y0
                          go_simp
                          refine hK2.out _ _ ?_ (fun hHeld => ?_)
                          · exact ⟨(cell_ext HW6.out k0), (cell_ext HW6.out k1), (cell_ext HW6.out k2), (cell_ext HW6.out k3), (cell_ext HW6.out k4), (cell_ext HW6.out k5), (cell_ext HW6.out k6)⟩
                          clear hK2 K2
                          (try dsimp only [Act.put, List.setIfInBounds_toArray, List.set_cons_zero, List.set_cons_succ])
                          refine wpAnyH_ready (rs := [7]) (by kernel_rfl) (by simp) ?_
                          refine AllReadyH.cons rfl (fun K2 hK2 => ?_) ?_
                          · refine step_append_rd _ (by rfl) _ _ _ (by rfl) base 102 i0 _ 7 64 Tryz.underlying147 HI.out HZ0.out HZ1.out HZ2.out rfl (by omega) (.slice A0 l.length c0) l.length (l.flatMap faC) (by rfl) (own_ext HOW.out HW6.out) (some ⟨W.heap.size, 0, none⟩) 1 1 (faC ⟨who, nm, other, value, from_, 0, learnt⟩) (by rfl) (fun h => by cases h) rfl (fun j u hj => ⟨W.heap.size, 0, rfl, by rw [Nat.zero_add]; exact (Blk.new W 102 (faC ⟨who, nm, other, value, from_, 0, learnt⟩)).cell j hj⟩) (faC_one _) (by unfold maxLen; omega) (by omega) (Nat.le_trans (Nat.le_trans HBW.out HX.out.size) HW6.out.size) ?_
                            intro v1 w1 hown1 hg1
                            obtain ⟨A1, c1, rfl, _⟩ := own_slice hown1
                            have HDN := Lib.hid (add_done (TF := 149) (T := 102) (by decide) (x := ⟨who, nm, other, value, from_, 0, learnt⟩) HBB.out (HFB.out.ext (HW6.out.mono (show b + 1 ≤ _ from HFB.out.lt))) (own_ext HOW.out HW6.out) (ext_trans HX.out HW6.out) HBW.out hown1 hg1)
                            have hrow : some b ≠ (Value.slice A0 l.length c0).ownBlock := fun e => by
                              obtain ⟨c, fz, h⟩ := Lib.ownsRow_kind HOW.out b e.symm
                              have h2 := HFB.out
                              unfold Blk at h2
                              rw [h2] at h
                              simp only [Option.some.injEq, Obj.cells.injEq] at h
                              exact absurd h.2.1 (by decide)
                            have hrowK : some K ≠ (Value.slice A0 l.length c0).ownBlock := fun e => by
                              have := (HO0.out.lt K e.symm).2
                              rw [HKE.out] at this
                              omega
                            have hKb : K ≠ b := by
                              have := HBL.out
                              rw [HKE.out]
                              omega
                            have hb1 := blk_grown (HFB.out.ext (HW6.out.mono (show b + 1 ≤ _ from HFB.out.lt))) hg1 hrow
                            have z1 := hb1.cell 0 rfl
                            have z2 := hb1.free 0
                            refine hK2.out _ _ ?_ (fun hHeld => ?_)
                            · exact ⟨hg1.cell (cell_ext HW6.out k0) hrowK, hg1.cell (cell_ext HW6.out k1) hrowK, hg1.cell (cell_ext HW6.out k2) hrowK, hg1.cell (cell_ext HW6.out k3) hrowK, hg1.cell (cell_ext HW6.out k4) hrowK, hg1.cell (cell_ext HW6.out k5) hrowK, hg1.cell (cell_ext HW6.out k6) hrowK⟩
                            clear hK2 K2
                            (try dsimp only [Act.put, List.setIfInBounds_toArray, List.set_cons_zero, List.set_cons_succ])
                            refine wpAnyH_take (i := 8) (v := ?_) rfl (by kernel_rfl) (by kernel_rfl) (by kernel_rfl) (fun _ _ _ h => h) (Or.inl ⟨by rfl, ?_⟩) (by assumption) ?_
                            rotate_left
                            · intro w hSw; (try dsimp only at hSw); go_simp; try with_reducible rfl
                            (try dsimp only [Act.put, List.setIfInBounds_toArray, List.set_cons_zero, List.set_cons_succ])
                            refine wpAnyH_take (i := 9) (v := ?_) rfl (by kernel_rfl) (by kernel_rfl) (by kernel_rfl) (fun _ _ _ h => h) (Or.inl ⟨by rfl, ?_⟩) (by assumption) ?_
                            rotate_left
                            · intro w hSw; (try dsimp only at hSw); go_simp; try with_reducible rfl
                            (try dsimp only [Act.put, List.setIfInBounds_toArray, List.set_cons_zero, List.set_cons_succ])
                            refine wpAnyH_ready (rs := [10]) (by kernel_rfl) (by simp) ?_
                            refine AllReadyH.cons rfl (fun K2 hK2 => ?_) ?_
                            · go_simp
                              refine hK2.out _ _ ?_ (fun hHeld => ?_)
                              · exact ⟨cell_set_other (hg1.cell (cell_ext HW6.out k0) hrowK) hKb _, cell_set_other (hg1.cell (cell_ext HW6.out k1) hrowK) hKb _, cell_set_other (hg1.cell (cell_ext HW6.out k2) hrowK) hKb _, cell_set_other (hg1.cell (cell_ext HW6.out k3) hrowK) hKb _, cell_set_other (hg1.cell (cell_ext HW6.out k4) hrowK) hKb _, cell_set_other (hg1.cell (cell_ext HW6.out k5) hrowK) hKb _, cell_set_other (hg1.cell (cell_ext HW6.out k6) hrowK) hKb _⟩
                              clear hK2 K2
                              (try dsimp only [Act.put, List.setIfInBounds_toArray, List.set_cons_zero, List.set_cons_succ])
                              refine wpAnyH_done (by kernel_rfl) ?_ _
                              go_wp2_with fail
                              go_ret
                              exact .inl ⟨code0 H5.out HW2.out.symm HKI.out HCO.out.symm HDA.out, rfl, HDN.out⟩
                            exact AllReadyH.nil
                          exact AllReadyH.nil
                        exact AllReadyH.nil
                      exact AllReadyH.nil
                    · have hq : (to_ == 0) = false := by simp [ht0]
                      have HT0 := Lib.hid ht0
                      clear ht0
                      go_wp2_with fail
                      refine (day_any to_ _).mono ?_
                      obtain ⟨b1, hb1⟩ : ∃ b, b = dayB to_ := ⟨_, rfl⟩
                      rw [← hb1]
                      have HTO := Lib.hid hb1
                      clear hb1
                      rintro e w1 ⟨rfl, rfl⟩
                      cases b1 with
                      | false =>
                        go_wp2_with fail
                        go_ret
                        exact .inr ⟨3, by omega, code4 H5.out HW2.out.symm HKI.out HCO.out.symm (show daysB (⟨who, nm, other, value, from_, to_, learnt⟩ : Fa) = false by simp only [daysB]; rw [← HFR.out, ← HLN.out, ← HTO.out]; simp [HT0.out]), rfl, HX.out⟩
                      | true =>
                        by_cases hle : to_ ≤ from_
                        · have HLE := Lib.hid hle
                          go_wp2_with fail
                          go_ret
                          exact .inr ⟨3, by omega, code4 H5.out HW2.out.symm HKI.out HCO.out.symm (show daysB (⟨who, nm, other, value, from_, to_, learnt⟩ : Fa) = false by simp only [daysB]; rw [← HFR.out, ← HLN.out, ← HTO.out, decide_eq_true HLE.out]; simp [HT0.out]), rfl, HX.out⟩
                        · have HLE := Lib.hid hle
                          have HDA := Lib.hid (show daysB (⟨who, nm, other, value, from_, to_, learnt⟩ : Fa) = true by simp only [daysB]; rw [← HFR.out, ← HLN.out, ← HTO.out, decide_eq_false HLE.out]; simp)
                          go_upto_region 11 with fail
                          (try clear hq1)
                          (try clear hq)
                          (try clear hq2)
                          refine wp_region_held_drew (S := (fun w' => w'.cell? ⟨K, 0, none⟩ = some (.int .i64 who) ∧ w'.cell? ⟨K, 1, none⟩ = some (.string ⟨nm.toArray⟩) ∧ w'.cell? ⟨K, 2, none⟩ = some (.int .i64 other) ∧ w'.cell? ⟨K, 3, none⟩ = some (.int .i64 value) ∧ w'.cell? ⟨K, 4, none⟩ = some (.int .i64 from_) ∧ w'.cell? ⟨K, 5, none⟩ = some (.int .i64 to_) ∧ w'.cell? ⟨K, 6, none⟩ = some (.int .i64 learnt))) (by kernel_rfl) ?_ (fun hHeld => ?_)
                          · exact ⟨k0, k1, k2, k3, k4, k5, k6⟩
                          refine wpAnyH_take (i := 0) (v := ?_) rfl (by kernel_rfl) (by kernel_rfl) (by kernel_rfl) (fun _ _ _ h => h) (Or.inl ⟨by rfl, ?_⟩) (by assumption) ?_
                          rotate_left
                          · intro w hSw; (try dsimp only at hSw); go_simp; try with_reducible rfl
                          (try dsimp only [Act.put, List.setIfInBounds_toArray, List.set_cons_zero, List.set_cons_succ])
                          refine wpAnyH_take (i := 1) (v := ?_) rfl (by kernel_rfl) (by kernel_rfl) (by kernel_rfl) (fun _ _ _ h => h) (Or.inl ⟨by rfl, ?_⟩) (by assumption) ?_
                          rotate_left
                          · intro w hSw; (try dsimp only at hSw); go_simp; try with_reducible rfl
                          (try dsimp only [Act.put, List.setIfInBounds_toArray, List.set_cons_zero, List.set_cons_succ])
                          refine wpAnyH_take (i := 2) (v := ?_) rfl (by kernel_rfl) (by kernel_rfl) (by kernel_rfl) (fun _ _ _ h => h) (Or.inl ⟨by rfl, ?_⟩) (by assumption) ?_
                          rotate_left
                          · intro w hSw; (try dsimp only at hSw); go_simp; try with_reducible rfl
                          (try dsimp only [Act.put, List.setIfInBounds_toArray, List.set_cons_zero, List.set_cons_succ])
                          refine wpAnyH_take (i := 3) (v := ?_) rfl (by kernel_rfl) (by kernel_rfl) (by kernel_rfl) (fun _ _ _ h => h) (Or.inl ⟨by rfl, ?_⟩) (by assumption) ?_
                          rotate_left
                          · intro w hSw; (try dsimp only at hSw); go_simp; try with_reducible rfl
                          (try dsimp only [Act.put, List.setIfInBounds_toArray, List.set_cons_zero, List.set_cons_succ])
                          refine wpAnyH_take (i := 5) (v := ?_) rfl (by kernel_rfl) (by kernel_rfl) (by kernel_rfl) (fun _ _ _ h => h) (Or.inl ⟨by rfl, ?_⟩) (by assumption) ?_
                          rotate_left
                          · intro w hSw; (try dsimp only at hSw); go_simp; try with_reducible rfl
                          (try dsimp only [Act.put, List.setIfInBounds_toArray, List.set_cons_zero, List.set_cons_succ])
                          refine wpAnyH_ready (rs := [4, 6]) (by kernel_rfl) (by simp) ?_
                          refine AllReadyH.cons rfl (fun K2 hK2 => ?_) ?_
                          · have y0d : (W.drewN 1).cell? ⟨b, 0, none⟩ = some (.slice A0 l.length c0) := cell_ext (ext_drewN W 1) y0
                            go_simp
                            refine hK2.out _ _ ?_ (fun hHeld => ?_)
                            · exact ⟨(cell_ext (ext_drewN W 1) k0), (cell_ext (ext_drewN W 1) k1), (cell_ext (ext_drewN W 1) k2), (cell_ext (ext_drewN W 1) k3), (cell_ext (ext_drewN W 1) k4), (cell_ext (ext_drewN W 1) k5), (cell_ext (ext_drewN W 1) k6)⟩
                            clear hK2 K2
                            (try dsimp only [Act.put, List.setIfInBounds_toArray, List.set_cons_zero, List.set_cons_succ])
                            refine wpAnyH_ready (rs := [6]) (by kernel_rfl) (by simp) ?_
                            refine AllReadyH.cons rfl (fun K2 hK2 => ?_) ?_
                            · go_simp
                              have HW6 := Lib.hid (ext_trans (ext_alloc W (.cells #[.int .i64 who, .string ⟨nm.toArray⟩, .int .i64 other, .int .i64 value, .int .i64 from_, .int .i64 to_, .int .i64 learnt] 102)) (ext_drewN (W.alloc (.cells #[.int .i64 who, .string ⟨nm.toArray⟩, .int .i64 other, .int .i64 value, .int .i64 from_, .int .i64 to_, .int .i64 learnt] 102)) 1))
                              refine hK2.out _ _ ?_ (fun hHeld => ?_)
                              · exact ⟨(cell_ext HW6.out k0), (cell_ext HW6.out k1), (cell_ext HW6.out k2), (cell_ext HW6.out k3), (cell_ext HW6.out k4), (cell_ext HW6.out k5), (cell_ext HW6.out k6)⟩
                              clear hK2 K2
                              (try dsimp only [Act.put, List.setIfInBounds_toArray, List.set_cons_zero, List.set_cons_succ])
                              refine wpAnyH_ready (rs := [7]) (by kernel_rfl) (by simp) ?_
                              refine AllReadyH.cons rfl (fun K2 hK2 => ?_) ?_
                              · refine step_append_rd _ (by rfl) _ _ _ (by rfl) base 102 i0 _ 7 64 Tryz.underlying147 HI.out HZ0.out HZ1.out HZ2.out rfl (by omega) (.slice A0 l.length c0) l.length (l.flatMap faC) (by rfl) (own_ext HOW.out HW6.out) (some ⟨W.heap.size, 0, none⟩) 1 1 (faC ⟨who, nm, other, value, from_, to_, learnt⟩) (by rfl) (fun h => by cases h) rfl (fun j u hj => ⟨W.heap.size, 0, rfl, by rw [Nat.zero_add]; exact (Blk.new W 102 (faC ⟨who, nm, other, value, from_, to_, learnt⟩)).cell j hj⟩) (faC_one _) (by unfold maxLen; omega) (by omega) (Nat.le_trans (Nat.le_trans HBW.out HX.out.size) HW6.out.size) ?_
                                intro v1 w1 hown1 hg1
                                obtain ⟨A1, c1, rfl, _⟩ := own_slice hown1
                                have HDN := Lib.hid (add_done (TF := 149) (T := 102) (by decide) (x := ⟨who, nm, other, value, from_, to_, learnt⟩) HBB.out (HFB.out.ext (HW6.out.mono (show b + 1 ≤ _ from HFB.out.lt))) (own_ext HOW.out HW6.out) (ext_trans HX.out HW6.out) HBW.out hown1 hg1)
                                have hrow : some b ≠ (Value.slice A0 l.length c0).ownBlock := fun e => by
                                  obtain ⟨c, fz, h⟩ := Lib.ownsRow_kind HOW.out b e.symm
                                  have h2 := HFB.out
                                  unfold Blk at h2
                                  rw [h2] at h
                                  simp only [Option.some.injEq, Obj.cells.injEq] at h
                                  exact absurd h.2.1 (by decide)
                                have hrowK : some K ≠ (Value.slice A0 l.length c0).ownBlock := fun e => by
                                  have := (HO0.out.lt K e.symm).2
                                  rw [HKE.out] at this
                                  omega
                                have hKb : K ≠ b := by
                                  have := HBL.out
                                  rw [HKE.out]
                                  omega
                                have hb1 := blk_grown (HFB.out.ext (HW6.out.mono (show b + 1 ≤ _ from HFB.out.lt))) hg1 hrow
                                have z1 := hb1.cell 0 rfl
                                have z2 := hb1.free 0
                                refine hK2.out _ _ ?_ (fun hHeld => ?_)
                                · exact ⟨hg1.cell (cell_ext HW6.out k0) hrowK, hg1.cell (cell_ext HW6.out k1) hrowK, hg1.cell (cell_ext HW6.out k2) hrowK, hg1.cell (cell_ext HW6.out k3) hrowK, hg1.cell (cell_ext HW6.out k4) hrowK, hg1.cell (cell_ext HW6.out k5) hrowK, hg1.cell (cell_ext HW6.out k6) hrowK⟩
                                clear hK2 K2
                                (try dsimp only [Act.put, List.setIfInBounds_toArray, List.set_cons_zero, List.set_cons_succ])
                                refine wpAnyH_take (i := 8) (v := ?_) rfl (by kernel_rfl) (by kernel_rfl) (by kernel_rfl) (fun _ _ _ h => h) (Or.inl ⟨by rfl, ?_⟩) (by assumption) ?_
                                rotate_left
                                · intro w hSw; (try dsimp only at hSw); go_simp; try with_reducible rfl
                                (try dsimp only [Act.put, List.setIfInBounds_toArray, List.set_cons_zero, List.set_cons_succ])
                                refine wpAnyH_take (i := 9) (v := ?_) rfl (by kernel_rfl) (by kernel_rfl) (by kernel_rfl) (fun _ _ _ h => h) (Or.inl ⟨by rfl, ?_⟩) (by assumption) ?_
                                rotate_left
                                · intro w hSw; (try dsimp only at hSw); go_simp; try with_reducible rfl
                                (try dsimp only [Act.put, List.setIfInBounds_toArray, List.set_cons_zero, List.set_cons_succ])
                                refine wpAnyH_ready (rs := [10]) (by kernel_rfl) (by simp) ?_
                                refine AllReadyH.cons rfl (fun K2 hK2 => ?_) ?_
                                · go_simp
                                  refine hK2.out _ _ ?_ (fun hHeld => ?_)
                                  · exact ⟨cell_set_other (hg1.cell (cell_ext HW6.out k0) hrowK) hKb _, cell_set_other (hg1.cell (cell_ext HW6.out k1) hrowK) hKb _, cell_set_other (hg1.cell (cell_ext HW6.out k2) hrowK) hKb _, cell_set_other (hg1.cell (cell_ext HW6.out k3) hrowK) hKb _, cell_set_other (hg1.cell (cell_ext HW6.out k4) hrowK) hKb _, cell_set_other (hg1.cell (cell_ext HW6.out k5) hrowK) hKb _, cell_set_other (hg1.cell (cell_ext HW6.out k6) hrowK) hKb _⟩
                                  clear hK2 K2
                                  (try dsimp only [Act.put, List.setIfInBounds_toArray, List.set_cons_zero, List.set_cons_succ])
                                  refine wpAnyH_done (by kernel_rfl) ?_ _
                                  go_wp2_with fail
                                  go_ret
                                  exact .inl ⟨code0 H5.out HW2.out.symm HKI.out HCO.out.symm HDA.out, rfl, HDN.out⟩
                                exact AllReadyH.nil
                              exact AllReadyH.nil
                            exact AllReadyH.nil
                          refine AllReadyH.cons rfl (fun K2 hK2 => ?_) ?_
                          · go_simp
                            have HW6 := Lib.hid (ext_trans (ext_alloc W (.cells #[.int .i64 who, .string ⟨nm.toArray⟩, .int .i64 other, .int .i64 value, .int .i64 from_, .int .i64 to_, .int .i64 learnt] 102)) (ext_drewN (W.alloc (.cells #[.int .i64 who, .string ⟨nm.toArray⟩, .int .i64 other, .int .i64 value, .int .i64 from_, .int .i64 to_, .int .i64 learnt] 102)) 1))
                            refine hK2.out _ _ ?_ (fun hHeld => ?_)
                            · exact ⟨(cell_ext HW6.out k0), (cell_ext HW6.out k1), (cell_ext HW6.out k2), (cell_ext HW6.out k3), (cell_ext HW6.out k4), (cell_ext HW6.out k5), (cell_ext HW6.out k6)⟩
                            clear hK2 K2
                            (try dsimp only [Act.put, List.setIfInBounds_toArray, List.set_cons_zero, List.set_cons_succ])
                            refine wpAnyH_ready (rs := [4]) (by kernel_rfl) (by simp) ?_
                            refine AllReadyH.cons rfl (fun K2 hK2 => ?_) ?_
                            · have y0e : (W.alloc (.cells #[.int .i64 who, .string ⟨nm.toArray⟩, .int .i64 other, .int .i64 value, .int .i64 from_, .int .i64 to_, .int .i64 learnt] 102)).drew.cell? ⟨b, 0, none⟩ = some (.slice A0 l.length c0) := cell_ext HW6.out y0
                              go_simp
                              refine hK2.out _ _ ?_ (fun hHeld => ?_)
                              · exact ⟨(cell_ext HW6.out k0), (cell_ext HW6.out k1), (cell_ext HW6.out k2), (cell_ext HW6.out k3), (cell_ext HW6.out k4), (cell_ext HW6.out k5), (cell_ext HW6.out k6)⟩
                              clear hK2 K2
                              (try dsimp only [Act.put, List.setIfInBounds_toArray, List.set_cons_zero, List.set_cons_succ])
                              refine wpAnyH_ready (rs := [7]) (by kernel_rfl) (by simp) ?_
                              refine AllReadyH.cons rfl (fun K2 hK2 => ?_) ?_
                              · refine step_append_rd _ (by rfl) _ _ _ (by rfl) base 102 i0 _ 7 64 Tryz.underlying147 HI.out HZ0.out HZ1.out HZ2.out rfl (by omega) (.slice A0 l.length c0) l.length (l.flatMap faC) (by rfl) (own_ext HOW.out HW6.out) (some ⟨W.heap.size, 0, none⟩) 1 1 (faC ⟨who, nm, other, value, from_, to_, learnt⟩) (by rfl) (fun h => by cases h) rfl (fun j u hj => ⟨W.heap.size, 0, rfl, by rw [Nat.zero_add]; exact (Blk.new W 102 (faC ⟨who, nm, other, value, from_, to_, learnt⟩)).cell j hj⟩) (faC_one _) (by unfold maxLen; omega) (by omega) (Nat.le_trans (Nat.le_trans HBW.out HX.out.size) HW6.out.size) ?_
                                intro v1 w1 hown1 hg1
                                obtain ⟨A1, c1, rfl, _⟩ := own_slice hown1
                                have HDN := Lib.hid (add_done (TF := 149) (T := 102) (by decide) (x := ⟨who, nm, other, value, from_, to_, learnt⟩) HBB.out (HFB.out.ext (HW6.out.mono (show b + 1 ≤ _ from HFB.out.lt))) (own_ext HOW.out HW6.out) (ext_trans HX.out HW6.out) HBW.out hown1 hg1)
                                have hrow : some b ≠ (Value.slice A0 l.length c0).ownBlock := fun e => by
                                  obtain ⟨c, fz, h⟩ := Lib.ownsRow_kind HOW.out b e.symm
                                  have h2 := HFB.out
                                  unfold Blk at h2
                                  rw [h2] at h
                                  simp only [Option.some.injEq, Obj.cells.injEq] at h
                                  exact absurd h.2.1 (by decide)
                                have hrowK : some K ≠ (Value.slice A0 l.length c0).ownBlock := fun e => by
                                  have := (HO0.out.lt K e.symm).2
                                  rw [HKE.out] at this
                                  omega
                                have hKb : K ≠ b := by
                                  have := HBL.out
                                  rw [HKE.out]
                                  omega
                                have hb1 := blk_grown (HFB.out.ext (HW6.out.mono (show b + 1 ≤ _ from HFB.out.lt))) hg1 hrow
                                have z1 := hb1.cell 0 rfl
                                have z2 := hb1.free 0
                                refine hK2.out _ _ ?_ (fun hHeld => ?_)
                                · exact ⟨hg1.cell (cell_ext HW6.out k0) hrowK, hg1.cell (cell_ext HW6.out k1) hrowK, hg1.cell (cell_ext HW6.out k2) hrowK, hg1.cell (cell_ext HW6.out k3) hrowK, hg1.cell (cell_ext HW6.out k4) hrowK, hg1.cell (cell_ext HW6.out k5) hrowK, hg1.cell (cell_ext HW6.out k6) hrowK⟩
                                clear hK2 K2
                                (try dsimp only [Act.put, List.setIfInBounds_toArray, List.set_cons_zero, List.set_cons_succ])
                                refine wpAnyH_take (i := 8) (v := ?_) rfl (by kernel_rfl) (by kernel_rfl) (by kernel_rfl) (fun _ _ _ h => h) (Or.inl ⟨by rfl, ?_⟩) (by assumption) ?_
                                rotate_left
                                · intro w hSw; (try dsimp only at hSw); go_simp; try with_reducible rfl
                                (try dsimp only [Act.put, List.setIfInBounds_toArray, List.set_cons_zero, List.set_cons_succ])
                                refine wpAnyH_take (i := 9) (v := ?_) rfl (by kernel_rfl) (by kernel_rfl) (by kernel_rfl) (fun _ _ _ h => h) (Or.inl ⟨by rfl, ?_⟩) (by assumption) ?_
                                rotate_left
                                · intro w hSw; (try dsimp only at hSw); go_simp; try with_reducible rfl
                                (try dsimp only [Act.put, List.setIfInBounds_toArray, List.set_cons_zero, List.set_cons_succ])
                                refine wpAnyH_ready (rs := [10]) (by kernel_rfl) (by simp) ?_
                                refine AllReadyH.cons rfl (fun K2 hK2 => ?_) ?_
                                · go_simp
                                  refine hK2.out _ _ ?_ (fun hHeld => ?_)
                                  · exact ⟨cell_set_other (hg1.cell (cell_ext HW6.out k0) hrowK) hKb _, cell_set_other (hg1.cell (cell_ext HW6.out k1) hrowK) hKb _, cell_set_other (hg1.cell (cell_ext HW6.out k2) hrowK) hKb _, cell_set_other (hg1.cell (cell_ext HW6.out k3) hrowK) hKb _, cell_set_other (hg1.cell (cell_ext HW6.out k4) hrowK) hKb _, cell_set_other (hg1.cell (cell_ext HW6.out k5) hrowK) hKb _, cell_set_other (hg1.cell (cell_ext HW6.out k6) hrowK) hKb _⟩
                                  clear hK2 K2
                                  (try dsimp only [Act.put, List.setIfInBounds_toArray, List.set_cons_zero, List.set_cons_succ])
                                  refine wpAnyH_done (by kernel_rfl) ?_ _
                                  go_wp2_with fail
                                  go_ret
                                  exact .inl ⟨code0 H5.out HW2.out.symm HKI.out HCO.out.symm HDA.out, rfl, HDN.out⟩
                                exact AllReadyH.nil
                              exact AllReadyH.nil
                            exact AllReadyH.nil
                          exact AllReadyH.nil
end Go.Proofs.YtnchlnfenebomaaGreatDoor.Fk
namespace Go.Proofs.YtnchlnfenebomaaGreatDoor.Fk
open Go.RowKit Mem Nest Err App

set_option maxRecDepth 20000 in
set_option maxHeartbeats 4000000 in
theorem radd_any (l : List Fa) (hl : l.length ≤ 500) (x : Fa) (hn : x.name.length ≤ 100) (base b : Nat) (w : World) (hF : FileP 100 96 w base b l) (hBw : base ≤ w.heap.size) :
    Calls Tryz.prog 38 #[.pointer (some ⟨b, 0, none⟩), .agg (faC x).toArray] w (RAdd l x base b w) := by
  obtain ⟨i0, hi, hz0, hz1, hz2⟩ := info_parts rfact_info
  have HI := Lib.hid hi
  have HZ0 := Lib.hid hz0
  have HZ1 := Lib.hid hz1
  have HZ2 := Lib.hid hz2
  obtain ⟨v, hbb, hblk, hown⟩ := hF
  obtain ⟨A0, c0, rfl, _⟩ := own_slice hown
  have bx := Blk.new w 96 (faC x)
  have hx := ext_alloc w (.cells (faC x).toArray 96)
  obtain ⟨W, hW⟩ : ∃ W, W = w.alloc (.cells (faC x).toArray 96) := ⟨_, rfl⟩
  obtain ⟨K, hK⟩ : ∃ K, K = w.heap.size := ⟨_, rfl⟩
  rw [← hW] at bx hx
  rw [← hK] at bx
  have hfb := hblk.ext (hx.mono (show b + 1 ≤ _ from hblk.lt))
  have HFB := Lib.hid hfb
  have HOW := Lib.hid (own_ext hown hx)
  have HX := Lib.hid hx
  have HBW := Lib.hid hBw
  have HO0 := Lib.hid hown
  have HBL := Lib.hid hblk.lt
  have HBB := Lib.hid hbb
  have HBX := Lib.hid bx
  have HXX := Lib.hid (show ∃ y, y = x from ⟨x, rfl⟩)
  have y0 := hfb.cell 0 rfl
  have y1 := hfb.free 0
  have HN100 := Lib.hid hn
  have HKD := Lib.hid (show ∀ q : Bool, kindB x = q ↔ kindB x = q from fun _ => Iff.rfl)
  obtain ⟨nm, who, other, value, from_, to_, learnt, hxe⟩ : ∃ nm who other value from_ to_ learnt, x = ⟨who, nm, other, value, from_, to_, learnt⟩ := ⟨_, _, _, _, _, _, _, rfl⟩
  subst hxe
  have k0 := bx.cell 0 rfl
  have k1 := bx.cell 1 rfl
  have k2 := bx.cell 2 rfl
  have k3 := bx.cell 3 rfl
  have k4 := bx.cell 4 rfl
  have k5 := bx.cell 5 rfl
  have k6 := bx.cell 6 rfl
  have hnl : nm.length ≤ 9223372036854775807 := by have := hn; simp only at this; omega
  clear hi hz0 hz1 hz2 hblk hown hfb hx hBw hbb bx HXX HKD hn
  unfold faC
  simp only at k0 k1 k2 k3 k4 k5 k6
  have HFC := Lib.hid (show faC ⟨who, nm, other, value, from_, to_, learnt⟩ = [.int .i64 who, .string ⟨nm.toArray⟩, .int .i64 other, .int .i64 value, .int .i64 from_, .int .i64 to_, .int .i64 learnt] from rfl)
  have hWe : w.alloc (.cells #[.int .i64 who, .string ⟨nm.toArray⟩, .int .i64 other, .int .i64 value, .int .i64 from_, .int .i64 to_, .int .i64 learnt] 96) = W := hW.symm
  clear hW
  have HWE := Lib.hid hWe
  have HKE := Lib.hid hK
  clear hWe hK
  go_enter Tryz.func38, Tryz.ntmps38
  go_upto_region 1 with fail
  rw [HWE.out, ← HKE.out]
  by_cases h500 : 500 ≤ l.length
  · have h5c : (500 : Int) ≤ (l.length : Int) := by omega
    have H5 := Lib.hid h500
    go_wp2_with fail
    go_ret
    exact radd_no (code2 H5.out) (by decide) HX.out
  · have h5c : ¬ (500 : Int) ≤ (l.length : Int) := by omega
    have H5 := Lib.hid h500
    clear h500
    go_wp2_with fail
    refine (rword_any nm hnl _).mono ?_
    obtain ⟨bn, hbn⟩ : ∃ b, b = wordB nm := ⟨_, rfl⟩
    rw [← hbn]
    have HW2 := Lib.hid hbn
    clear hbn
    rintro e w107 ⟨rfl, rfl⟩
    cases bn with
    | false =>
      go_wp2_with fail
      go_ret
      exact radd_no (code7 H5.out HW2.out.symm) (by decide) HX.out
    | true =>
      go_wp2_with fail
      refine (isbody_any who _).mono ?_
      obtain ⟨bw, hbw⟩ : ∃ b, b = bodyB who := ⟨_, rfl⟩
      rw [← hbw]
      have HWH := Lib.hid hbw
      clear hbw
      rintro e w105 ⟨rfl, rfl⟩
      go_wp2_with fail
      refine (isbody_any other _).mono ?_
      obtain ⟨bo, hbo⟩ : ∃ b, b = bodyB other := ⟨_, rfl⟩
      rw [← hbo]
      have HOT := Lib.hid hbo
      clear hbo
      rintro e w106 ⟨rfl, rfl⟩
      cases bw with
      | false =>
        go_wp2_with fail
        go_ret
        exact radd_no (code9 H5.out HW2.out.symm (show kindB (⟨who, nm, other, value, from_, to_, learnt⟩ : Fa) = false by simp only [kindB]; rw [← HWH.out]; simp)) (by decide) HX.out
      | true =>
        by_cases ho1 : other = -1
        · subst ho1
          have hq2 : ((-1 : Int) == who) = false := by
            have h := HWH.out
            rw [beq_eq_false_iff_ne]
            intro e
            rw [← e] at h
            exact absurd h (by decide)
          have HKI := Lib.hid (show kindB (⟨who, nm, (-1), value, from_, to_, learnt⟩ : Fa) = true by simp only [kindB]; rw [← HWH.out]; simp)
          go_wp2_with fail
          refine (rsmall_any value _).mono ?_
          obtain ⟨bc, hbc⟩ : ∃ b, b = coinB value := ⟨_, rfl⟩
          rw [← hbc]
          have HCO := Lib.hid hbc
          clear hbc
          rintro e w104 ⟨rfl, rfl⟩
          cases bc with
          | false =>
            go_wp2_with fail
            go_ret
            exact radd_no (code3 H5.out HW2.out.symm HKI.out HCO.out.symm) (by decide) HX.out
          | true =>
            go_wp2_with fail
            refine (isday_any from_ _).mono ?_
            obtain ⟨bf, hbf⟩ : ∃ b, b = dayB from_ := ⟨_, rfl⟩
            rw [← hbf]
            have HFR := Lib.hid hbf
            clear hbf
            rintro e w101 ⟨rfl, rfl⟩
            go_wp2_with fail
            refine (isday_any learnt _).mono ?_
            obtain ⟨bl, hbl⟩ : ∃ b, b = dayB learnt := ⟨_, rfl⟩
            rw [← hbl]
            have HLN := Lib.hid hbl
            clear hbl
            rintro e w102 ⟨rfl, rfl⟩
            go_wp2_with fail
            refine (isday_any to_ _).mono ?_
            obtain ⟨bt, hbt⟩ : ∃ b, b = dayB to_ := ⟨_, rfl⟩
            rw [← hbt]
            have HTO := Lib.hid hbt
            clear hbt
            rintro e w103 ⟨rfl, rfl⟩
            cases bf with
            | false =>
              go_wp2_with fail
              go_ret
              exact radd_no (code4 H5.out HW2.out.symm HKI.out HCO.out.symm (show daysB (⟨who, nm, (-1), value, from_, to_, learnt⟩ : Fa) = false by simp only [daysB]; rw [← HFR.out]; simp)) (by decide) HX.out
            | true =>
              cases bl with
              | false =>
                go_wp2_with fail
                go_ret
                exact radd_no (code4 H5.out HW2.out.symm HKI.out HCO.out.symm (show daysB (⟨who, nm, (-1), value, from_, to_, learnt⟩ : Fa) = false by simp only [daysB]; rw [← HFR.out, ← HLN.out]; simp)) (by decide) HX.out
              | true =>
                by_cases ht0 : to_ = 0
                · subst ht0
                  have HDA := Lib.hid (show daysB (⟨who, nm, (-1), value, from_, 0, learnt⟩ : Fa) = true by simp only [daysB]; rw [← HFR.out, ← HLN.out]; simp)
                  go_upto_region 18 with fail
                  (try clear hq1)
                  (try clear hq)
                  (try clear hq2)
                  refine wp_region_held_drew (S := (fun w' => w'.cell? ⟨K, 0, none⟩ = some (.int .i64 who) ∧ w'.cell? ⟨K, 1, none⟩ = some (.string ⟨nm.toArray⟩) ∧ w'.cell? ⟨K, 2, none⟩ = some (.int .i64 (-1)) ∧ w'.cell? ⟨K, 3, none⟩ = some (.int .i64 value) ∧ w'.cell? ⟨K, 4, none⟩ = some (.int .i64 from_) ∧ w'.cell? ⟨K, 5, none⟩ = some (.int .i64 0) ∧ w'.cell? ⟨K, 6, none⟩ = some (.int .i64 learnt))) (by kernel_rfl) ?_ (fun hHeld => ?_)
                  · exact ⟨k0, k1, k2, k3, k4, k5, k6⟩
                  refine wpAnyH_take (i := 0) (v := ?_) rfl (by kernel_rfl) (by kernel_rfl) (by kernel_rfl) (fun _ _ _ h => h) (Or.inl ⟨by rfl, ?_⟩) (by assumption) ?_
                  rotate_left
                  · intro w hSw; (try dsimp only at hSw); go_simp; try with_reducible rfl
                  (try dsimp only [Act.put, List.setIfInBounds_toArray, List.set_cons_zero, List.set_cons_succ])
                  refine wpAnyH_take (i := 1) (v := ?_) rfl (by kernel_rfl) (by kernel_rfl) (by kernel_rfl) (fun _ _ _ h => h) (Or.inl ⟨by rfl, ?_⟩) (by assumption) ?_
                  rotate_left
                  · intro w hSw; (try dsimp only at hSw); go_simp; try with_reducible rfl
                  (try dsimp only [Act.put, List.setIfInBounds_toArray, List.set_cons_zero, List.set_cons_succ])
                  refine wpAnyH_take (i := 2) (v := ?_) rfl (by kernel_rfl) (by kernel_rfl) (by kernel_rfl) (fun _ _ _ h => h) (Or.inl ⟨by rfl, ?_⟩) (by assumption) ?_
                  rotate_left
                  · intro w hSw; (try dsimp only at hSw); go_simp; try with_reducible rfl
                  (try dsimp only [Act.put, List.setIfInBounds_toArray, List.set_cons_zero, List.set_cons_succ])
                  refine wpAnyH_take (i := 3) (v := ?_) rfl (by kernel_rfl) (by kernel_rfl) (by kernel_rfl) (fun _ _ _ h => h) (Or.inl ⟨by rfl, ?_⟩) (by assumption) ?_
                  rotate_left
                  · intro w hSw; (try dsimp only at hSw); go_simp; try with_reducible rfl
                  (try dsimp only [Act.put, List.setIfInBounds_toArray, List.set_cons_zero, List.set_cons_succ])
                  refine wpAnyH_take (i := 5) (v := ?_) rfl (by kernel_rfl) (by kernel_rfl) (by kernel_rfl) (fun _ _ _ h => h) (Or.inl ⟨by rfl, ?_⟩) (by assumption) ?_
                  rotate_left
                  · intro w hSw; (try dsimp only at hSw); go_simp; try with_reducible rfl
                  (try dsimp only [Act.put, List.setIfInBounds_toArray, List.set_cons_zero, List.set_cons_succ])
                  refine wpAnyH_ready (rs := [4, 6]) (by kernel_rfl) (by simp) ?_
                  refine AllReadyH.cons rfl (fun K2 hK2 => ?_) ?_
                  · have y0d : (W.drewN 1).cell? ⟨b, 0, none⟩ = some (.slice A0 l.length c0) := cell_ext (ext_drewN W 1) y0
                    go_simp
                    refine hK2.out _ _ ?_ (fun hHeld => ?_)
                    · exact ⟨(cell_ext (ext_drewN W 1) k0), (cell_ext (ext_drewN W 1) k1), (cell_ext (ext_drewN W 1) k2), (cell_ext (ext_drewN W 1) k3), (cell_ext (ext_drewN W 1) k4), (cell_ext (ext_drewN W 1) k5), (cell_ext (ext_drewN W 1) k6)⟩
                    clear hK2 K2
                    (try dsimp only [Act.put, List.setIfInBounds_toArray, List.set_cons_zero, List.set_cons_succ])
                    refine wpAnyH_ready (rs := [6]) (by kernel_rfl) (by simp) ?_
                    refine AllReadyH.cons rfl (fun K2 hK2 => ?_) ?_
                    · go_simp
                      have HW6 := Lib.hid (ext_trans (ext_alloc W (.cells #[.int .i64 who, .string ⟨nm.toArray⟩, .int .i64 (-1), .int .i64 value, .int .i64 from_, .int .i64 0, .int .i64 learnt] 96)) (ext_drewN (W.alloc (.cells #[.int .i64 who, .string ⟨nm.toArray⟩, .int .i64 (-1), .int .i64 value, .int .i64 from_, .int .i64 0, .int .i64 learnt] 96)) 1))
                      refine hK2.out _ _ ?_ (fun hHeld => ?_)
                      · exact ⟨(cell_ext HW6.out k0), (cell_ext HW6.out k1), (cell_ext HW6.out k2), (cell_ext HW6.out k3), (cell_ext HW6.out k4), (cell_ext HW6.out k5), (cell_ext HW6.out k6)⟩
                      clear hK2 K2
                      (try dsimp only [Act.put, List.setIfInBounds_toArray, List.set_cons_zero, List.set_cons_succ])
                      refine wpAnyH_ready (rs := [7]) (by kernel_rfl) (by simp) ?_
                      refine AllReadyH.cons rfl (fun K2 hK2 => ?_) ?_
                      · refine step_append_rd _ (by rfl) _ _ _ (by rfl) base 96 i0 _ 7 64 Tryz.underlying22 HI.out HZ0.out HZ1.out HZ2.out rfl (by omega) (.slice A0 l.length c0) l.length (l.flatMap faC) (by rfl) (own_ext HOW.out HW6.out) (some ⟨W.heap.size, 0, none⟩) 1 1 (faC ⟨who, nm, (-1), value, from_, 0, learnt⟩) (by rfl) (fun h => by cases h) rfl (fun j u hj => ⟨W.heap.size, 0, rfl, by rw [Nat.zero_add]; exact (Blk.new W 96 (faC ⟨who, nm, (-1), value, from_, 0, learnt⟩)).cell j hj⟩) (faC_one _) (by unfold maxLen; omega) (by omega) (Nat.le_trans (Nat.le_trans HBW.out HX.out.size) HW6.out.size) ?_
                        intro v1 w1 hown1 hg1
                        obtain ⟨A1, c1, rfl, _⟩ := own_slice hown1
                        have HDN := Lib.hid (add_done (TF := 100) (T := 96) (by decide) (x := ⟨who, nm, (-1), value, from_, 0, learnt⟩) HBB.out (HFB.out.ext (HW6.out.mono (show b + 1 ≤ _ from HFB.out.lt))) (own_ext HOW.out HW6.out) (ext_trans HX.out HW6.out) HBW.out hown1 hg1)
                        have hrow : some b ≠ (Value.slice A0 l.length c0).ownBlock := fun e => by
                          obtain ⟨c, fz, h⟩ := Lib.ownsRow_kind HOW.out b e.symm
                          have h2 := HFB.out
                          unfold Blk at h2
                          rw [h2] at h
                          simp only [Option.some.injEq, Obj.cells.injEq] at h
                          exact absurd h.2.1 (by decide)
                        have hrowK : some K ≠ (Value.slice A0 l.length c0).ownBlock := fun e => by
                          have := (HO0.out.lt K e.symm).2
                          rw [HKE.out] at this
                          omega
                        have hKb : K ≠ b := by
                          have := HBL.out
                          rw [HKE.out]
                          omega
                        have hb1 := blk_grown (HFB.out.ext (HW6.out.mono (show b + 1 ≤ _ from HFB.out.lt))) hg1 hrow
                        have z1 := hb1.cell 0 rfl
                        have z2 := hb1.free 0
                        refine hK2.out _ _ ?_ (fun hHeld => ?_)
                        · exact ⟨hg1.cell (cell_ext HW6.out k0) hrowK, hg1.cell (cell_ext HW6.out k1) hrowK, hg1.cell (cell_ext HW6.out k2) hrowK, hg1.cell (cell_ext HW6.out k3) hrowK, hg1.cell (cell_ext HW6.out k4) hrowK, hg1.cell (cell_ext HW6.out k5) hrowK, hg1.cell (cell_ext HW6.out k6) hrowK⟩
                        clear hK2 K2
                        (try dsimp only [Act.put, List.setIfInBounds_toArray, List.set_cons_zero, List.set_cons_succ])
                        refine wpAnyH_take (i := 8) (v := ?_) rfl (by kernel_rfl) (by kernel_rfl) (by kernel_rfl) (fun _ _ _ h => h) (Or.inl ⟨by rfl, ?_⟩) (by assumption) ?_
                        rotate_left
                        · intro w hSw; (try dsimp only at hSw); go_simp; try with_reducible rfl
                        (try dsimp only [Act.put, List.setIfInBounds_toArray, List.set_cons_zero, List.set_cons_succ])
                        refine wpAnyH_take (i := 9) (v := ?_) rfl (by kernel_rfl) (by kernel_rfl) (by kernel_rfl) (fun _ _ _ h => h) (Or.inl ⟨by rfl, ?_⟩) (by assumption) ?_
                        rotate_left
                        · intro w hSw; (try dsimp only at hSw); go_simp; try with_reducible rfl
                        (try dsimp only [Act.put, List.setIfInBounds_toArray, List.set_cons_zero, List.set_cons_succ])
                        refine wpAnyH_ready (rs := [10]) (by kernel_rfl) (by simp) ?_
                        refine AllReadyH.cons rfl (fun K2 hK2 => ?_) ?_
                        · go_simp
                          refine hK2.out _ _ ?_ (fun hHeld => ?_)
                          · exact ⟨cell_set_other (hg1.cell (cell_ext HW6.out k0) hrowK) hKb _, cell_set_other (hg1.cell (cell_ext HW6.out k1) hrowK) hKb _, cell_set_other (hg1.cell (cell_ext HW6.out k2) hrowK) hKb _, cell_set_other (hg1.cell (cell_ext HW6.out k3) hrowK) hKb _, cell_set_other (hg1.cell (cell_ext HW6.out k4) hrowK) hKb _, cell_set_other (hg1.cell (cell_ext HW6.out k5) hrowK) hKb _, cell_set_other (hg1.cell (cell_ext HW6.out k6) hrowK) hKb _⟩
                          clear hK2 K2
                          (try dsimp only [Act.put, List.setIfInBounds_toArray, List.set_cons_zero, List.set_cons_succ])
                          refine wpAnyH_done (by kernel_rfl) ?_ _
                          go_wp2_with fail
                          go_ret
                          exact .inl ⟨code0 H5.out HW2.out.symm HKI.out HCO.out.symm HDA.out, rfl, HDN.out⟩
                        exact AllReadyH.nil
                      exact AllReadyH.nil
                    exact AllReadyH.nil
                  refine AllReadyH.cons rfl (fun K2 hK2 => ?_) ?_
                  · go_simp
                    have HW6 := Lib.hid (ext_trans (ext_alloc W (.cells #[.int .i64 who, .string ⟨nm.toArray⟩, .int .i64 (-1), .int .i64 value, .int .i64 from_, .int .i64 0, .int .i64 learnt] 96)) (ext_drewN (W.alloc (.cells #[.int .i64 who, .string ⟨nm.toArray⟩, .int .i64 (-1), .int .i64 value, .int .i64 from_, .int .i64 0, .int .i64 learnt] 96)) 1))
                    refine hK2.out _ _ ?_ (fun hHeld => ?_)
                    · exact ⟨(cell_ext HW6.out k0), (cell_ext HW6.out k1), (cell_ext HW6.out k2), (cell_ext HW6.out k3), (cell_ext HW6.out k4), (cell_ext HW6.out k5), (cell_ext HW6.out k6)⟩
                    clear hK2 K2
                    (try dsimp only [Act.put, List.setIfInBounds_toArray, List.set_cons_zero, List.set_cons_succ])
                    refine wpAnyH_ready (rs := [4]) (by kernel_rfl) (by simp) ?_
                    refine AllReadyH.cons rfl (fun K2 hK2 => ?_) ?_
                    · have y0e : (W.alloc (.cells #[.int .i64 who, .string ⟨nm.toArray⟩, .int .i64 (-1), .int .i64 value, .int .i64 from_, .int .i64 0, .int .i64 learnt] 96)).drew.cell? ⟨b, 0, none⟩ = some (.slice A0 l.length c0) := cell_ext HW6.out y0
                      go_simp
                      refine hK2.out _ _ ?_ (fun hHeld => ?_)
                      · exact ⟨(cell_ext HW6.out k0), (cell_ext HW6.out k1), (cell_ext HW6.out k2), (cell_ext HW6.out k3), (cell_ext HW6.out k4), (cell_ext HW6.out k5), (cell_ext HW6.out k6)⟩
                      clear hK2 K2
                      (try dsimp only [Act.put, List.setIfInBounds_toArray, List.set_cons_zero, List.set_cons_succ])
                      refine wpAnyH_ready (rs := [7]) (by kernel_rfl) (by simp) ?_
                      refine AllReadyH.cons rfl (fun K2 hK2 => ?_) ?_
                      · refine step_append_rd _ (by rfl) _ _ _ (by rfl) base 96 i0 _ 7 64 Tryz.underlying22 HI.out HZ0.out HZ1.out HZ2.out rfl (by omega) (.slice A0 l.length c0) l.length (l.flatMap faC) (by rfl) (own_ext HOW.out HW6.out) (some ⟨W.heap.size, 0, none⟩) 1 1 (faC ⟨who, nm, (-1), value, from_, 0, learnt⟩) (by rfl) (fun h => by cases h) rfl (fun j u hj => ⟨W.heap.size, 0, rfl, by rw [Nat.zero_add]; exact (Blk.new W 96 (faC ⟨who, nm, (-1), value, from_, 0, learnt⟩)).cell j hj⟩) (faC_one _) (by unfold maxLen; omega) (by omega) (Nat.le_trans (Nat.le_trans HBW.out HX.out.size) HW6.out.size) ?_
                        intro v1 w1 hown1 hg1
                        obtain ⟨A1, c1, rfl, _⟩ := own_slice hown1
                        have HDN := Lib.hid (add_done (TF := 100) (T := 96) (by decide) (x := ⟨who, nm, (-1), value, from_, 0, learnt⟩) HBB.out (HFB.out.ext (HW6.out.mono (show b + 1 ≤ _ from HFB.out.lt))) (own_ext HOW.out HW6.out) (ext_trans HX.out HW6.out) HBW.out hown1 hg1)
                        have hrow : some b ≠ (Value.slice A0 l.length c0).ownBlock := fun e => by
                          obtain ⟨c, fz, h⟩ := Lib.ownsRow_kind HOW.out b e.symm
                          have h2 := HFB.out
                          unfold Blk at h2
                          rw [h2] at h
                          simp only [Option.some.injEq, Obj.cells.injEq] at h
                          exact absurd h.2.1 (by decide)
                        have hrowK : some K ≠ (Value.slice A0 l.length c0).ownBlock := fun e => by
                          have := (HO0.out.lt K e.symm).2
                          rw [HKE.out] at this
                          omega
                        have hKb : K ≠ b := by
                          have := HBL.out
                          rw [HKE.out]
                          omega
                        have hb1 := blk_grown (HFB.out.ext (HW6.out.mono (show b + 1 ≤ _ from HFB.out.lt))) hg1 hrow
                        have z1 := hb1.cell 0 rfl
                        have z2 := hb1.free 0
                        refine hK2.out _ _ ?_ (fun hHeld => ?_)
                        · exact ⟨hg1.cell (cell_ext HW6.out k0) hrowK, hg1.cell (cell_ext HW6.out k1) hrowK, hg1.cell (cell_ext HW6.out k2) hrowK, hg1.cell (cell_ext HW6.out k3) hrowK, hg1.cell (cell_ext HW6.out k4) hrowK, hg1.cell (cell_ext HW6.out k5) hrowK, hg1.cell (cell_ext HW6.out k6) hrowK⟩
                        clear hK2 K2
                        (try dsimp only [Act.put, List.setIfInBounds_toArray, List.set_cons_zero, List.set_cons_succ])
                        refine wpAnyH_take (i := 8) (v := ?_) rfl (by kernel_rfl) (by kernel_rfl) (by kernel_rfl) (fun _ _ _ h => h) (Or.inl ⟨by rfl, ?_⟩) (by assumption) ?_
                        rotate_left
                        · intro w hSw; (try dsimp only at hSw); go_simp; try with_reducible rfl
                        (try dsimp only [Act.put, List.setIfInBounds_toArray, List.set_cons_zero, List.set_cons_succ])
                        refine wpAnyH_take (i := 9) (v := ?_) rfl (by kernel_rfl) (by kernel_rfl) (by kernel_rfl) (fun _ _ _ h => h) (Or.inl ⟨by rfl, ?_⟩) (by assumption) ?_
                        rotate_left
                        · intro w hSw; (try dsimp only at hSw); go_simp; try with_reducible rfl
                        (try dsimp only [Act.put, List.setIfInBounds_toArray, List.set_cons_zero, List.set_cons_succ])
                        refine wpAnyH_ready (rs := [10]) (by kernel_rfl) (by simp) ?_
                        refine AllReadyH.cons rfl (fun K2 hK2 => ?_) ?_
                        · go_simp
                          refine hK2.out _ _ ?_ (fun hHeld => ?_)
                          · exact ⟨cell_set_other (hg1.cell (cell_ext HW6.out k0) hrowK) hKb _, cell_set_other (hg1.cell (cell_ext HW6.out k1) hrowK) hKb _, cell_set_other (hg1.cell (cell_ext HW6.out k2) hrowK) hKb _, cell_set_other (hg1.cell (cell_ext HW6.out k3) hrowK) hKb _, cell_set_other (hg1.cell (cell_ext HW6.out k4) hrowK) hKb _, cell_set_other (hg1.cell (cell_ext HW6.out k5) hrowK) hKb _, cell_set_other (hg1.cell (cell_ext HW6.out k6) hrowK) hKb _⟩
                          clear hK2 K2
                          (try dsimp only [Act.put, List.setIfInBounds_toArray, List.set_cons_zero, List.set_cons_succ])
                          refine wpAnyH_done (by kernel_rfl) ?_ _
                          go_wp2_with fail
                          go_ret
                          exact .inl ⟨code0 H5.out HW2.out.symm HKI.out HCO.out.symm HDA.out, rfl, HDN.out⟩
                        exact AllReadyH.nil
                      exact AllReadyH.nil
                    exact AllReadyH.nil
                  exact AllReadyH.nil
                · have hq : (to_ == 0) = false := by simp [ht0]
                  have hqb : (to_ != 0) = true := by simp [ht0]
                  have HT0 := Lib.hid ht0
                  clear ht0
                  cases bt with
                  | false =>
                    go_wp2_with fail
                    go_ret
                    exact radd_no (code4 H5.out HW2.out.symm HKI.out HCO.out.symm (show daysB (⟨who, nm, (-1), value, from_, to_, learnt⟩ : Fa) = false by simp only [daysB]; rw [← HFR.out, ← HLN.out, ← HTO.out]; simp [HT0.out])) (by decide) HX.out
                  | true =>
                    by_cases hle : to_ ≤ from_
                    · have HLE := Lib.hid hle
                      go_wp2_with fail
                      go_ret
                      exact radd_no (code4 H5.out HW2.out.symm HKI.out HCO.out.symm (show daysB (⟨who, nm, (-1), value, from_, to_, learnt⟩ : Fa) = false by simp only [daysB]; rw [← HFR.out, ← HLN.out, ← HTO.out, decide_eq_true HLE.out]; simp [HT0.out])) (by decide) HX.out
                    · have HLE := Lib.hid hle
                      have HDA := Lib.hid (show daysB (⟨who, nm, (-1), value, from_, to_, learnt⟩ : Fa) = true by simp only [daysB]; rw [← HFR.out, ← HLN.out, ← HTO.out, decide_eq_false HLE.out]; simp)
                      go_upto_region 18 with fail
                      (try clear hq1)
                      (try clear hq)
                      (try clear hq2)
                      refine wp_region_held_drew (S := (fun w' => w'.cell? ⟨K, 0, none⟩ = some (.int .i64 who) ∧ w'.cell? ⟨K, 1, none⟩ = some (.string ⟨nm.toArray⟩) ∧ w'.cell? ⟨K, 2, none⟩ = some (.int .i64 (-1)) ∧ w'.cell? ⟨K, 3, none⟩ = some (.int .i64 value) ∧ w'.cell? ⟨K, 4, none⟩ = some (.int .i64 from_) ∧ w'.cell? ⟨K, 5, none⟩ = some (.int .i64 to_) ∧ w'.cell? ⟨K, 6, none⟩ = some (.int .i64 learnt))) (by kernel_rfl) ?_ (fun hHeld => ?_)
                      · exact ⟨k0, k1, k2, k3, k4, k5, k6⟩
                      refine wpAnyH_take (i := 0) (v := ?_) rfl (by kernel_rfl) (by kernel_rfl) (by kernel_rfl) (fun _ _ _ h => h) (Or.inl ⟨by rfl, ?_⟩) (by assumption) ?_
                      rotate_left
                      · intro w hSw; (try dsimp only at hSw); go_simp; try with_reducible rfl
                      (try dsimp only [Act.put, List.setIfInBounds_toArray, List.set_cons_zero, List.set_cons_succ])
                      refine wpAnyH_take (i := 1) (v := ?_) rfl (by kernel_rfl) (by kernel_rfl) (by kernel_rfl) (fun _ _ _ h => h) (Or.inl ⟨by rfl, ?_⟩) (by assumption) ?_
                      rotate_left
                      · intro w hSw; (try dsimp only at hSw); go_simp; try with_reducible rfl
                      (try dsimp only [Act.put, List.setIfInBounds_toArray, List.set_cons_zero, List.set_cons_succ])
                      refine wpAnyH_take (i := 2) (v := ?_) rfl (by kernel_rfl) (by kernel_rfl) (by kernel_rfl) (fun _ _ _ h => h) (Or.inl ⟨by rfl, ?_⟩) (by assumption) ?_
                      rotate_left
                      · intro w hSw; (try dsimp only at hSw); go_simp; try with_reducible rfl
                      (try dsimp only [Act.put, List.setIfInBounds_toArray, List.set_cons_zero, List.set_cons_succ])
                      refine wpAnyH_take (i := 3) (v := ?_) rfl (by kernel_rfl) (by kernel_rfl) (by kernel_rfl) (fun _ _ _ h => h) (Or.inl ⟨by rfl, ?_⟩) (by assumption) ?_
                      rotate_left
                      · intro w hSw; (try dsimp only at hSw); go_simp; try with_reducible rfl
                      (try dsimp only [Act.put, List.setIfInBounds_toArray, List.set_cons_zero, List.set_cons_succ])
                      refine wpAnyH_take (i := 5) (v := ?_) rfl (by kernel_rfl) (by kernel_rfl) (by kernel_rfl) (fun _ _ _ h => h) (Or.inl ⟨by rfl, ?_⟩) (by assumption) ?_
                      rotate_left
                      · intro w hSw; (try dsimp only at hSw); go_simp; try with_reducible rfl
                      (try dsimp only [Act.put, List.setIfInBounds_toArray, List.set_cons_zero, List.set_cons_succ])
                      refine wpAnyH_ready (rs := [4, 6]) (by kernel_rfl) (by simp) ?_
                      refine AllReadyH.cons rfl (fun K2 hK2 => ?_) ?_
                      · have y0d : (W.drewN 1).cell? ⟨b, 0, none⟩ = some (.slice A0 l.length c0) := cell_ext (ext_drewN W 1) y0
                        go_simp
                        refine hK2.out _ _ ?_ (fun hHeld => ?_)
                        · exact ⟨(cell_ext (ext_drewN W 1) k0), (cell_ext (ext_drewN W 1) k1), (cell_ext (ext_drewN W 1) k2), (cell_ext (ext_drewN W 1) k3), (cell_ext (ext_drewN W 1) k4), (cell_ext (ext_drewN W 1) k5), (cell_ext (ext_drewN W 1) k6)⟩
                        clear hK2 K2
                        (try dsimp only [Act.put, List.setIfInBounds_toArray, List.set_cons_zero, List.set_cons_succ])
                        refine wpAnyH_ready (rs := [6]) (by kernel_rfl) (by simp) ?_
                        refine AllReadyH.cons rfl (fun K2 hK2 => ?_) ?_
                        · go_simp
                          have HW6 := Lib.hid (ext_trans (ext_alloc W (.cells #[.int .i64 who, .string ⟨nm.toArray⟩, .int .i64 (-1), .int .i64 value, .int .i64 from_, .int .i64 to_, .int .i64 learnt] 96)) (ext_drewN (W.alloc (.cells #[.int .i64 who, .string ⟨nm.toArray⟩, .int .i64 (-1), .int .i64 value, .int .i64 from_, .int .i64 to_, .int .i64 learnt] 96)) 1))
                          refine hK2.out _ _ ?_ (fun hHeld => ?_)
                          · exact ⟨(cell_ext HW6.out k0), (cell_ext HW6.out k1), (cell_ext HW6.out k2), (cell_ext HW6.out k3), (cell_ext HW6.out k4), (cell_ext HW6.out k5), (cell_ext HW6.out k6)⟩
                          clear hK2 K2
                          (try dsimp only [Act.put, List.setIfInBounds_toArray, List.set_cons_zero, List.set_cons_succ])
                          refine wpAnyH_ready (rs := [7]) (by kernel_rfl) (by simp) ?_
                          refine AllReadyH.cons rfl (fun K2 hK2 => ?_) ?_
                          · refine step_append_rd _ (by rfl) _ _ _ (by rfl) base 96 i0 _ 7 64 Tryz.underlying22 HI.out HZ0.out HZ1.out HZ2.out rfl (by omega) (.slice A0 l.length c0) l.length (l.flatMap faC) (by rfl) (own_ext HOW.out HW6.out) (some ⟨W.heap.size, 0, none⟩) 1 1 (faC ⟨who, nm, (-1), value, from_, to_, learnt⟩) (by rfl) (fun h => by cases h) rfl (fun j u hj => ⟨W.heap.size, 0, rfl, by rw [Nat.zero_add]; exact (Blk.new W 96 (faC ⟨who, nm, (-1), value, from_, to_, learnt⟩)).cell j hj⟩) (faC_one _) (by unfold maxLen; omega) (by omega) (Nat.le_trans (Nat.le_trans HBW.out HX.out.size) HW6.out.size) ?_
                            intro v1 w1 hown1 hg1
                            obtain ⟨A1, c1, rfl, _⟩ := own_slice hown1
                            have HDN := Lib.hid (add_done (TF := 100) (T := 96) (by decide) (x := ⟨who, nm, (-1), value, from_, to_, learnt⟩) HBB.out (HFB.out.ext (HW6.out.mono (show b + 1 ≤ _ from HFB.out.lt))) (own_ext HOW.out HW6.out) (ext_trans HX.out HW6.out) HBW.out hown1 hg1)
                            have hrow : some b ≠ (Value.slice A0 l.length c0).ownBlock := fun e => by
                              obtain ⟨c, fz, h⟩ := Lib.ownsRow_kind HOW.out b e.symm
                              have h2 := HFB.out
                              unfold Blk at h2
                              rw [h2] at h
                              simp only [Option.some.injEq, Obj.cells.injEq] at h
                              exact absurd h.2.1 (by decide)
                            have hrowK : some K ≠ (Value.slice A0 l.length c0).ownBlock := fun e => by
                              have := (HO0.out.lt K e.symm).2
                              rw [HKE.out] at this
                              omega
                            have hKb : K ≠ b := by
                              have := HBL.out
                              rw [HKE.out]
                              omega
                            have hb1 := blk_grown (HFB.out.ext (HW6.out.mono (show b + 1 ≤ _ from HFB.out.lt))) hg1 hrow
                            have z1 := hb1.cell 0 rfl
                            have z2 := hb1.free 0
                            refine hK2.out _ _ ?_ (fun hHeld => ?_)
                            · exact ⟨hg1.cell (cell_ext HW6.out k0) hrowK, hg1.cell (cell_ext HW6.out k1) hrowK, hg1.cell (cell_ext HW6.out k2) hrowK, hg1.cell (cell_ext HW6.out k3) hrowK, hg1.cell (cell_ext HW6.out k4) hrowK, hg1.cell (cell_ext HW6.out k5) hrowK, hg1.cell (cell_ext HW6.out k6) hrowK⟩
                            clear hK2 K2
                            (try dsimp only [Act.put, List.setIfInBounds_toArray, List.set_cons_zero, List.set_cons_succ])
                            refine wpAnyH_take (i := 8) (v := ?_) rfl (by kernel_rfl) (by kernel_rfl) (by kernel_rfl) (fun _ _ _ h => h) (Or.inl ⟨by rfl, ?_⟩) (by assumption) ?_
                            rotate_left
                            · intro w hSw; (try dsimp only at hSw); go_simp; try with_reducible rfl
                            (try dsimp only [Act.put, List.setIfInBounds_toArray, List.set_cons_zero, List.set_cons_succ])
                            refine wpAnyH_take (i := 9) (v := ?_) rfl (by kernel_rfl) (by kernel_rfl) (by kernel_rfl) (fun _ _ _ h => h) (Or.inl ⟨by rfl, ?_⟩) (by assumption) ?_
                            rotate_left
                            · intro w hSw; (try dsimp only at hSw); go_simp; try with_reducible rfl
                            (try dsimp only [Act.put, List.setIfInBounds_toArray, List.set_cons_zero, List.set_cons_succ])
                            refine wpAnyH_ready (rs := [10]) (by kernel_rfl) (by simp) ?_
                            refine AllReadyH.cons rfl (fun K2 hK2 => ?_) ?_
                            · go_simp
                              refine hK2.out _ _ ?_ (fun hHeld => ?_)
                              · exact ⟨cell_set_other (hg1.cell (cell_ext HW6.out k0) hrowK) hKb _, cell_set_other (hg1.cell (cell_ext HW6.out k1) hrowK) hKb _, cell_set_other (hg1.cell (cell_ext HW6.out k2) hrowK) hKb _, cell_set_other (hg1.cell (cell_ext HW6.out k3) hrowK) hKb _, cell_set_other (hg1.cell (cell_ext HW6.out k4) hrowK) hKb _, cell_set_other (hg1.cell (cell_ext HW6.out k5) hrowK) hKb _, cell_set_other (hg1.cell (cell_ext HW6.out k6) hrowK) hKb _⟩
                              clear hK2 K2
                              (try dsimp only [Act.put, List.setIfInBounds_toArray, List.set_cons_zero, List.set_cons_succ])
                              refine wpAnyH_done (by kernel_rfl) ?_ _
                              go_wp2_with fail
                              go_ret
                              exact .inl ⟨code0 H5.out HW2.out.symm HKI.out HCO.out.symm HDA.out, rfl, HDN.out⟩
                            exact AllReadyH.nil
                          exact AllReadyH.nil
                        exact AllReadyH.nil
                      refine AllReadyH.cons rfl (fun K2 hK2 => ?_) ?_
                      · go_simp
                        have HW6 := Lib.hid (ext_trans (ext_alloc W (.cells #[.int .i64 who, .string ⟨nm.toArray⟩, .int .i64 (-1), .int .i64 value, .int .i64 from_, .int .i64 to_, .int .i64 learnt] 96)) (ext_drewN (W.alloc (.cells #[.int .i64 who, .string ⟨nm.toArray⟩, .int .i64 (-1), .int .i64 value, .int .i64 from_, .int .i64 to_, .int .i64 learnt] 96)) 1))
                        refine hK2.out _ _ ?_ (fun hHeld => ?_)
                        · exact ⟨(cell_ext HW6.out k0), (cell_ext HW6.out k1), (cell_ext HW6.out k2), (cell_ext HW6.out k3), (cell_ext HW6.out k4), (cell_ext HW6.out k5), (cell_ext HW6.out k6)⟩
                        clear hK2 K2
                        (try dsimp only [Act.put, List.setIfInBounds_toArray, List.set_cons_zero, List.set_cons_succ])
                        refine wpAnyH_ready (rs := [4]) (by kernel_rfl) (by simp) ?_
                        refine AllReadyH.cons rfl (fun K2 hK2 => ?_) ?_
                        · have y0e : (W.alloc (.cells #[.int .i64 who, .string ⟨nm.toArray⟩, .int .i64 (-1), .int .i64 value, .int .i64 from_, .int .i64 to_, .int .i64 learnt] 96)).drew.cell? ⟨b, 0, none⟩ = some (.slice A0 l.length c0) := cell_ext HW6.out y0
                          go_simp
                          refine hK2.out _ _ ?_ (fun hHeld => ?_)
                          · exact ⟨(cell_ext HW6.out k0), (cell_ext HW6.out k1), (cell_ext HW6.out k2), (cell_ext HW6.out k3), (cell_ext HW6.out k4), (cell_ext HW6.out k5), (cell_ext HW6.out k6)⟩
                          clear hK2 K2
                          (try dsimp only [Act.put, List.setIfInBounds_toArray, List.set_cons_zero, List.set_cons_succ])
                          refine wpAnyH_ready (rs := [7]) (by kernel_rfl) (by simp) ?_
                          refine AllReadyH.cons rfl (fun K2 hK2 => ?_) ?_
                          · refine step_append_rd _ (by rfl) _ _ _ (by rfl) base 96 i0 _ 7 64 Tryz.underlying22 HI.out HZ0.out HZ1.out HZ2.out rfl (by omega) (.slice A0 l.length c0) l.length (l.flatMap faC) (by rfl) (own_ext HOW.out HW6.out) (some ⟨W.heap.size, 0, none⟩) 1 1 (faC ⟨who, nm, (-1), value, from_, to_, learnt⟩) (by rfl) (fun h => by cases h) rfl (fun j u hj => ⟨W.heap.size, 0, rfl, by rw [Nat.zero_add]; exact (Blk.new W 96 (faC ⟨who, nm, (-1), value, from_, to_, learnt⟩)).cell j hj⟩) (faC_one _) (by unfold maxLen; omega) (by omega) (Nat.le_trans (Nat.le_trans HBW.out HX.out.size) HW6.out.size) ?_
                            intro v1 w1 hown1 hg1
                            obtain ⟨A1, c1, rfl, _⟩ := own_slice hown1
                            have HDN := Lib.hid (add_done (TF := 100) (T := 96) (by decide) (x := ⟨who, nm, (-1), value, from_, to_, learnt⟩) HBB.out (HFB.out.ext (HW6.out.mono (show b + 1 ≤ _ from HFB.out.lt))) (own_ext HOW.out HW6.out) (ext_trans HX.out HW6.out) HBW.out hown1 hg1)
                            have hrow : some b ≠ (Value.slice A0 l.length c0).ownBlock := fun e => by
                              obtain ⟨c, fz, h⟩ := Lib.ownsRow_kind HOW.out b e.symm
                              have h2 := HFB.out
                              unfold Blk at h2
                              rw [h2] at h
                              simp only [Option.some.injEq, Obj.cells.injEq] at h
                              exact absurd h.2.1 (by decide)
                            have hrowK : some K ≠ (Value.slice A0 l.length c0).ownBlock := fun e => by
                              have := (HO0.out.lt K e.symm).2
                              rw [HKE.out] at this
                              omega
                            have hKb : K ≠ b := by
                              have := HBL.out
                              rw [HKE.out]
                              omega
                            have hb1 := blk_grown (HFB.out.ext (HW6.out.mono (show b + 1 ≤ _ from HFB.out.lt))) hg1 hrow
                            have z1 := hb1.cell 0 rfl
                            have z2 := hb1.free 0
                            refine hK2.out _ _ ?_ (fun hHeld => ?_)
                            · exact ⟨hg1.cell (cell_ext HW6.out k0) hrowK, hg1.cell (cell_ext HW6.out k1) hrowK, hg1.cell (cell_ext HW6.out k2) hrowK, hg1.cell (cell_ext HW6.out k3) hrowK, hg1.cell (cell_ext HW6.out k4) hrowK, hg1.cell (cell_ext HW6.out k5) hrowK, hg1.cell (cell_ext HW6.out k6) hrowK⟩
                            clear hK2 K2
                            (try dsimp only [Act.put, List.setIfInBounds_toArray, List.set_cons_zero, List.set_cons_succ])
                            refine wpAnyH_take (i := 8) (v := ?_) rfl (by kernel_rfl) (by kernel_rfl) (by kernel_rfl) (fun _ _ _ h => h) (Or.inl ⟨by rfl, ?_⟩) (by assumption) ?_
                            rotate_left
                            · intro w hSw; (try dsimp only at hSw); go_simp; try with_reducible rfl
                            (try dsimp only [Act.put, List.setIfInBounds_toArray, List.set_cons_zero, List.set_cons_succ])
                            refine wpAnyH_take (i := 9) (v := ?_) rfl (by kernel_rfl) (by kernel_rfl) (by kernel_rfl) (fun _ _ _ h => h) (Or.inl ⟨by rfl, ?_⟩) (by assumption) ?_
                            rotate_left
                            · intro w hSw; (try dsimp only at hSw); go_simp; try with_reducible rfl
                            (try dsimp only [Act.put, List.setIfInBounds_toArray, List.set_cons_zero, List.set_cons_succ])
                            refine wpAnyH_ready (rs := [10]) (by kernel_rfl) (by simp) ?_
                            refine AllReadyH.cons rfl (fun K2 hK2 => ?_) ?_
                            · go_simp
                              refine hK2.out _ _ ?_ (fun hHeld => ?_)
                              · exact ⟨cell_set_other (hg1.cell (cell_ext HW6.out k0) hrowK) hKb _, cell_set_other (hg1.cell (cell_ext HW6.out k1) hrowK) hKb _, cell_set_other (hg1.cell (cell_ext HW6.out k2) hrowK) hKb _, cell_set_other (hg1.cell (cell_ext HW6.out k3) hrowK) hKb _, cell_set_other (hg1.cell (cell_ext HW6.out k4) hrowK) hKb _, cell_set_other (hg1.cell (cell_ext HW6.out k5) hrowK) hKb _, cell_set_other (hg1.cell (cell_ext HW6.out k6) hrowK) hKb _⟩
                              clear hK2 K2
                              (try dsimp only [Act.put, List.setIfInBounds_toArray, List.set_cons_zero, List.set_cons_succ])
                              refine wpAnyH_done (by kernel_rfl) ?_ _
                              go_wp2_with fail
                              go_ret
                              exact .inl ⟨code0 H5.out HW2.out.symm HKI.out HCO.out.symm HDA.out, rfl, HDN.out⟩
                            exact AllReadyH.nil
                          exact AllReadyH.nil
                        exact AllReadyH.nil
                      exact AllReadyH.nil
        · have hq1 : (other == -1) = false := by simp [ho1]
          have hq1b : (other != -1) = true := by simp [ho1]
          have HO1 := Lib.hid hq1
          clear ho1
          cases bo with
          | false =>
            go_wp2_with fail
            go_ret
            exact radd_no (code9 H5.out HW2.out.symm (show kindB (⟨who, nm, other, value, from_, to_, learnt⟩ : Fa) = false by simp only [kindB]; rw [← HWH.out, ← HOT.out, HO1.out]; simp)) (by decide) HX.out
          | true =>
            by_cases how : other = who
            · have hq2 : (other == who) = true := by simp [how]
              have HOWH := Lib.hid hq2
              clear how
              go_wp2_with fail
              go_ret
              exact radd_no (code9 H5.out HW2.out.symm (show kindB (⟨who, nm, other, value, from_, to_, learnt⟩ : Fa) = false by simp only [kindB]; rw [← HWH.out, ← HOT.out, HOWH.out, HO1.out]; simp)) (by decide) HX.out
            · have hq2 : (other == who) = false := by simp [how]
              have HOWH := Lib.hid hq2
              clear how
              have HKI := Lib.hid (show kindB (⟨who, nm, other, value, from_, to_, learnt⟩ : Fa) = true by simp only [kindB]; rw [← HWH.out, ← HOT.out, HOWH.out]; simp)
              go_wp2_with fail
              refine (rsmall_any value _).mono ?_
              obtain ⟨bc, hbc⟩ : ∃ b, b = coinB value := ⟨_, rfl⟩
              rw [← hbc]
              have HCO := Lib.hid hbc
              clear hbc
              rintro e w104 ⟨rfl, rfl⟩
              cases bc with
              | false =>
                go_wp2_with fail
                go_ret
                exact radd_no (code3 H5.out HW2.out.symm HKI.out HCO.out.symm) (by decide) HX.out
              | true =>
                go_wp2_with fail
                refine (isday_any from_ _).mono ?_
                obtain ⟨bf, hbf⟩ : ∃ b, b = dayB from_ := ⟨_, rfl⟩
                rw [← hbf]
                have HFR := Lib.hid hbf
                clear hbf
                rintro e w101 ⟨rfl, rfl⟩
                go_wp2_with fail
                refine (isday_any learnt _).mono ?_
                obtain ⟨bl, hbl⟩ : ∃ b, b = dayB learnt := ⟨_, rfl⟩
                rw [← hbl]
                have HLN := Lib.hid hbl
                clear hbl
                rintro e w102 ⟨rfl, rfl⟩
                go_wp2_with fail
                refine (isday_any to_ _).mono ?_
                obtain ⟨bt, hbt⟩ : ∃ b, b = dayB to_ := ⟨_, rfl⟩
                rw [← hbt]
                have HTO := Lib.hid hbt
                clear hbt
                rintro e w103 ⟨rfl, rfl⟩
                cases bf with
                | false =>
                  go_wp2_with fail
                  go_ret
                  exact radd_no (code4 H5.out HW2.out.symm HKI.out HCO.out.symm (show daysB (⟨who, nm, other, value, from_, to_, learnt⟩ : Fa) = false by simp only [daysB]; rw [← HFR.out]; simp)) (by decide) HX.out
                | true =>
                  cases bl with
                  | false =>
                    go_wp2_with fail
                    go_ret
                    exact radd_no (code4 H5.out HW2.out.symm HKI.out HCO.out.symm (show daysB (⟨who, nm, other, value, from_, to_, learnt⟩ : Fa) = false by simp only [daysB]; rw [← HFR.out, ← HLN.out]; simp)) (by decide) HX.out
                  | true =>
                    by_cases ht0 : to_ = 0
                    · subst ht0
                      have HDA := Lib.hid (show daysB (⟨who, nm, other, value, from_, 0, learnt⟩ : Fa) = true by simp only [daysB]; rw [← HFR.out, ← HLN.out]; simp)
                      go_upto_region 18 with fail
                      (try clear hq1)
                      (try clear hq)
                      (try clear hq2)
                      refine wp_region_held_drew (S := (fun w' => w'.cell? ⟨K, 0, none⟩ = some (.int .i64 who) ∧ w'.cell? ⟨K, 1, none⟩ = some (.string ⟨nm.toArray⟩) ∧ w'.cell? ⟨K, 2, none⟩ = some (.int .i64 other) ∧ w'.cell? ⟨K, 3, none⟩ = some (.int .i64 value) ∧ w'.cell? ⟨K, 4, none⟩ = some (.int .i64 from_) ∧ w'.cell? ⟨K, 5, none⟩ = some (.int .i64 0) ∧ w'.cell? ⟨K, 6, none⟩ = some (.int .i64 learnt))) (by kernel_rfl) ?_ (fun hHeld => ?_)
                      · exact ⟨k0, k1, k2, k3, k4, k5, k6⟩
                      refine wpAnyH_take (i := 0) (v := ?_) rfl (by kernel_rfl) (by kernel_rfl) (by kernel_rfl) (fun _ _ _ h => h) (Or.inl ⟨by rfl, ?_⟩) (by assumption) ?_
                      rotate_left
                      · intro w hSw; (try dsimp only at hSw); go_simp; try with_reducible rfl
                      (try dsimp only [Act.put, List.setIfInBounds_toArray, List.set_cons_zero, List.set_cons_succ])
                      refine wpAnyH_take (i := 1) (v := ?_) rfl (by kernel_rfl) (by kernel_rfl) (by kernel_rfl) (fun _ _ _ h => h) (Or.inl ⟨by rfl, ?_⟩) (by assumption) ?_
                      rotate_left
                      · intro w hSw; (try dsimp only at hSw); go_simp; try with_reducible rfl
                      (try dsimp only [Act.put, List.setIfInBounds_toArray, List.set_cons_zero, List.set_cons_succ])
                      refine wpAnyH_take (i := 2) (v := ?_) rfl (by kernel_rfl) (by kernel_rfl) (by kernel_rfl) (fun _ _ _ h => h) (Or.inl ⟨by rfl, ?_⟩) (by assumption) ?_
                      rotate_left
                      · intro w hSw; (try dsimp only at hSw); go_simp; try with_reducible rfl
                      (try dsimp only [Act.put, List.setIfInBounds_toArray, List.set_cons_zero, List.set_cons_succ])
                      refine wpAnyH_take (i := 3) (v := ?_) rfl (by kernel_rfl) (by kernel_rfl) (by kernel_rfl) (fun _ _ _ h => h) (Or.inl ⟨by rfl, ?_⟩) (by assumption) ?_
                      rotate_left
                      · intro w hSw; (try dsimp only at hSw); go_simp; try with_reducible rfl
                      (try dsimp only [Act.put, List.setIfInBounds_toArray, List.set_cons_zero, List.set_cons_succ])
                      refine wpAnyH_take (i := 5) (v := ?_) rfl (by kernel_rfl) (by kernel_rfl) (by kernel_rfl) (fun _ _ _ h => h) (Or.inl ⟨by rfl, ?_⟩) (by assumption) ?_
                      rotate_left
                      · intro w hSw; (try dsimp only at hSw); go_simp; try with_reducible rfl
                      (try dsimp only [Act.put, List.setIfInBounds_toArray, List.set_cons_zero, List.set_cons_succ])
                      refine wpAnyH_ready (rs := [4, 6]) (by kernel_rfl) (by simp) ?_
                      refine AllReadyH.cons rfl (fun K2 hK2 => ?_) ?_
                      · have y0d : (W.drewN 1).cell? ⟨b, 0, none⟩ = some (.slice A0 l.length c0) := cell_ext (ext_drewN W 1) y0
                        go_simp
                        refine hK2.out _ _ ?_ (fun hHeld => ?_)
                        · exact ⟨(cell_ext (ext_drewN W 1) k0), (cell_ext (ext_drewN W 1) k1), (cell_ext (ext_drewN W 1) k2), (cell_ext (ext_drewN W 1) k3), (cell_ext (ext_drewN W 1) k4), (cell_ext (ext_drewN W 1) k5), (cell_ext (ext_drewN W 1) k6)⟩
                        clear hK2 K2
                        (try dsimp only [Act.put, List.setIfInBounds_toArray, List.set_cons_zero, List.set_cons_succ])
                        refine wpAnyH_ready (rs := [6]) (by kernel_rfl) (by simp) ?_
                        refine AllReadyH.cons rfl (fun K2 hK2 => ?_) ?_
                        · go_simp
                          have HW6 := Lib.hid (ext_trans (ext_alloc W (.cells #[.int .i64 who, .string ⟨nm.toArray⟩, .int .i64 other, .int .i64 value, .int .i64 from_, .int .i64 0, .int .i64 learnt] 96)) (ext_drewN (W.alloc (.cells #[.int .i64 who, .string ⟨nm.toArray⟩, .int .i64 other, .int .i64 value, .int .i64 from_, .int .i64 0, .int .i64 learnt] 96)) 1))
                          refine hK2.out _ _ ?_ (fun hHeld => ?_)
                          · exact ⟨(cell_ext HW6.out k0), (cell_ext HW6.out k1), (cell_ext HW6.out k2), (cell_ext HW6.out k3), (cell_ext HW6.out k4), (cell_ext HW6.out k5), (cell_ext HW6.out k6)⟩
                          clear hK2 K2
                          (try dsimp only [Act.put, List.setIfInBounds_toArray, List.set_cons_zero, List.set_cons_succ])
                          refine wpAnyH_ready (rs := [7]) (by kernel_rfl) (by simp) ?_
                          refine AllReadyH.cons rfl (fun K2 hK2 => ?_) ?_
                          · refine step_append_rd _ (by rfl) _ _ _ (by rfl) base 96 i0 _ 7 64 Tryz.underlying22 HI.out HZ0.out HZ1.out HZ2.out rfl (by omega) (.slice A0 l.length c0) l.length (l.flatMap faC) (by rfl) (own_ext HOW.out HW6.out) (some ⟨W.heap.size, 0, none⟩) 1 1 (faC ⟨who, nm, other, value, from_, 0, learnt⟩) (by rfl) (fun h => by cases h) rfl (fun j u hj => ⟨W.heap.size, 0, rfl, by rw [Nat.zero_add]; exact (Blk.new W 96 (faC ⟨who, nm, other, value, from_, 0, learnt⟩)).cell j hj⟩) (faC_one _) (by unfold maxLen; omega) (by omega) (Nat.le_trans (Nat.le_trans HBW.out HX.out.size) HW6.out.size) ?_
                            intro v1 w1 hown1 hg1
                            obtain ⟨A1, c1, rfl, _⟩ := own_slice hown1
                            have HDN := Lib.hid (add_done (TF := 100) (T := 96) (by decide) (x := ⟨who, nm, other, value, from_, 0, learnt⟩) HBB.out (HFB.out.ext (HW6.out.mono (show b + 1 ≤ _ from HFB.out.lt))) (own_ext HOW.out HW6.out) (ext_trans HX.out HW6.out) HBW.out hown1 hg1)
                            have hrow : some b ≠ (Value.slice A0 l.length c0).ownBlock := fun e => by
                              obtain ⟨c, fz, h⟩ := Lib.ownsRow_kind HOW.out b e.symm
                              have h2 := HFB.out
                              unfold Blk at h2
                              rw [h2] at h
                              simp only [Option.some.injEq, Obj.cells.injEq] at h
                              exact absurd h.2.1 (by decide)
                            have hrowK : some K ≠ (Value.slice A0 l.length c0).ownBlock := fun e => by
                              have := (HO0.out.lt K e.symm).2
                              rw [HKE.out] at this
                              omega
                            have hKb : K ≠ b := by
                              have := HBL.out
                              rw [HKE.out]
                              omega
                            have hb1 := blk_grown (HFB.out.ext (HW6.out.mono (show b + 1 ≤ _ from HFB.out.lt))) hg1 hrow
                            have z1 := hb1.cell 0 rfl
                            have z2 := hb1.free 0
                            refine hK2.out _ _ ?_ (fun hHeld => ?_)
                            · exact ⟨hg1.cell (cell_ext HW6.out k0) hrowK, hg1.cell (cell_ext HW6.out k1) hrowK, hg1.cell (cell_ext HW6.out k2) hrowK, hg1.cell (cell_ext HW6.out k3) hrowK, hg1.cell (cell_ext HW6.out k4) hrowK, hg1.cell (cell_ext HW6.out k5) hrowK, hg1.cell (cell_ext HW6.out k6) hrowK⟩
                            clear hK2 K2
                            (try dsimp only [Act.put, List.setIfInBounds_toArray, List.set_cons_zero, List.set_cons_succ])
                            refine wpAnyH_take (i := 8) (v := ?_) rfl (by kernel_rfl) (by kernel_rfl) (by kernel_rfl) (fun _ _ _ h => h) (Or.inl ⟨by rfl, ?_⟩) (by assumption) ?_
                            rotate_left
                            · intro w hSw; (try dsimp only at hSw); go_simp; try with_reducible rfl
                            (try dsimp only [Act.put, List.setIfInBounds_toArray, List.set_cons_zero, List.set_cons_succ])
                            refine wpAnyH_take (i := 9) (v := ?_) rfl (by kernel_rfl) (by kernel_rfl) (by kernel_rfl) (fun _ _ _ h => h) (Or.inl ⟨by rfl, ?_⟩) (by assumption) ?_
                            rotate_left
                            · intro w hSw; (try dsimp only at hSw); go_simp; try with_reducible rfl
                            (try dsimp only [Act.put, List.setIfInBounds_toArray, List.set_cons_zero, List.set_cons_succ])
                            refine wpAnyH_ready (rs := [10]) (by kernel_rfl) (by simp) ?_
                            refine AllReadyH.cons rfl (fun K2 hK2 => ?_) ?_
                            · go_simp
                              refine hK2.out _ _ ?_ (fun hHeld => ?_)
                              · exact ⟨cell_set_other (hg1.cell (cell_ext HW6.out k0) hrowK) hKb _, cell_set_other (hg1.cell (cell_ext HW6.out k1) hrowK) hKb _, cell_set_other (hg1.cell (cell_ext HW6.out k2) hrowK) hKb _, cell_set_other (hg1.cell (cell_ext HW6.out k3) hrowK) hKb _, cell_set_other (hg1.cell (cell_ext HW6.out k4) hrowK) hKb _, cell_set_other (hg1.cell (cell_ext HW6.out k5) hrowK) hKb _, cell_set_other (hg1.cell (cell_ext HW6.out k6) hrowK) hKb _⟩
                              clear hK2 K2
                              (try dsimp only [Act.put, List.setIfInBounds_toArray, List.set_cons_zero, List.set_cons_succ])
                              refine wpAnyH_done (by kernel_rfl) ?_ _
                              go_wp2_with fail
                              go_ret
                              exact .inl ⟨code0 H5.out HW2.out.symm HKI.out HCO.out.symm HDA.out, rfl, HDN.out⟩
                            exact AllReadyH.nil
                          exact AllReadyH.nil
                        exact AllReadyH.nil
                      refine AllReadyH.cons rfl (fun K2 hK2 => ?_) ?_
                      · go_simp
                        have HW6 := Lib.hid (ext_trans (ext_alloc W (.cells #[.int .i64 who, .string ⟨nm.toArray⟩, .int .i64 other, .int .i64 value, .int .i64 from_, .int .i64 0, .int .i64 learnt] 96)) (ext_drewN (W.alloc (.cells #[.int .i64 who, .string ⟨nm.toArray⟩, .int .i64 other, .int .i64 value, .int .i64 from_, .int .i64 0, .int .i64 learnt] 96)) 1))
                        refine hK2.out _ _ ?_ (fun hHeld => ?_)
                        · exact ⟨(cell_ext HW6.out k0), (cell_ext HW6.out k1), (cell_ext HW6.out k2), (cell_ext HW6.out k3), (cell_ext HW6.out k4), (cell_ext HW6.out k5), (cell_ext HW6.out k6)⟩
                        clear hK2 K2
                        (try dsimp only [Act.put, List.setIfInBounds_toArray, List.set_cons_zero, List.set_cons_succ])
                        refine wpAnyH_ready (rs := [4]) (by kernel_rfl) (by simp) ?_
                        refine AllReadyH.cons rfl (fun K2 hK2 => ?_) ?_
                        · have y0e : (W.alloc (.cells #[.int .i64 who, .string ⟨nm.toArray⟩, .int .i64 other, .int .i64 value, .int .i64 from_, .int .i64 0, .int .i64 learnt] 96)).drew.cell? ⟨b, 0, none⟩ = some (.slice A0 l.length c0) := cell_ext HW6.out y0
                          go_simp
                          refine hK2.out _ _ ?_ (fun hHeld => ?_)
                          · exact ⟨(cell_ext HW6.out k0), (cell_ext HW6.out k1), (cell_ext HW6.out k2), (cell_ext HW6.out k3), (cell_ext HW6.out k4), (cell_ext HW6.out k5), (cell_ext HW6.out k6)⟩
                          clear hK2 K2
                          (try dsimp only [Act.put, List.setIfInBounds_toArray, List.set_cons_zero, List.set_cons_succ])
                          refine wpAnyH_ready (rs := [7]) (by kernel_rfl) (by simp) ?_
                          refine AllReadyH.cons rfl (fun K2 hK2 => ?_) ?_
                          · refine step_append_rd _ (by rfl) _ _ _ (by rfl) base 96 i0 _ 7 64 Tryz.underlying22 HI.out HZ0.out HZ1.out HZ2.out rfl (by omega) (.slice A0 l.length c0) l.length (l.flatMap faC) (by rfl) (own_ext HOW.out HW6.out) (some ⟨W.heap.size, 0, none⟩) 1 1 (faC ⟨who, nm, other, value, from_, 0, learnt⟩) (by rfl) (fun h => by cases h) rfl (fun j u hj => ⟨W.heap.size, 0, rfl, by rw [Nat.zero_add]; exact (Blk.new W 96 (faC ⟨who, nm, other, value, from_, 0, learnt⟩)).cell j hj⟩) (faC_one _) (by unfold maxLen; omega) (by omega) (Nat.le_trans (Nat.le_trans HBW.out HX.out.size) HW6.out.size) ?_
                            intro v1 w1 hown1 hg1
                            obtain ⟨A1, c1, rfl, _⟩ := own_slice hown1
                            have HDN := Lib.hid (add_done (TF := 100) (T := 96) (by decide) (x := ⟨who, nm, other, value, from_, 0, learnt⟩) HBB.out (HFB.out.ext (HW6.out.mono (show b + 1 ≤ _ from HFB.out.lt))) (own_ext HOW.out HW6.out) (ext_trans HX.out HW6.out) HBW.out hown1 hg1)
                            have hrow : some b ≠ (Value.slice A0 l.length c0).ownBlock := fun e => by
                              obtain ⟨c, fz, h⟩ := Lib.ownsRow_kind HOW.out b e.symm
                              have h2 := HFB.out
                              unfold Blk at h2
                              rw [h2] at h
                              simp only [Option.some.injEq, Obj.cells.injEq] at h
                              exact absurd h.2.1 (by decide)
                            have hrowK : some K ≠ (Value.slice A0 l.length c0).ownBlock := fun e => by
                              have := (HO0.out.lt K e.symm).2
                              rw [HKE.out] at this
                              omega
                            have hKb : K ≠ b := by
                              have := HBL.out
                              rw [HKE.out]
                              omega
                            have hb1 := blk_grown (HFB.out.ext (HW6.out.mono (show b + 1 ≤ _ from HFB.out.lt))) hg1 hrow
                            have z1 := hb1.cell 0 rfl
                            have z2 := hb1.free 0
                            refine hK2.out _ _ ?_ (fun hHeld => ?_)
                            · exact ⟨hg1.cell (cell_ext HW6.out k0) hrowK, hg1.cell (cell_ext HW6.out k1) hrowK, hg1.cell (cell_ext HW6.out k2) hrowK, hg1.cell (cell_ext HW6.out k3) hrowK, hg1.cell (cell_ext HW6.out k4) hrowK, hg1.cell (cell_ext HW6.out k5) hrowK, hg1.cell (cell_ext HW6.out k6) hrowK⟩
                            clear hK2 K2
                            (try dsimp only [Act.put, List.setIfInBounds_toArray, List.set_cons_zero, List.set_cons_succ])
                            refine wpAnyH_take (i := 8) (v := ?_) rfl (by kernel_rfl) (by kernel_rfl) (by kernel_rfl) (fun _ _ _ h => h) (Or.inl ⟨by rfl, ?_⟩) (by assumption) ?_
                            rotate_left
                            · intro w hSw; (try dsimp only at hSw); go_simp; try with_reducible rfl
                            (try dsimp only [Act.put, List.setIfInBounds_toArray, List.set_cons_zero, List.set_cons_succ])
                            refine wpAnyH_take (i := 9) (v := ?_) rfl (by kernel_rfl) (by kernel_rfl) (by kernel_rfl) (fun _ _ _ h => h) (Or.inl ⟨by rfl, ?_⟩) (by assumption) ?_
                            rotate_left
                            · intro w hSw; (try dsimp only at hSw); go_simp; try with_reducible rfl
                            (try dsimp only [Act.put, List.setIfInBounds_toArray, List.set_cons_zero, List.set_cons_succ])
                            refine wpAnyH_ready (rs := [10]) (by kernel_rfl) (by simp) ?_
                            refine AllReadyH.cons rfl (fun K2 hK2 => ?_) ?_
                            · go_simp
                              refine hK2.out _ _ ?_ (fun hHeld => ?_)
                              · exact ⟨cell_set_other (hg1.cell (cell_ext HW6.out k0) hrowK) hKb _, cell_set_other (hg1.cell (cell_ext HW6.out k1) hrowK) hKb _, cell_set_other (hg1.cell (cell_ext HW6.out k2) hrowK) hKb _, cell_set_other (hg1.cell (cell_ext HW6.out k3) hrowK) hKb _, cell_set_other (hg1.cell (cell_ext HW6.out k4) hrowK) hKb _, cell_set_other (hg1.cell (cell_ext HW6.out k5) hrowK) hKb _, cell_set_other (hg1.cell (cell_ext HW6.out k6) hrowK) hKb _⟩
                              clear hK2 K2
                              (try dsimp only [Act.put, List.setIfInBounds_toArray, List.set_cons_zero, List.set_cons_succ])
                              refine wpAnyH_done (by kernel_rfl) ?_ _
                              go_wp2_with fail
                              go_ret
                              exact .inl ⟨code0 H5.out HW2.out.symm HKI.out HCO.out.symm HDA.out, rfl, HDN.out⟩
                            exact AllReadyH.nil
                          exact AllReadyH.nil
                        exact AllReadyH.nil
                      exact AllReadyH.nil
                    · have hq : (to_ == 0) = false := by simp [ht0]
                      have hqb : (to_ != 0) = true := by simp [ht0]
                      have HT0 := Lib.hid ht0
                      clear ht0
                      cases bt with
                      | false =>
                        go_wp2_with fail
                        go_ret
                        exact radd_no (code4 H5.out HW2.out.symm HKI.out HCO.out.symm (show daysB (⟨who, nm, other, value, from_, to_, learnt⟩ : Fa) = false by simp only [daysB]; rw [← HFR.out, ← HLN.out, ← HTO.out]; simp [HT0.out])) (by decide) HX.out
                      | true =>
                        by_cases hle : to_ ≤ from_
                        · have HLE := Lib.hid hle
                          go_wp2_with fail
                          go_ret
                          exact radd_no (code4 H5.out HW2.out.symm HKI.out HCO.out.symm (show daysB (⟨who, nm, other, value, from_, to_, learnt⟩ : Fa) = false by simp only [daysB]; rw [← HFR.out, ← HLN.out, ← HTO.out, decide_eq_true HLE.out]; simp [HT0.out])) (by decide) HX.out
                        · have HLE := Lib.hid hle
                          have HDA := Lib.hid (show daysB (⟨who, nm, other, value, from_, to_, learnt⟩ : Fa) = true by simp only [daysB]; rw [← HFR.out, ← HLN.out, ← HTO.out, decide_eq_false HLE.out]; simp)
                          go_upto_region 18 with fail
                          (try clear hq1)
                          (try clear hq)
                          (try clear hq2)
                          refine wp_region_held_drew (S := (fun w' => w'.cell? ⟨K, 0, none⟩ = some (.int .i64 who) ∧ w'.cell? ⟨K, 1, none⟩ = some (.string ⟨nm.toArray⟩) ∧ w'.cell? ⟨K, 2, none⟩ = some (.int .i64 other) ∧ w'.cell? ⟨K, 3, none⟩ = some (.int .i64 value) ∧ w'.cell? ⟨K, 4, none⟩ = some (.int .i64 from_) ∧ w'.cell? ⟨K, 5, none⟩ = some (.int .i64 to_) ∧ w'.cell? ⟨K, 6, none⟩ = some (.int .i64 learnt))) (by kernel_rfl) ?_ (fun hHeld => ?_)
                          · exact ⟨k0, k1, k2, k3, k4, k5, k6⟩
                          refine wpAnyH_take (i := 0) (v := ?_) rfl (by kernel_rfl) (by kernel_rfl) (by kernel_rfl) (fun _ _ _ h => h) (Or.inl ⟨by rfl, ?_⟩) (by assumption) ?_
                          rotate_left
                          · intro w hSw; (try dsimp only at hSw); go_simp; try with_reducible rfl
                          (try dsimp only [Act.put, List.setIfInBounds_toArray, List.set_cons_zero, List.set_cons_succ])
                          refine wpAnyH_take (i := 1) (v := ?_) rfl (by kernel_rfl) (by kernel_rfl) (by kernel_rfl) (fun _ _ _ h => h) (Or.inl ⟨by rfl, ?_⟩) (by assumption) ?_
                          rotate_left
                          · intro w hSw; (try dsimp only at hSw); go_simp; try with_reducible rfl
                          (try dsimp only [Act.put, List.setIfInBounds_toArray, List.set_cons_zero, List.set_cons_succ])
                          refine wpAnyH_take (i := 2) (v := ?_) rfl (by kernel_rfl) (by kernel_rfl) (by kernel_rfl) (fun _ _ _ h => h) (Or.inl ⟨by rfl, ?_⟩) (by assumption) ?_
                          rotate_left
                          · intro w hSw; (try dsimp only at hSw); go_simp; try with_reducible rfl
                          (try dsimp only [Act.put, List.setIfInBounds_toArray, List.set_cons_zero, List.set_cons_succ])
                          refine wpAnyH_take (i := 3) (v := ?_) rfl (by kernel_rfl) (by kernel_rfl) (by kernel_rfl) (fun _ _ _ h => h) (Or.inl ⟨by rfl, ?_⟩) (by assumption) ?_
                          rotate_left
                          · intro w hSw; (try dsimp only at hSw); go_simp; try with_reducible rfl
                          (try dsimp only [Act.put, List.setIfInBounds_toArray, List.set_cons_zero, List.set_cons_succ])
                          refine wpAnyH_take (i := 5) (v := ?_) rfl (by kernel_rfl) (by kernel_rfl) (by kernel_rfl) (fun _ _ _ h => h) (Or.inl ⟨by rfl, ?_⟩) (by assumption) ?_
                          rotate_left
                          · intro w hSw; (try dsimp only at hSw); go_simp; try with_reducible rfl
                          (try dsimp only [Act.put, List.setIfInBounds_toArray, List.set_cons_zero, List.set_cons_succ])
                          refine wpAnyH_ready (rs := [4, 6]) (by kernel_rfl) (by simp) ?_
                          refine AllReadyH.cons rfl (fun K2 hK2 => ?_) ?_
                          · have y0d : (W.drewN 1).cell? ⟨b, 0, none⟩ = some (.slice A0 l.length c0) := cell_ext (ext_drewN W 1) y0
                            go_simp
                            refine hK2.out _ _ ?_ (fun hHeld => ?_)
                            · exact ⟨(cell_ext (ext_drewN W 1) k0), (cell_ext (ext_drewN W 1) k1), (cell_ext (ext_drewN W 1) k2), (cell_ext (ext_drewN W 1) k3), (cell_ext (ext_drewN W 1) k4), (cell_ext (ext_drewN W 1) k5), (cell_ext (ext_drewN W 1) k6)⟩
                            clear hK2 K2
                            (try dsimp only [Act.put, List.setIfInBounds_toArray, List.set_cons_zero, List.set_cons_succ])
                            refine wpAnyH_ready (rs := [6]) (by kernel_rfl) (by simp) ?_
                            refine AllReadyH.cons rfl (fun K2 hK2 => ?_) ?_
                            · go_simp
                              have HW6 := Lib.hid (ext_trans (ext_alloc W (.cells #[.int .i64 who, .string ⟨nm.toArray⟩, .int .i64 other, .int .i64 value, .int .i64 from_, .int .i64 to_, .int .i64 learnt] 96)) (ext_drewN (W.alloc (.cells #[.int .i64 who, .string ⟨nm.toArray⟩, .int .i64 other, .int .i64 value, .int .i64 from_, .int .i64 to_, .int .i64 learnt] 96)) 1))
                              refine hK2.out _ _ ?_ (fun hHeld => ?_)
                              · exact ⟨(cell_ext HW6.out k0), (cell_ext HW6.out k1), (cell_ext HW6.out k2), (cell_ext HW6.out k3), (cell_ext HW6.out k4), (cell_ext HW6.out k5), (cell_ext HW6.out k6)⟩
                              clear hK2 K2
                              (try dsimp only [Act.put, List.setIfInBounds_toArray, List.set_cons_zero, List.set_cons_succ])
                              refine wpAnyH_ready (rs := [7]) (by kernel_rfl) (by simp) ?_
                              refine AllReadyH.cons rfl (fun K2 hK2 => ?_) ?_
                              · refine step_append_rd _ (by rfl) _ _ _ (by rfl) base 96 i0 _ 7 64 Tryz.underlying22 HI.out HZ0.out HZ1.out HZ2.out rfl (by omega) (.slice A0 l.length c0) l.length (l.flatMap faC) (by rfl) (own_ext HOW.out HW6.out) (some ⟨W.heap.size, 0, none⟩) 1 1 (faC ⟨who, nm, other, value, from_, to_, learnt⟩) (by rfl) (fun h => by cases h) rfl (fun j u hj => ⟨W.heap.size, 0, rfl, by rw [Nat.zero_add]; exact (Blk.new W 96 (faC ⟨who, nm, other, value, from_, to_, learnt⟩)).cell j hj⟩) (faC_one _) (by unfold maxLen; omega) (by omega) (Nat.le_trans (Nat.le_trans HBW.out HX.out.size) HW6.out.size) ?_
                                intro v1 w1 hown1 hg1
                                obtain ⟨A1, c1, rfl, _⟩ := own_slice hown1
                                have HDN := Lib.hid (add_done (TF := 100) (T := 96) (by decide) (x := ⟨who, nm, other, value, from_, to_, learnt⟩) HBB.out (HFB.out.ext (HW6.out.mono (show b + 1 ≤ _ from HFB.out.lt))) (own_ext HOW.out HW6.out) (ext_trans HX.out HW6.out) HBW.out hown1 hg1)
                                have hrow : some b ≠ (Value.slice A0 l.length c0).ownBlock := fun e => by
                                  obtain ⟨c, fz, h⟩ := Lib.ownsRow_kind HOW.out b e.symm
                                  have h2 := HFB.out
                                  unfold Blk at h2
                                  rw [h2] at h
                                  simp only [Option.some.injEq, Obj.cells.injEq] at h
                                  exact absurd h.2.1 (by decide)
                                have hrowK : some K ≠ (Value.slice A0 l.length c0).ownBlock := fun e => by
                                  have := (HO0.out.lt K e.symm).2
                                  rw [HKE.out] at this
                                  omega
                                have hKb : K ≠ b := by
                                  have := HBL.out
                                  rw [HKE.out]
                                  omega
                                have hb1 := blk_grown (HFB.out.ext (HW6.out.mono (show b + 1 ≤ _ from HFB.out.lt))) hg1 hrow
                                have z1 := hb1.cell 0 rfl
                                have z2 := hb1.free 0
                                refine hK2.out _ _ ?_ (fun hHeld => ?_)
                                · exact ⟨hg1.cell (cell_ext HW6.out k0) hrowK, hg1.cell (cell_ext HW6.out k1) hrowK, hg1.cell (cell_ext HW6.out k2) hrowK, hg1.cell (cell_ext HW6.out k3) hrowK, hg1.cell (cell_ext HW6.out k4) hrowK, hg1.cell (cell_ext HW6.out k5) hrowK, hg1.cell (cell_ext HW6.out k6) hrowK⟩
                                clear hK2 K2
                                (try dsimp only [Act.put, List.setIfInBounds_toArray, List.set_cons_zero, List.set_cons_succ])
                                refine wpAnyH_take (i := 8) (v := ?_) rfl (by kernel_rfl) (by kernel_rfl) (by kernel_rfl) (fun _ _ _ h => h) (Or.inl ⟨by rfl, ?_⟩) (by assumption) ?_
                                rotate_left
                                · intro w hSw; (try dsimp only at hSw); go_simp; try with_reducible rfl
                                (try dsimp only [Act.put, List.setIfInBounds_toArray, List.set_cons_zero, List.set_cons_succ])
                                refine wpAnyH_take (i := 9) (v := ?_) rfl (by kernel_rfl) (by kernel_rfl) (by kernel_rfl) (fun _ _ _ h => h) (Or.inl ⟨by rfl, ?_⟩) (by assumption) ?_
                                rotate_left
                                · intro w hSw; (try dsimp only at hSw); go_simp; try with_reducible rfl
                                (try dsimp only [Act.put, List.setIfInBounds_toArray, List.set_cons_zero, List.set_cons_succ])
                                refine wpAnyH_ready (rs := [10]) (by kernel_rfl) (by simp) ?_
                                refine AllReadyH.cons rfl (fun K2 hK2 => ?_) ?_
                                · go_simp
                                  refine hK2.out _ _ ?_ (fun hHeld => ?_)
                                  · exact ⟨cell_set_other (hg1.cell (cell_ext HW6.out k0) hrowK) hKb _, cell_set_other (hg1.cell (cell_ext HW6.out k1) hrowK) hKb _, cell_set_other (hg1.cell (cell_ext HW6.out k2) hrowK) hKb _, cell_set_other (hg1.cell (cell_ext HW6.out k3) hrowK) hKb _, cell_set_other (hg1.cell (cell_ext HW6.out k4) hrowK) hKb _, cell_set_other (hg1.cell (cell_ext HW6.out k5) hrowK) hKb _, cell_set_other (hg1.cell (cell_ext HW6.out k6) hrowK) hKb _⟩
                                  clear hK2 K2
                                  (try dsimp only [Act.put, List.setIfInBounds_toArray, List.set_cons_zero, List.set_cons_succ])
                                  refine wpAnyH_done (by kernel_rfl) ?_ _
                                  go_wp2_with fail
                                  go_ret
                                  exact .inl ⟨code0 H5.out HW2.out.symm HKI.out HCO.out.symm HDA.out, rfl, HDN.out⟩
                                exact AllReadyH.nil
                              exact AllReadyH.nil
                            exact AllReadyH.nil
                          refine AllReadyH.cons rfl (fun K2 hK2 => ?_) ?_
                          · go_simp
                            have HW6 := Lib.hid (ext_trans (ext_alloc W (.cells #[.int .i64 who, .string ⟨nm.toArray⟩, .int .i64 other, .int .i64 value, .int .i64 from_, .int .i64 to_, .int .i64 learnt] 96)) (ext_drewN (W.alloc (.cells #[.int .i64 who, .string ⟨nm.toArray⟩, .int .i64 other, .int .i64 value, .int .i64 from_, .int .i64 to_, .int .i64 learnt] 96)) 1))
                            refine hK2.out _ _ ?_ (fun hHeld => ?_)
                            · exact ⟨(cell_ext HW6.out k0), (cell_ext HW6.out k1), (cell_ext HW6.out k2), (cell_ext HW6.out k3), (cell_ext HW6.out k4), (cell_ext HW6.out k5), (cell_ext HW6.out k6)⟩
                            clear hK2 K2
                            (try dsimp only [Act.put, List.setIfInBounds_toArray, List.set_cons_zero, List.set_cons_succ])
                            refine wpAnyH_ready (rs := [4]) (by kernel_rfl) (by simp) ?_
                            refine AllReadyH.cons rfl (fun K2 hK2 => ?_) ?_
                            · have y0e : (W.alloc (.cells #[.int .i64 who, .string ⟨nm.toArray⟩, .int .i64 other, .int .i64 value, .int .i64 from_, .int .i64 to_, .int .i64 learnt] 96)).drew.cell? ⟨b, 0, none⟩ = some (.slice A0 l.length c0) := cell_ext HW6.out y0
                              go_simp
                              refine hK2.out _ _ ?_ (fun hHeld => ?_)
                              · exact ⟨(cell_ext HW6.out k0), (cell_ext HW6.out k1), (cell_ext HW6.out k2), (cell_ext HW6.out k3), (cell_ext HW6.out k4), (cell_ext HW6.out k5), (cell_ext HW6.out k6)⟩
                              clear hK2 K2
                              (try dsimp only [Act.put, List.setIfInBounds_toArray, List.set_cons_zero, List.set_cons_succ])
                              refine wpAnyH_ready (rs := [7]) (by kernel_rfl) (by simp) ?_
                              refine AllReadyH.cons rfl (fun K2 hK2 => ?_) ?_
                              · refine step_append_rd _ (by rfl) _ _ _ (by rfl) base 96 i0 _ 7 64 Tryz.underlying22 HI.out HZ0.out HZ1.out HZ2.out rfl (by omega) (.slice A0 l.length c0) l.length (l.flatMap faC) (by rfl) (own_ext HOW.out HW6.out) (some ⟨W.heap.size, 0, none⟩) 1 1 (faC ⟨who, nm, other, value, from_, to_, learnt⟩) (by rfl) (fun h => by cases h) rfl (fun j u hj => ⟨W.heap.size, 0, rfl, by rw [Nat.zero_add]; exact (Blk.new W 96 (faC ⟨who, nm, other, value, from_, to_, learnt⟩)).cell j hj⟩) (faC_one _) (by unfold maxLen; omega) (by omega) (Nat.le_trans (Nat.le_trans HBW.out HX.out.size) HW6.out.size) ?_
                                intro v1 w1 hown1 hg1
                                obtain ⟨A1, c1, rfl, _⟩ := own_slice hown1
                                have HDN := Lib.hid (add_done (TF := 100) (T := 96) (by decide) (x := ⟨who, nm, other, value, from_, to_, learnt⟩) HBB.out (HFB.out.ext (HW6.out.mono (show b + 1 ≤ _ from HFB.out.lt))) (own_ext HOW.out HW6.out) (ext_trans HX.out HW6.out) HBW.out hown1 hg1)
                                have hrow : some b ≠ (Value.slice A0 l.length c0).ownBlock := fun e => by
                                  obtain ⟨c, fz, h⟩ := Lib.ownsRow_kind HOW.out b e.symm
                                  have h2 := HFB.out
                                  unfold Blk at h2
                                  rw [h2] at h
                                  simp only [Option.some.injEq, Obj.cells.injEq] at h
                                  exact absurd h.2.1 (by decide)
                                have hrowK : some K ≠ (Value.slice A0 l.length c0).ownBlock := fun e => by
                                  have := (HO0.out.lt K e.symm).2
                                  rw [HKE.out] at this
                                  omega
                                have hKb : K ≠ b := by
                                  have := HBL.out
                                  rw [HKE.out]
                                  omega
                                have hb1 := blk_grown (HFB.out.ext (HW6.out.mono (show b + 1 ≤ _ from HFB.out.lt))) hg1 hrow
                                have z1 := hb1.cell 0 rfl
                                have z2 := hb1.free 0
                                refine hK2.out _ _ ?_ (fun hHeld => ?_)
                                · exact ⟨hg1.cell (cell_ext HW6.out k0) hrowK, hg1.cell (cell_ext HW6.out k1) hrowK, hg1.cell (cell_ext HW6.out k2) hrowK, hg1.cell (cell_ext HW6.out k3) hrowK, hg1.cell (cell_ext HW6.out k4) hrowK, hg1.cell (cell_ext HW6.out k5) hrowK, hg1.cell (cell_ext HW6.out k6) hrowK⟩
                                clear hK2 K2
                                (try dsimp only [Act.put, List.setIfInBounds_toArray, List.set_cons_zero, List.set_cons_succ])
                                refine wpAnyH_take (i := 8) (v := ?_) rfl (by kernel_rfl) (by kernel_rfl) (by kernel_rfl) (fun _ _ _ h => h) (Or.inl ⟨by rfl, ?_⟩) (by assumption) ?_
                                rotate_left
                                · intro w hSw; (try dsimp only at hSw); go_simp; try with_reducible rfl
                                (try dsimp only [Act.put, List.setIfInBounds_toArray, List.set_cons_zero, List.set_cons_succ])
                                refine wpAnyH_take (i := 9) (v := ?_) rfl (by kernel_rfl) (by kernel_rfl) (by kernel_rfl) (fun _ _ _ h => h) (Or.inl ⟨by rfl, ?_⟩) (by assumption) ?_
                                rotate_left
                                · intro w hSw; (try dsimp only at hSw); go_simp; try with_reducible rfl
                                (try dsimp only [Act.put, List.setIfInBounds_toArray, List.set_cons_zero, List.set_cons_succ])
                                refine wpAnyH_ready (rs := [10]) (by kernel_rfl) (by simp) ?_
                                refine AllReadyH.cons rfl (fun K2 hK2 => ?_) ?_
                                · go_simp
                                  refine hK2.out _ _ ?_ (fun hHeld => ?_)
                                  · exact ⟨cell_set_other (hg1.cell (cell_ext HW6.out k0) hrowK) hKb _, cell_set_other (hg1.cell (cell_ext HW6.out k1) hrowK) hKb _, cell_set_other (hg1.cell (cell_ext HW6.out k2) hrowK) hKb _, cell_set_other (hg1.cell (cell_ext HW6.out k3) hrowK) hKb _, cell_set_other (hg1.cell (cell_ext HW6.out k4) hrowK) hKb _, cell_set_other (hg1.cell (cell_ext HW6.out k5) hrowK) hKb _, cell_set_other (hg1.cell (cell_ext HW6.out k6) hrowK) hKb _⟩
                                  clear hK2 K2
                                  (try dsimp only [Act.put, List.setIfInBounds_toArray, List.set_cons_zero, List.set_cons_succ])
                                  refine wpAnyH_done (by kernel_rfl) ?_ _
                                  go_wp2_with fail
                                  go_ret
                                  exact .inl ⟨code0 H5.out HW2.out.symm HKI.out HCO.out.symm HDA.out, rfl, HDN.out⟩
                                exact AllReadyH.nil
                              exact AllReadyH.nil
                            exact AllReadyH.nil
                          exact AllReadyH.nil
end Go.Proofs.YtnchlnfenebomaaGreatDoor.Fk

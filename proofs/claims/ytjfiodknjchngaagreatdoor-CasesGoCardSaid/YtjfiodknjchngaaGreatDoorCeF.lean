/- Cases: a step that is done, or not: the walk of Do. -/
import Derived.Test.YtjfiodknjchngaaGreatDoorCeD
import Derived.Deep.AppendLies
namespace Go.Proofs.YtjfiodknjchngaaGreatDoor.Ce
open Go.RowKit Mem Nest Srs Cf Fk Msi CdP CdM Err Solve Sol

def hitB (stage mv : List UInt8) (m : Mv) : Bool := m.name == mv && m.frm == stage
def nxt (s : Sd) (m : Mv) (i u : Nat) (x : St) : Sd := ⟨m.to_, x.day, s.steps ++ [x], s.used.set i (u + 1)⟩
def DoP (d : Kd) (s : Sd) (x : St) (c : Int) (s' : Sd) : Prop :=
  ((¬ Gd x.day ∨ x.day < lastF d s) ∧ c = 4 ∧ s' = s) ∨ (¬ (¬ Gd x.day ∨ x.day < lastF d s) ∧
    (((doneB d s = true ∨ d.ms.any (hitB s.stage x.mv) = false) ∧ c = 11 ∧ s' = s) ∨
     (doneB d s = false ∧ ∃ i m u, d.ms[i]? = some m ∧ s.used[i]? = some u ∧ (d.ms.take i).any (hitB s.stage x.mv) = false ∧ hitB s.stage x.mv m = true ∧
       ((m.who ≠ x.who ∧ c = 9 ∧ s' = s) ∨ (m.who = x.who ∧ ((c ≠ 0 ∧ CanP d s m u x.day c ∧ s' = s) ∨ (c = 0 ∧ CanP d s m u x.day 0 ∧ s' = nxt s m i u x)))))))
/-- which blocks stay: all but the count of moves, cases and steps -/
structure Fr (B : World) (w w' : World) : Prop where
  os : w'.os = w.os
  tape : w'.tape = w.tape
  output : w'.output = w.output
  size : w.heap.size ≤ w'.heap.size
  block : ∀ (k : Nat) (c : Array Value) (T : TypeId) (fz : Nat × Nat), w.heap[k]? = some (.cells c T fz) → k ≠ B.heap.size → T ≠ 108 → T ≠ 60 → w'.heap[k]? = some (.cells c T fz)
theorem Fr.trans {B w w1 w2 : World} (h : Fr B w w1) (k : Fr B w1 w2) : Fr B w w2 :=
  ⟨k.os.trans h.os, k.tape.trans h.tape, k.output.trans h.output, Nat.le_trans h.size k.size, fun b c T fz hb h1 h2 h3 => k.block b c T fz (h.block b c T fz hb h1 h2 h3) h1 h2 h3⟩
theorem Fr.of {B w w' : World} (h : Below w.heap.size w w') : Fr B w w' :=
  ⟨h.os, h.tape, h.output, h.size, fun k c T fz hk _ _ _ => by rw [h.block k (Array.getElem?_eq_some_iff.1 hk).1]; exact hk⟩
theorem set_at (w : World) (K j : Nat) (v : Value) {k : Nat} (h : k ≠ K) : (w.setCell ⟨K, j, none⟩ v).heap[k]? = w.heap[k]? := by
  simp [World.setCell, Array.getElem?_modify, Ne.symm h]
theorem Fr.setU {B w : World} (j : Nat) (v : Value) : Fr B w (w.setCell ⟨B.heap.size, j, none⟩ v) :=
  ⟨rfl, rfl, rfl, by simp, fun k c T fz hk h1 _ _ => by rw [set_at w _ j v h1]; exact hk⟩
theorem Fr.setK {B w : World} {K : Nat} {cs : List Value} (h : Blk w K 108 cs) (j : Nat) (v : Value) : Fr B w (w.setCell ⟨K, j, none⟩ v) :=
  ⟨rfl, rfl, rfl, by simp, fun k c T fz hk _ h2 _ => by
    have hne : k ≠ K := by
      rintro rfl
      unfold Blk at h
      rw [h] at hk
      simp only [Option.some.injEq, Obj.cells.injEq] at hk
      exact h2 hk.2.1.symm
    rw [set_at w _ j v hne]
    exact hk⟩
theorem Fr.grown {B w w' : World} {base size n : Nat} {v : Value} {xs : List Value} (ho : w.ownsRow base 60 size v n xs) (hg : w.grownBy w' v.ownBlock) : Fr B w w' :=
  ⟨hg.os, hg.tape, hg.output, hg.size, fun k c T fz hk _ _ h3 => by
    have hne : some k ≠ v.ownBlock := by
      intro e1
      obtain ⟨c', fz', h'⟩ := Lib.ownsRow_kind ho k e1.symm
      rw [h'] at hk
      simp only [Option.some.injEq, Obj.cells.injEq] at hk
      exact h3 hk.2.1.symm
    rw [hg.block k (Array.getElem?_eq_some_iff.1 hk).1 hne]
    exact hk⟩
def DoPost (A : Nat → Addr) (B : World) (d : Kd) (s : Sd) (x : St) (w : World) (e : Ending) (w' : World) : Prop := ∃ c s', DoP d s x c s' ∧ e = .returned (errC A c) ∧ Cs B d s' w' ∧ Fr B w w'
theorem blk_other {w : World} {b K : Nat} {T : TypeId} {cs : List Value} (h : Blk w b T cs) (hK : b ≠ K) (j : Nat) (v : Value) : Blk (w.setCell ⟨K, j, none⟩ v) b T cs := by
  unfold Blk at h ⊢
  rw [← h]
  simp [World.setCell, Array.getElem?_modify, Ne.symm hK]
theorem blk_far {w w' : World} {b : Nat} {T : TypeId} {cs : List Value} {row : Option Nat} (h : Blk w b T cs) (hg : w.grownBy w' row) (hne : row ≠ some b) : Blk w' b T cs := (hg.block b h.lt (fun e => hne e.symm)).trans h
theorem retb2 {a b : Bool} {w w' : World} (h : a = b) (hb : Below w.heap.size w w') : RetG b w (.returned (.bool a)) w' := ⟨by rw [h], hb⟩
set_option maxRecDepth 100000 in
set_option maxHeartbeats 1000000 in
theorem cdo1 (stage mv : List UInt8) (m : Mv) (K R0 R1 : Nat) (w : World) (h0 : w.cell? ⟨R0, 0, none⟩ = some (.pointer (some ⟨K, 0, none⟩))) (h1 : w.cell? ⟨R1, 0, none⟩ = some (.string ⟨mv.toArray⟩)) (h4 : w.cell? ⟨K, 4, none⟩ = some (.string ⟨stage.toArray⟩)) :
    Calls Tryz.prog 59 #[mvV m, .pointer (some ⟨R1, 0, none⟩), .pointer (some ⟨R0, 0, none⟩)] w (RetG (hitB stage mv m) w) := by
  obtain ⟨xn, xf, xt, xw, x1, x2, x3, x4⟩ := m
  unfold mvV hitB
  simp only
  have hx := ext_alloc w (.cells #[.string ⟨xn.toArray⟩, .string ⟨xf.toArray⟩, .string ⟨xt.toArray⟩, .string ⟨xw.toArray⟩, .int .i64 x1, .int .i64 x2, .int .i64 x3, .int .i64 x4] 106)
  have hb := Blk.new w 106 [.string ⟨xn.toArray⟩, .string ⟨xf.toArray⟩, .string ⟨xt.toArray⟩, .string ⟨xw.toArray⟩, .int .i64 x1, .int .i64 x2, .int .i64 x3, .int .i64 x4]
  obtain ⟨V, hV⟩ : ∃ V, V = w.alloc (.cells #[.string ⟨xn.toArray⟩, .string ⟨xf.toArray⟩, .string ⟨xt.toArray⟩, .string ⟨xw.toArray⟩, .int .i64 x1, .int .i64 x2, .int .i64 x3, .int .i64 x4] 106) := ⟨_, rfl⟩
  obtain ⟨R, hR⟩ : ∃ R, R = w.heap.size := ⟨_, rfl⟩
  rw [← hV] at hx hb
  rw [← hR] at hb
  have HX := Lib.hid hx
  have h0 := cell_ext hx h0
  have h1 := cell_ext hx h1
  have h4 := cell_ext hx h4
  have m0 := hb.cell 0 rfl
  have m1 := hb.cell 1 rfl
  clear hx hb
  go_enter Tryz.func59, Tryz.ntmps59
  go_upto_region 1 with fail
  rw [← hV, ← hR]
  clear hV hR
  cases c1 : (xn == mv)
  · go_quiet (fail)
    go_wp2_with fail
    go_ret
    exact retb2 (by rw [c1]; rfl) (ext_trans HX.out (ext_drewN V _))
  · cases c2 : (xf == stage)
    · go_quiet (fail)
      go_wp2_with fail
      go_ret
      exact retb2 (by rw [c1, c2]; rfl) (ext_trans HX.out (ext_drewN V _))
    · go_quiet (fail)
      go_wp2_with fail
      go_ret
      exact retb2 (by rw [c1, c2]; rfl) (ext_trans HX.out (ext_drewN V _))
set_option maxRecDepth 100000 in
set_option maxHeartbeats 8000000 in
theorem cdo (B : World) (d : Kd) (s : Sd) (x : St) (w : World) (A : Nat → Addr) (h : Cs B d s w) (hE : E6 w A) (hl : s.steps.length ≤ 100000) (hub : ∀ u ∈ s.used, u ≤ 1000000) :
    Calls Tryz.prog 20 #[.pointer (some ⟨B.heap.size + 1, 0, none⟩), .agg #[.string ⟨x.mv.toArray⟩, .string ⟨x.who.toArray⟩, .int .i64 x.day]] w (DoPost A B d s x w) := by
  obtain ⟨K, hK⟩ : ∃ K, K = B.heap.size + 1 := ⟨_, rfl⟩
  rw [← hK]
  obtain ⟨xm, xw, xd⟩ := x
  simp only
  have xa := ext_alloc w (.cells #[.pointer (some ⟨K, 0, none⟩)] 34)
  have ba := (Blk.new w 34 [.pointer (some ⟨K, 0, none⟩)]).cell 0 rfl
  obtain ⟨Va, hVa⟩ : ∃ Va, Va = w.alloc (.cells #[.pointer (some ⟨K, 0, none⟩)] 34) := ⟨_, rfl⟩
  obtain ⟨R0, hR0⟩ : ∃ R0, R0 = w.heap.size := ⟨_, rfl⟩
  have hsz : Va.heap.size = R0 + 1 := by rw [hVa, hR0]; simp
  rw [← hVa] at xa ba
  rw [← hR0] at ba
  have xb := ext_alloc Va (.cells #[.string ⟨xm.toArray⟩, .string ⟨xw.toArray⟩, .int .i64 xd] 60)
  have bb := Blk.new Va 60 [.string ⟨xm.toArray⟩, .string ⟨xw.toArray⟩, .int .i64 xd]
  obtain ⟨V, hV⟩ : ∃ V, V = Va.alloc (.cells #[.string ⟨xm.toArray⟩, .string ⟨xw.toArray⟩, .int .i64 xd] 60) := ⟨_, rfl⟩
  rw [← hV] at xb bb
  rw [hsz] at bb
  obtain ⟨SA, sc, hk0, ho0⟩ := h.case_
  rw [← hK] at hk0
  have HGl := Lib.hid (show ∀ g, (Value.slice SA s.steps.length sc).ownBlock = some g → B.heap.size + 2 ≤ g ∧ g < R0 from fun g hg => by rw [hR0]; exact ho0.lt g hg)
  have HKR := Lib.hid (show K < R0 from by rw [hR0]; exact hk0.lt)
  have HK0 := Lib.hid (blk_ext2 (blk_ext2 hk0 xa) xb)
  have HO0 := Lib.hid (own_ext (own_ext ho0 xa) xb)
  have HCs := Lib.hid ((h.ext xa).ext xb)
  have HX0 := Lib.hid (ext_trans xa xb)
  have HE := Lib.hid ((hE.below xa).below xb)
  have HR1 := Lib.hid bb
  have p0 := cell_ext xb ba
  have s0 := bb.cell 0 rfl
  have s1 := bb.cell 1 rfl
  have s2 := bb.cell 2 rfl
  have HP := Lib.hid (show ∀ c s', DoP d s ⟨xm, xw, xd⟩ c s' → DoP d s ⟨xm, xw, xd⟩ c s' from fun _ _ h => h)
  have HL := Lib.hid hl
  have HU := Lib.hid hub
  have e3 := HE.out.v3
  have e8 := HE.out.v8
  have e10 := HE.out.v10
  unfold sentV at e3 e8 e10
  have HKB := Lib.hid hK
  have HLa := Lib.hid (show ∀ n, Calls Tryz.prog 53 #[.pointer (some ⟨K, 0, none⟩)] (V.drewN n) (RetI (lastF d s) (V.drewN n)) from fun n => by rw [HKB.out]; exact clast B d s _ (HCs.out.ext (ext_drewN V n)))
  obtain ⟨la, hla⟩ : ∃ la, la = lastF d s := ⟨_, rfl⟩
  rw [← hla] at HLa
  have HLe := Lib.hid hla
  obtain ⟨i0, hi, hz0, hz1, hz2⟩ := info_parts st_infoT
  have HI := Lib.hid hi
  have HZ0 := Lib.hid hz0
  have HZ1 := Lib.hid hz1
  have HZ2 := Lib.hid hz2
  clear h hE xa ba xb bb hl hub hla hK hk0 ho0 hi hz0 hz1 hz2
  obtain ⟨q, hq⟩ : ∃ q : Bool, q = decide (¬ Gd xd ∨ xd < la) := ⟨_, rfl⟩
  have HQ := Lib.hid hq
  clear hq
  go_enter Tryz.func20, Tryz.ntmps20
  go_upto_region 1 with fail
  rw [← hVa, ← hR0, ← hV]
  clear hVa hR0 hsz hV
  go_cut [17] (fun t w9 => t = .bool q ∧ Hid (∃ n, w9 = V.drewN n))
  case first =>
    by_cases g1 : Gd xd
    · have HG1 := Lib.hid g1
      by_cases g2 : xd < la
      · have hq := HQ.out
        rw [show decide (¬ Gd xd ∨ xd < la) = true by simp [g2]] at hq
        subst hq
        clear g1
        go_quiet ((first | (go_at_call 34; exact Calls.quiet_of_same (Dut.day_yes _ HG1.out _)) | (go_at_call 53; exact Calls.quiet_of_same ((HLa.out _).mono fun e w' h => ⟨h.1, h.2.symm⟩))))
        go_wp2_with fail
        go_meet
        exact ⟨rfl, _, rfl⟩
      · have hq := HQ.out
        rw [show decide (¬ Gd xd ∨ xd < la) = false by simp [g2, g1]] at hq
        subst hq
        clear g1
        go_quiet ((first | (go_at_call 34; exact Calls.quiet_of_same (Dut.day_yes _ HG1.out _)) | (go_at_call 53; exact Calls.quiet_of_same ((HLa.out _).mono fun e w' h => ⟨h.1, h.2.symm⟩))))
        go_wp2_with fail
        go_meet
        exact ⟨rfl, _, rfl⟩
    · have HG1 := Lib.hid g1
      have hq := HQ.out
      rw [show decide (¬ Gd xd ∨ xd < la) = true by simp [g1]] at hq
      subst hq
      clear g1
      go_quiet ((go_at_call 34; exact Calls.quiet_of_same (Dut.day_no _ HG1.out _)))
      go_wp2_with fail
      go_meet
      exact ⟨rfl, _, rfl⟩
  case rest =>
    obtain ⟨rfl, HW⟩ := hcut
    have hbw : Below V.heap.size V wc := by obtain ⟨n, e⟩ := HW.out; rw [e]; exact ext_drewN V n
    have e3 := cell_ext hbw e3
    have e8 := cell_ext hbw e8
    have e10 := cell_ext hbw e10
    have p0 := cell_ext hbw p0
    have s0 := cell_ext hbw s0
    have s1 := cell_ext hbw s1
    have s2 := cell_ext hbw s2
    have HCw := Lib.hid (HCs.out.ext hbw)
    have HEw := Lib.hid (HE.out.below hbw)
    have HRw := Lib.hid (blk_ext2 HR1.out hbw)
    have HBw := Lib.hid hbw
    clear hbw HW HLa
    cases q with
    | true =>
      go_wp2_with fail
      go_ret
      exact ⟨4, s, HP.out _ _ (.inl ⟨by rw [← HLe.out]; exact of_decide_eq_true HQ.out.symm, rfl, rfl⟩), rfl, HCw.out, Fr.of (ext_trans HX0.out HBw.out)⟩
    | false =>
      have HQf := Lib.hid (show ¬ (¬ Gd xd ∨ xd < lastF d s) by rw [← HLe.out]; exact of_decide_eq_false HQ.out.symm)
      have HKk := Lib.hid (blk_ext2 HK0.out HBw.out)
      have HOw := Lib.hid (own_ext HO0.out HBw.out)
      have k2 := HKk.out.cell 2 rfl
      have k4 := HKk.out.cell 4 rfl
      have hfx := HCw.out.fx.ext HCw.out.below
      have HFx := Lib.hid hfx
      have HFi := Lib.hid (idxm_find 59 (fun _ _ => by kernel_rfl) #[.pointer (some ⟨R0 + 1, 0, none⟩), .pointer (some ⟨R0, 0, none⟩)] d.ms (by have := hfx.ml; omega) d.MA d.mc (hitB s.stage xm) wc hfx.m.rd (fun m _ w2 hb => cdo1 s.stage xm m K R0 (R0 + 1) w2 (cell_ext hb p0) (cell_ext hb s0) (cell_ext hb k4)))
      clear hfx e3
      go_wp2_with fail
      refine HFi.out.mono ?_
      rintro e w2 (⟨i, hi, rfl, hb2, hpre, m, hm, hB⟩ | ⟨rfl, hb2, hno⟩)
      · have HB2 := Lib.hid hb2
        have HHit := Lib.hid (show d.ms[i]? = some m ∧ (d.ms.take i).any (hitB s.stage xm) = false ∧ hitB s.stage xm m = true from ⟨hm, hpre, hB⟩)
        have e8 := cell_ext hb2 e8
        have e10 := cell_ext hb2 e10
        have p0 := cell_ext hb2 p0
        have s1 := cell_ext hb2 s1
        have s2 := cell_ext hb2 s2
        have k2 := cell_ext hb2 k2
        have HC2 := Lib.hid (HCw.out.ext hb2)
        have HE2 := Lib.hid (HEw.out.below hb2)
        have HDo := Lib.hid (show Calls Tryz.prog 23 #[.pointer (some ⟨K, 0, none⟩)] w2 (RetG (doneB d s) w2) from by rw [HKB.out]; exact cdone B d s _ (HCw.out.ext hb2))
        obtain ⟨db, hdb⟩ : ∃ db, db = doneB d s := ⟨_, rfl⟩
        rw [← hdb] at HDo
        have HDb := Lib.hid hdb
        have hi0 : ¬ ((i : Int) < 0) := by omega
        clear hdb hb2 hpre hm hB HFi s0 k4
        go_wp2_with fail
        refine HDo.out.mono ?_
        rintro e w3 ⟨rfl, hb3⟩
        have HB3 := Lib.hid hb3
        have e8 := cell_ext hb3 e8
        have e10 := cell_ext hb3 e10
        have p0 := cell_ext hb3 p0
        have s1 := cell_ext hb3 s1
        have s2 := cell_ext hb3 s2
        have k2 := cell_ext hb3 k2
        have HC3 := Lib.hid (HC2.out.ext hb3)
        have HE3 := Lib.hid (HE2.out.below hb3)
        clear hb3 HDo
        cases db with
        | true =>
          go_wp2_with fail
          go_ret
          exact ⟨11, s, HP.out _ _ (.inr ⟨HQf.out, .inl ⟨.inl HDb.out.symm, rfl, rfl⟩⟩), rfl, HC3.out, Fr.of (ext_trans HX0.out (ext_trans HBw.out (ext_trans HB2.out HB3.out)))⟩
        | false =>
          obtain ⟨u, hu⟩ : ∃ u, s.used[i]? = some u := ⟨_, List.getElem?_eq_getElem (by rw [HC3.out.ulen]; exact hi)⟩
          have HUi := Lib.hid hu
          have HUb := Lib.hid (HU.out u (List.mem_of_getElem? hu))
          have hfx3 := HC3.out.fx.ext HC3.out.below
          obtain ⟨b, o, hMA, hx⟩ := mv_at hfx3.m.rd hi
          rw [(List.getElem?_eq_some_iff.1 HHit.out.1).2] at hx
          have m3 := hx.c3
          rw [hMA] at k2
          have HMA := Lib.hid hMA
          have HK3 := Lib.hid (blk_ext2 (blk_ext2 HKk.out HB2.out) HB3.out)
          have HO3 := Lib.hid (own_ext (own_ext HOw.out HB2.out) HB3.out)
          have HR3 := Lib.hid (blk_ext2 (blk_ext2 HRw.out HB2.out) HB3.out)
          have hil : (i : Int) < (d.ms.length : Int) := by omega
          clear hu hfx3 hMA hx
          by_cases g : m.who = xw
          · rw [g] at m3
            have HG := Lib.hid g
            have HCan := Lib.hid (show ∀ n, Calls Tryz.prog 54 #[.pointer (some ⟨K, 0, none⟩), .int .i64 (i : Int), .int .i64 xd] (w3.drewN n) (CPost A (CanP d s m u xd) (w3.drewN n)) from fun n => by rw [HKB.out]; exact ccan B d s _ A (HC3.out.ext (ext_drewN _ n)) (HE3.out.below (ext_drewN _ n)) i m u HHit.out.1 HUi.out xd)
            clear g e8 e10
            go_wp2_with fail
            go_quiet (fail)
            go_wp2_with fail
            refine (HCan.out _).mono ?_
            rintro e w5 ⟨c, hc, rfl, hb5⟩
            have hb5 := ext_trans (ext_drewN w3 nq) hb5
            have HC5 := Lib.hid (HC3.out.ext hb5)
            have HF5 := Lib.hid (show Fr B w w5 from Fr.of (ext_trans HX0.out (ext_trans HBw.out (ext_trans HB2.out (ext_trans HB3.out hb5)))))
            have HCc := Lib.hid hc
            by_cases hz : c = 0
            · subst hz
              simp only [errC_zero]
              have HK5 := Lib.hid (blk_ext2 HK3.out hb5)
              have HO5 := Lib.hid (own_ext HO3.out hb5)
              have HR5 := Lib.hid (blk_ext2 HR3.out hb5)
              have p0 := cell_ext hb5 p0
              clear hb5 hc HCan s1 s2 k2 m3
              have hU5 := HC5.out.used
              have HU6 := Lib.hid (show Blk (w5.setCell ⟨B.heap.size, i, none⟩ (.int .i64 ((u : Int) + 1))) B.heap.size 3 (nats (s.used.set i (u + 1))) from by
                have h := hU5.set i (.int .i64 ((u : Int) + 1))
                rw [show (nats s.used).set i (.int .i64 ((u : Int) + 1)) = nats (s.used.set i (u + 1)) by unfold nats; rw [List.map_set]; rfl] at h
                exact h)
              have k8 := HK5.out.cell 8 rfl
              have u0 := hU5.cell i (u := .int .i64 u) (by simp [nats, HUi.out])
              have u1 := hU5.free i
              have hu0 : (0 : Int) ≤ (u : Int) := by omega
              have hu2 : (u : Int) ≤ 1000000 := by have := HUb.out; omega
              have hKU : K ≠ B.heap.size := by have := HKB.out; omega
              have hRU : R0 ≠ B.heap.size := by have := HKB.out; have := HKR.out; omega
              have hRU1 : R0 + 1 ≠ B.heap.size := by have := HKB.out; have := HKR.out; omega
              have HK6 := Lib.hid (blk_other HK5.out hKU i (.int .i64 ((u : Int) + 1)))
              have HR6 := Lib.hid (blk_other HR5.out hRU1 i (.int .i64 ((u : Int) + 1)))
              have HO6 := Lib.hid (ownsRow_setCell_below HO5.out (a := ⟨B.heap.size, i, none⟩) (show B.heap.size < B.heap.size + 2 by omega) (.int .i64 ((u : Int) + 1)))
              have HP6 := Lib.hid ((cell_other hRU i (.int .i64 ((u : Int) + 1))).trans p0)
              have HB6 := Lib.hid (Below.setCell (p := ⟨B.heap.size, i, none⟩) HC5.out.below (Nat.le_refl _) (.int .i64 ((u : Int) + 1)))
              have HFr6 := Lib.hid (show Fr B w (w5.setCell ⟨B.heap.size, i, none⟩ (.int .i64 ((u : Int) + 1))) from HF5.out.trans (Fr.setU i _))
              clear hU5 hKU hRU hRU1
              go_upto_region 12 with fail
              obtain ⟨w6, hw6⟩ : ∃ w6, w6 = w5.setCell ⟨B.heap.size, i, none⟩ (.int .i64 ((u : Int) + 1)) := ⟨_, rfl⟩
              rw [← hw6] at HU6 HK6 HR6 HO6 HP6 HB6 HFr6 ⊢
              clear hw6 u0 u1 k8 hu0 hu2 p0 HK5 HO5 HR5
              have hd : Below w6.heap.size w6 w6.drew := ext_drewN w6 1
              have HHd := Lib.hid hd
              have d0 := cell_ext hd HP6.out
              have d7 := cell_ext hd (HK6.out.cell 7 rfl)
              have f0 := cell_ext hd (HR6.out.cell 0 rfl)
              have f1 := cell_ext hd (HR6.out.cell 1 rfl)
              have f2 := cell_ext hd (HR6.out.cell 2 rfl)
              have HOd := Lib.hid (own_ext HO6.out hd)
              have y0 := fun ob => cell_ext (ext_alloc w6 ob) HP6.out
              have y7 := fun ob => cell_ext (ext_alloc w6 ob) (HK6.out.cell 7 rfl)
              have hs6 : B.heap.size + 2 ≤ w6.heap.size := by have := HK6.out.lt; have := HKB.out; omega
              have hl6 := HL.out
              have HKe := Lib.hid (show ∀ g, (Value.slice SA s.steps.length sc).ownBlock = some g → g ≠ K ∧ g ≠ R0 ∧ g ≠ R0 + 1 ∧ g ≠ B.heap.size from fun g hg => by have := HGl.out g hg; have := HKB.out; omega)
              have HKn := Lib.hid (show K < B.heap.size + 2 ∧ B.heap.size ≠ K ∧ R0 + 1 ≠ K ∧ R0 ≠ K ∧ B.heap.size ≤ K from by have := HKB.out; have := HKR.out; omega)
              clear hd
              go_cut [] (fun w9 => ∃ (S2 : Option Addr) (c2 : Nat), Hid (Blk w9 K 108 [.string ⟨d.st.toArray⟩, .slice d.FA d.fin.length d.fc, .slice d.MA d.ms.length d.mc, .pointer (some ⟨d.cb, 0, none⟩), .string ⟨s.stage.toArray⟩, .int .i64 s.since, .int .i64 d.first, .slice S2 (s.steps.length + 1) c2, .slice (some ⟨B.heap.size, 0, none⟩) d.ms.length d.ms.length] ∧
                w9.ownsRow (B.heap.size + 2) 60 3 (.slice S2 (s.steps.length + 1) c2) (s.steps.length + 1) (s.steps.flatMap stCells ++ [.string ⟨xm.toArray⟩, .string ⟨xw.toArray⟩, .int .i64 xd]) ∧ Blk w9 B.heap.size 3 (nats (s.used.set i (u + 1))) ∧ Blk w9 (R0 + 1) 60 [.string ⟨xm.toArray⟩, .string ⟨xw.toArray⟩, .int .i64 xd] ∧ w9.cell? ⟨R0, 0, none⟩ = some (.pointer (some ⟨K, 0, none⟩)) ∧ Below B.heap.size B w9 ∧ Fr B w w9))
              case first =>
                go_region_law (first
                  | (refine step_append_lies _ rfl (.tmp 67) (.tmp 69) 62 rfl (B.heap.size + 2) 60 i0 _ 3 40 Tryz.underlying62 HI.out HZ0.out HZ1.out HZ2.out rfl (by omega) (.slice SA s.steps.length sc) s.steps.length _ rfl (own_ext (World.ownsRow.alloc HO6.out _) (ext_drewN _ 1)) ⟨w6.heap.size, 0, none⟩ 1 1 [.string ⟨xm.toArray⟩, .string ⟨xw.toArray⟩, .int .i64 xd] rfl rfl (fun j v hj => cell_ext (ext_drewN _ 1) (new_cells w6 [.string ⟨xm.toArray⟩, .string ⟨xw.toArray⟩, .int .i64 xd] _ _ rfl j v hj)) (by intro v hv; simp only [List.mem_cons, List.not_mem_nil, or_false] at hv; rcases hv with rfl | rfl | rfl <;> rfl) (by omega) (by simp only [maxLen]; omega) (by omega) (by simp; omega) _ rfl ?_; intro g5 c5 w7 hown1 hg1 _ _; have HO7 := Lib.hid hown1; have HG7 := Lib.hid hg1; have HK7 := Lib.hid (blk_far (blk_ext2 (blk_ext2 HK6.out (ext_alloc _ _)) (ext_drewN _ 1)) hg1 (fun h => (HKe.out _ h).1 rfl)); have y1 := HK7.out.cell 7 rfl; have y2 := HK7.out.free 7; have y3 := hg1.cell (cell_ext (ext_drewN _ 1) (cell_ext (ext_alloc _ _) HP6.out)) (fun e => (HKe.out _ e.symm).2.1 rfl); clear hown1 hg1))
                all_goals (
                  go_wp2_with fail
                  go_meet
                  refine ⟨some ⟨g5, 0, none⟩, c5, Lib.hid ⟨HK7.out.set 7 _, ownsRow_setCell_below HO7.out (a := ⟨K, 7, none⟩) HKn.out.1 _, blk_other (blk_far (blk_ext2 (blk_ext2 HU6.out (ext_alloc _ _)) (ext_drewN _ 1)) HG7.out (fun h => (HKe.out _ h).2.2.2 rfl)) HKn.out.2.1 7 _, blk_other (blk_far (blk_ext2 (blk_ext2 HR6.out (ext_alloc _ _)) (ext_drewN _ 1)) HG7.out (fun h => (HKe.out _ h).2.2.1 rfl)) HKn.out.2.2.1 7 _, (cell_other HKn.out.2.2.2.1 7 _).trans y3, ?_, ((HFr6.out.trans (Fr.of (ext_trans (ext_alloc _ _) (ext_drewN _ 1)))).trans (Fr.grown (own_ext (World.ownsRow.alloc HO6.out _) (ext_drewN _ 1)) HG7.out)).trans (Fr.setK HK7.out 7 _)⟩⟩
                  exact Below.setCell (p := ⟨K, 7, none⟩) (Below.grown (ext_trans HB6.out (ext_trans (ext_alloc _ _) (ext_drewN _ 1))) HG7.out (by simp; omega) (fun g hg => by have := (HGl.out g hg).1; omega)) HKn.out.2.2.2.2 _)
              case rest =>
                clear d0 d7 f0 f1 f2 y0 y7
                obtain ⟨S2, c2, HM⟩ := hcut
                obtain ⟨w9, rfl⟩ : ∃ w9, w9 = wc := ⟨_, rfl⟩
                obtain ⟨b2, o2, e2, hx⟩ := mv_at HC5.out.fx.m.rd hi
                rw [HMA.out] at e2
                cases e2
                rw [(List.getElem?_eq_some_iff.1 HHit.out.1).2] at hx
                have hbB := cell_lt hx.c2
                have HbK := Lib.hid (show b ≠ K from by have := HKB.out; simp only at hbB; omega)
                have hdr : Below w9.heap.size w9 w9.drew := ext_drewN w9 1
                have p0 := cell_ext hdr HM.out.2.2.2.2.1
                have HKd := Lib.hid (blk_ext2 HM.out.1 hdr)
                have k2 := HKd.out.cell 2 rfl
                rw [HMA.out] at k2
                have t2 := cell_ext hdr (cell_ext HM.out.2.2.2.2.2.1 hx.c2)
                have r2 := cell_ext hdr (HM.out.2.2.2.1.cell 2 rfl)
                have HKs := Lib.hid (show Blk (w9.setCell ⟨K, 4, none⟩ (.string ⟨m.to_.toArray⟩)) K 108 _ from HM.out.1.set 4 _)
                have fr4 := HM.out.1.free 4
                have ce4 := HM.out.1.cell 4 rfl
                have fr5 := HKs.out.free 5
                have ce5 := HKs.out.cell 5 rfl
                have pz : (w9.setCell ⟨K, 4, none⟩ (.string ⟨m.to_.toArray⟩)).drew.cell? ⟨R0, 0, none⟩ = _ := (cell_other HKn.out.2.2.2.1 4 _).trans HM.out.2.2.2.2.1
                have kz : (w9.setCell ⟨K, 4, none⟩ (.string ⟨m.to_.toArray⟩)).drew.cell? ⟨K, 2, none⟩ = _ := HKs.out.cell 2 rfl
                rw [HMA.out] at kz
                have tz : (w9.setCell ⟨K, 4, none⟩ (.string ⟨m.to_.toArray⟩)).drew.cell? ⟨b, o + i * 8 + 2, none⟩ = _ := (cell_other HbK.out 4 _).trans (cell_ext HM.out.2.2.2.2.2.1 hx.c2)
                have rz : (w9.setCell ⟨K, 4, none⟩ (.string ⟨m.to_.toArray⟩)).drew.cell? ⟨R0 + 1, 2, none⟩ = _ := (cell_other HKn.out.2.2.1 4 _).trans (HM.out.2.2.2.1.cell 2 rfl)
                have pq : ((w9.setCell ⟨K, 4, none⟩ (.string ⟨m.to_.toArray⟩)).setCell ⟨K, 5, none⟩ (.int .i64 xd)).drew.cell? ⟨R0, 0, none⟩ = _ := (cell_other HKn.out.2.2.2.1 5 _).trans pz
                have kq : ((w9.setCell ⟨K, 4, none⟩ (.string ⟨m.to_.toArray⟩)).setCell ⟨K, 5, none⟩ (.int .i64 xd)).drew.cell? ⟨K, 2, none⟩ = _ := (HKs.out.set 5 _).cell 2 rfl
                rw [HMA.out] at kq
                have tq : ((w9.setCell ⟨K, 4, none⟩ (.string ⟨m.to_.toArray⟩)).setCell ⟨K, 5, none⟩ (.int .i64 xd)).drew.cell? ⟨b, o + i * 8 + 2, none⟩ = _ := (cell_other HbK.out 5 _).trans tz
                have rq : ((w9.setCell ⟨K, 4, none⟩ (.string ⟨m.to_.toArray⟩)).setCell ⟨K, 5, none⟩ (.int .i64 xd)).drew.cell? ⟨R0 + 1, 2, none⟩ = _ := (cell_other HKn.out.2.2.1 5 _).trans rz
                have HKf := Lib.hid (show Blk ((w9.setCell ⟨K, 4, none⟩ (.string ⟨m.to_.toArray⟩)).setCell ⟨K, 5, none⟩ (.int .i64 xd)) K 108 _ from HKs.out.set 5 _)
                clear hx hbB hdr
                go_wp2_with fail
                go_region_held3 (fun w' => w'.cell? ⟨R0, 0, none⟩ = some (.pointer (some ⟨K, 0, none⟩)) ∧ w'.cell? ⟨K, 2, none⟩ = some (.slice (some ⟨b, o, none⟩) d.ms.length d.mc) ∧ w'.cell? ⟨b, o + i * 8 + 2, none⟩ = some (.string ⟨m.to_.toArray⟩) ∧ w'.cell? ⟨R0 + 1, 2, none⟩ = some (.int .i64 xd))
                  ((first | exact ⟨p0, k2, t2, r2⟩ | exact ⟨pz, kz, tz, rz⟩ | exact ⟨pq, kq, tq, rq⟩)) (fail)
                go_wp2_with fail
                go_ret
                have e : (nxt s m i u ⟨xm, xw, xd⟩).steps.length = s.steps.length + 1 := by simp [nxt]
                refine ⟨0, nxt s m i u ⟨xm, xw, xd⟩, HP.out _ _ (.inr ⟨HQf.out, .inr ⟨HDb.out.symm, i, m, u, HHit.out.1, HUi.out, HHit.out.2.1, HHit.out.2.2, .inr ⟨HG.out, .inr ⟨rfl, HCc.out, rfl⟩⟩⟩⟩), rfl, ⟨?_, HC5.out.fx, ?_, ?_, S2, c2, ?_, ?_⟩, ((HM.out.2.2.2.2.2.2.trans (Fr.setK HM.out.1 4 _)).trans (Fr.setK HKs.out 5 _)).trans (Fr.of (ext_drewN _ 1))⟩
                · exact below_drewN (Below.setCell (p := ⟨K, 5, none⟩) (Below.setCell (p := ⟨K, 4, none⟩) HM.out.2.2.2.2.2.1 HKn.out.2.2.2.2 _) HKn.out.2.2.2.2 _) 1
                · exact blk_ext2 (blk_other (blk_other HM.out.2.2.1 HKn.out.2.1 4 _) HKn.out.2.1 5 _) (ext_drewN _ 1)
                · show (s.used.set i (u + 1)).length = _
                  rw [List.length_set]
                  exact HC5.out.ulen
                · rw [e, ← HKB.out]
                  exact blk_ext2 HKf.out (ext_drewN _ 1)
                · rw [e]
                  have h := own_ext (ownsRow_setCell_below (ownsRow_setCell_below HM.out.2.1 (a := ⟨K, 4, none⟩) HKn.out.1 (.string ⟨m.to_.toArray⟩)) (a := ⟨K, 5, none⟩) HKn.out.1 (.int .i64 xd)) (ext_drewN _ 1)
                  have e2 : (nxt s m i u ⟨xm, xw, xd⟩).steps.flatMap stCells = s.steps.flatMap stCells ++ [.string ⟨xm.toArray⟩, .string ⟨xw.toArray⟩, .int .i64 xd] := by simp [nxt, stCells]
                  rw [e2]
                  exact h
            · have HEc := Lib.hid (show errC A c = errV (A (c - 1).toNat) from if_neg hz)
              have HZ := Lib.hid hz
              obtain ⟨ad, had⟩ : ∃ ad, ad = A (c - 1).toNat := ⟨_, rfl⟩
              rw [← had] at HEc
              rw [HEc.out]
              unfold errV at *
              clear had hz hb5 hc HCan
              go_wp2_with fail
              go_ret
              exact ⟨c, s, HP.out _ _ (.inr ⟨HQf.out, .inr ⟨HDb.out.symm, i, m, u, HHit.out.1, HUi.out, HHit.out.2.1, HHit.out.2.2, .inr ⟨HG.out, .inl ⟨HZ.out, HCc.out, rfl⟩⟩⟩⟩), by rw [HEc.out]; rfl, HC5.out, HF5.out⟩
          · have g1 : (m.who == xw) = false := by simp [g]
            have g2 : (m.who != xw) = true := by simp [g]
            have HG := Lib.hid g
            clear g
            go_wp2_with fail
            go_quiet (fail)
            go_wp2_with fail
            go_ret
            exact ⟨9, s, HP.out _ _ (.inr ⟨HQf.out, .inr ⟨HDb.out.symm, i, m, u, HHit.out.1, HUi.out, HHit.out.2.1, HHit.out.2.2, .inl ⟨HG.out, rfl, rfl⟩⟩⟩), rfl, HC3.out.ext (ext_drewN _ _), Fr.of (ext_trans HX0.out (ext_trans HBw.out (ext_trans HB2.out (ext_trans HB3.out (ext_drewN w3 _)))))⟩
      · have HB2 := Lib.hid hb2
        have HNo := Lib.hid hno
        have e10 := cell_ext hb2 e10
        have p0 := cell_ext hb2 p0
        have HC2 := Lib.hid (HCw.out.ext hb2)
        have HDo := Lib.hid (show Calls Tryz.prog 23 #[.pointer (some ⟨K, 0, none⟩)] w2 (RetG (doneB d s) w2) from by rw [HKB.out]; exact cdone B d s _ (HCw.out.ext hb2))
        obtain ⟨db, hdb⟩ : ∃ db, db = doneB d s := ⟨_, rfl⟩
        rw [← hdb] at HDo
        clear hdb hb2 hno HFi s0 s1 s2 k2 k4 e8
        go_wp2_with fail
        refine HDo.out.mono ?_
        rintro e w3 ⟨rfl, hb3⟩
        have e10 := cell_ext hb3 e10
        have HC3 := Lib.hid (HC2.out.ext hb3)
        have HB3 := Lib.hid hb3
        clear hb3 HDo
        cases db with
        | true =>
          go_wp2_with fail
          go_ret
          exact ⟨11, s, HP.out _ _ (.inr ⟨HQf.out, .inl ⟨.inr HNo.out, rfl, rfl⟩⟩), rfl, HC3.out, Fr.of (ext_trans HX0.out (ext_trans HBw.out (ext_trans HB2.out HB3.out)))⟩
        | false =>
          go_wp2_with fail
          go_ret
          exact ⟨11, s, HP.out _ _ (.inr ⟨HQf.out, .inl ⟨.inr HNo.out, rfl, rfl⟩⟩), rfl, HC3.out, Fr.of (ext_trans HX0.out (ext_trans HBw.out (ext_trans HB2.out HB3.out)))⟩
end Go.Proofs.YtjfiodknjchngaaGreatDoor.Ce

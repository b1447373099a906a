/- Cases: a case that is opened: its memory, and Open. -/
import Derived.Test.YtjfiodknjchngaaGreatDoorCeW
import Derived.Test.YtjfiodknjchngaaGreatDoorNewSol
import Derived.Deep.RegionLaw
namespace Go.Proofs.YtjfiodknjchngaaGreatDoor.Ce
open Go.RowKit Mem Nest Srs Cf Fk Msi CdP CdM Err Solve Sol

/-- what a case holds and does not change -/
structure Kd where
  st : List UInt8
  fin : List (List UInt8)
  ms : List Mv
  FA : Option Addr
  fc : Nat
  MA : Option Addr
  mc : Nat
  cb : Nat
  cd : Cd
  H : Option Addr
  hc : Nat
  first : Int
structure Fx (w : World) (d : Kd) : Prop where
  f : RdK w 9 d.FA (Srs.strs d.fin)
  m : RdK w 106 d.MA (d.ms.flatMap mvCells)
  c : CdA w d.cb 0 d.cd d.H d.hc
  ok : CdOk d.cd
  fl : d.fin.length ≤ 1000
  ml : d.ms.length ≤ 1000
theorem Fx.ext {w w' : World} {d : Kd} (h : Fx w d) (hb : Below w.heap.size w w') : Fx w' d := ⟨h.f.ext hb, h.m.ext hb, h.c.ext hb, h.ok, h.fl, h.ml⟩
/-- what it changes -/
structure Sd where
  stage : List UInt8
  since : Int
  steps : List St
  used : List Nat
def nats (l : List Nat) : List Value := l.map fun n : Nat => Value.int .i64 n
/-- a case stands at block B.heap.size + 1; B is the world ahead of its making -/
structure Cs (B : World) (d : Kd) (s : Sd) (w : World) : Prop where
  below : Below B.heap.size B w
  fx : Fx B d
  used : Blk w B.heap.size 3 (nats s.used)
  ulen : s.used.length = d.ms.length
  case_ : ∃ SA sc, Blk w (B.heap.size + 1) 108 [.string ⟨d.st.toArray⟩, .slice d.FA d.fin.length d.fc, .slice d.MA d.ms.length d.mc, .pointer (some ⟨d.cb, 0, none⟩), .string ⟨s.stage.toArray⟩, .int .i64 s.since, .int .i64 d.first, .slice SA s.steps.length sc, .slice (some ⟨B.heap.size, 0, none⟩) d.ms.length d.ms.length] ∧
    w.ownsRow (B.heap.size + 2) 60 3 (.slice SA s.steps.length sc) s.steps.length (s.steps.flatMap stCells)
theorem blk_ext2 {B : Nat} {T : TypeId} {cs : List Value} {w w' : World} (h : Blk w B T cs) (hb : Below w.heap.size w w') : Blk w' B T cs := h.ext (hb.mono (show B + 1 ≤ _ from h.lt))
theorem Cs.ext {B : World} {d : Kd} {s : Sd} {w w' : World} (h : Cs B d s w) (hb : Below w.heap.size w w') : Cs B d s w' := by
  obtain ⟨h1, h2, h3, h4, SA, sc, h5, h6⟩ := h
  exact ⟨ext_trans h1 hb, h2, blk_ext2 h3 hb, h4, SA, sc, blk_ext2 h5 hb, own_ext h6 hb⟩
theorem rdk_set {w : World} {e T : TypeId} {A : Option Addr} {cs cs' : List Value} {K : Nat} (h : RdK w e A cs) (hb : Blk w K T cs') (hne : e ≠ T) (j : Nat) (v : Value) : RdK (w.setCell ⟨K, j, none⟩ v) e A cs := fun i u hi => by
  obtain ⟨b, o, e1, hc, c, fz, hk⟩ := h i u hi
  have hbk : b ≠ K := by
    rintro rfl
    unfold Blk at hb
    rw [hk] at hb
    simp only [Option.some.injEq, Obj.cells.injEq] at hb
    exact hne hb.2.1
  have hk' : (w.setCell ⟨K, j, none⟩ v).heap[b]? = some (.cells c e fz) := by
    rw [← hk]
    simp [World.setCell, Array.getElem?_modify, Ne.symm hbk]
  refine ⟨b, o, e1, ?_, c, fz, hk'⟩
  rw [World.cell?_of_block (w := w) (by rw [hk, hk'])]
  exact hc
theorem cell_other {w : World} {b o K : Nat} (h : b ≠ K) (j : Nat) (v : Value) : (w.setCell ⟨K, j, none⟩ v).cell? ⟨b, o, none⟩ = w.cell? ⟨b, o, none⟩ :=
  World.cell?_of_block (w := w) (by simp [World.setCell, Array.getElem?_modify, Ne.symm h])
theorem cda_set {w : World} {b : Nat} {c : Cd} {A : Option Addr} {hc : Nat} {K : Nat} (h : CdA w b 0 c A hc) (hK : b ≠ K) (j : Nat) (v : Value) (hr : Rd (w.setCell ⟨K, j, none⟩ v) A (ints c.hol)) : CdA (w.setCell ⟨K, j, none⟩ v) b 0 c A hc :=
  ⟨fun i hi => by rw [cell_other hK]; exact h.off i hi, by rw [cell_other hK]; exact h.hol, hr⟩
theorem cd0_ok : CdOk cd0 := ⟨by decide, fun x hx => by cases hx⟩
theorem cd0_at {w : World} {b : Nat} (h : Blk w b 99 [.bool false, .bool false, .bool false, .bool false, .bool false, .bool false, .bool false, .slice none 0 0]) : CdA w b 0 cd0 none 0 :=
  ⟨fun j hj => by
    match j, hj with
      | 0, _ => exact h.cell 0 rfl
      | 1, _ => exact h.cell 1 rfl
      | 2, _ => exact h.cell 2 rfl
      | 3, _ => exact h.cell 3 rfl
      | 4, _ => exact h.cell 4 rfl
      | 5, _ => exact h.cell 5 rfl
      | 6, _ => exact h.cell 6 rfl, h.cell 7 rfl, Rd.nil⟩
def OpenPost (A : Nat → Addr) (P : Int → Prop) (st : List UInt8) (fin : List (List UInt8)) (ms : List Mv) (cd : Cd) (on : Int) (w : World) (e : Ending) (w' : World) : Prop :=
  ∃ c, P c ∧ Below w.heap.size w w' ∧ ((c ≠ 0 ∧ e = .returned (.tuple #[.pointer none, errC A c])) ∨ (c = 0 ∧ ¬ Gd on ∧ e = .returned (.tuple #[.pointer none, errC A 4])) ∨
    (c = 0 ∧ Gd on ∧ ∃ B d, d.st = st ∧ d.fin = fin ∧ d.ms = ms ∧ d.cd = cd ∧ d.first = on ∧ Below w.heap.size w B ∧ Cs B d ⟨st, on, [], List.replicate ms.length 0⟩ w' ∧ e = .returned (.tuple #[.pointer (some ⟨B.heap.size + 1, 0, none⟩), .nilIface])))
set_option maxRecDepth 100000 in
set_option maxHeartbeats 8000000 in
theorem copen (st : List UInt8) (fin : List (List UInt8)) (ms : List Mv) (hf : fin.length ≤ 1000) (hm : ms.length ≤ 1000) (hlen : ∀ s ∈ stagesF st fin ms, s.length ≤ 9223372036854775807) (hmn : ∀ m ∈ ms, m.name.length ≤ 9223372036854775807 ∧ m.who.length ≤ 9223372036854775807)
    (FA MA : Option Addr) (fc mc : Nat) (hn : FA = none → fc = 0) (hmc : ms.length ≤ mc) (on : Int) (w : World) (A : Nat → Addr) (hE : E6 w A) (hF : Rd w FA (Srs.strs fin)) (hM : Rd w MA (ms.flatMap mvCells)) :
    Calls Tryz.prog 8 #[planW st fin ms FA fc MA mc, .int .i64 on, .pointer none] w (OpenPost A (VP st fin ms) st fin ms cd0 on w) := by
  have bx := Blk.new w 42 [.string ⟨st.toArray⟩, .slice FA fin.length fc, .slice MA ms.length mc]
  have hx1 := ext_alloc w (.cells #[.string ⟨st.toArray⟩, .slice FA fin.length fc, .slice MA ms.length mc] 42)
  obtain ⟨W, hW⟩ : ∃ W, W = w.alloc (.cells #[.string ⟨st.toArray⟩, .slice FA fin.length fc, .slice MA ms.length mc] 42) := ⟨_, rfl⟩
  obtain ⟨K, hK⟩ : ∃ K, K = w.heap.size := ⟨_, rfl⟩
  have bx : Blk W K 42 [.string ⟨st.toArray⟩, .slice FA fin.length fc, .slice MA ms.length mc] := by rw [hW, hK]; exact bx
  rw [← hW] at hx1
  have HX := Lib.hid hx1
  have HKb := Lib.hid bx
  have HKk := Lib.hid (show w.heap.size ≤ K by omega)
  have HF := Lib.hid (hF.ext hx1)
  have HM := Lib.hid (hM.ext hx1)
  have HV := Lib.hid (cvalid st fin ms hf hm hlen hmn FA MA fc mc hn hmc W A (hE.below hx1) (hF.ext hx1) (hM.ext hx1))
  have HE := Lib.hid (hE.below hx1)
  have y0 := bx.cell 0 rfl
  have y1 := bx.cell 1 rfl
  have y2 := bx.cell 2 rfl
  unfold planW at HV ⊢
  clear bx hx1 hF hM hE hlen hmn hn
  go_enter Tryz.func8, Tryz.ntmps8
  go_upto_region 1 with fail
  rw [← hW, ← hK]
  clear hW hK
  go_wp2_with fail
  refine HV.out.mono ?_
  rintro e w1 ⟨c, hc, rfl, hb1⟩
  have HB1 := Lib.hid (ext_trans HX.out hb1)
  have HK1 := Lib.hid (Sol.blk_ext HKb.out hb1)
  have HE1 := Lib.hid (HE.out.below hb1)
  have HF1 := Lib.hid (HF.out.ext hb1)
  have HM1 := Lib.hid (HM.out.ext hb1)
  have HP := Lib.hid hc
  clear hb1 y0 y1 y2 HV HE HF HM hc
  by_cases hz : c = 0
  · subst hz
    simp only [errC_zero]
    by_cases hg : Gd on
    · have HG := Lib.hid hg
      go_wp2_with fail
      refine (Dut.day_yes on hg _).mono ?_
      rintro e w2 ⟨rfl, rfl⟩
      have hx2 := ext_alloc w2 (.cells #[.bool false, .bool false, .bool false, .bool false, .bool false, .bool false, .bool false, .slice none 0 0] 99)
      have hCb := Blk.new w2 99 [.bool false, .bool false, .bool false, .bool false, .bool false, .bool false, .bool false, .slice none 0 0]
      obtain ⟨Wc, hWc⟩ : ∃ Wc, Wc = w2.alloc (.cells #[.bool false, .bool false, .bool false, .bool false, .bool false, .bool false, .bool false, .slice none 0 0] 99) := ⟨_, rfl⟩
      obtain ⟨Kc, hKc⟩ : ∃ Kc, Kc = w2.heap.size := ⟨_, rfl⟩
      rw [← hWc] at hx2 hCb
      rw [← hKc] at hCb
      go_upto_region 9 with fail
      rw [← hWc, ← hKc]
      have HWx := Lib.hid (ext_trans HB1.out hx2)
      have hd : Below Wc.heap.size Wc Wc.drew := ext_drewN Wc 1
      have HKne := Lib.hid (show Kc ≠ K by have := HK1.out.lt; omega)
      have HCd := Lib.hid hCb
      have HKd := Lib.hid (blk_ext2 (blk_ext2 HK1.out hx2) hd)
      have HFd := Lib.hid ((HF1.out.ext hx2).ext hd)
      have HMd := Lib.hid ((HM1.out.ext hx2).ext hd)
      have k1 := HKd.out.cell 1 rfl
      have k2 := HKd.out.cell 2 rfl
      clear hWc hKc hCb hx2 hg
      go_cut [] (fun w9 => ∃ (F2 : Option Addr) (fc2 : Nat) (M2 : Option Addr) (mc2 : Nat), Hid (Blk w9 K 42 [.string ⟨st.toArray⟩, .slice F2 fin.length fc2, .slice M2 ms.length mc2] ∧ Fx w9 ⟨st, fin, ms, F2, fc2, M2, mc2, Kc, cd0, none, 0, on⟩ ∧ Below w.heap.size w w9))
      case first =>
        go_region_law (first
          | (go_simp; go_at_call 36; refine (cloneS_any fin (by omega) FA fc _ HFd.out).mono ?_; rintro e w3 ⟨⟨F2, fc2, rfl, hr1, hn1, hl1⟩, hb3⟩; have HB3 := Lib.hid hb3; have HR1 := Lib.hid hr1; have HK3 := Lib.hid (blk_ext2 HKd.out hb3); have q1 := HK3.out.cell 1 rfl; have q2 := HK3.out.cell 2 rfl; have HM3 := Lib.hid (HMd.out.ext hb3); clear hr1 hn1 hl1 hb3)
          | (go_simp; go_at_call 37; refine (cloneM_any ms (by omega) MA mc _ HM3.out).mono ?_; rintro e w4 ⟨⟨M2, mc2, rfl, hr2, hn2, hl2⟩, hb4⟩; have HB4 := Lib.hid hb4; have HR2 := Lib.hid hr2; have HK4 := Lib.hid (blk_ext2 HK3.out hb4); have r1 := HK4.out.cell 1 rfl; have r2 := HK4.out.cell 2 rfl; have r3 := HK4.out.free 1; have r4 := fun v => (HK4.out.set 1 v).free 2; have r5 := fun v => (HK4.out.set 1 v).cell 2 rfl; clear hr2 hn2 hl2 hb4))
        all_goals go_wp2_with fail
        all_goals go_meet
        all_goals refine ⟨F2, fc2, M2, mc2, Lib.hid ⟨(HK4.out.set 1 _).set 2 _, ?_, ?_⟩⟩
        all_goals first
          | exact ⟨rdk_set (rdk_set (HR1.out.ext HB4.out) HK4.out (by decide) 1 _) (HK4.out.set 1 _) (by decide) 2 _, rdk_set (rdk_set HR2.out HK4.out (by decide) 1 _) (HK4.out.set 1 _) (by decide) 2 _, cda_set (cda_set ((((cd0_at HCd.out).ext hd).ext HB3.out).ext HB4.out) HKne.out 1 _ Rd.nil) HKne.out 2 _ Rd.nil, cd0_ok, hf, hm⟩
          | exact Below.setCell (p := ⟨K, 2, none⟩) (Below.setCell (p := ⟨K, 1, none⟩) (ext_trans HWx.out (ext_trans hd (ext_trans HB3.out HB4.out))) HKk.out _) HKk.out _
      case rest =>
        obtain ⟨F2, fc2, M2, mc2, HX9⟩ := hcut
        obtain ⟨Wf, rfl⟩ : ∃ Wf, Wf = wc := ⟨_, rfl⟩
        have q0 := HX9.out.1.cell 0 rfl
        have q1 := HX9.out.1.cell 1 rfl
        have q2 := HX9.out.1.cell 2 rfl
        have hmk := fun w => make_ints ms.length (by omega) w
        have hdr : Below Wf.heap.size Wf Wf.drew := ext_drewN Wf 1
        clear hd k1 k2
        go_wp2_with fail
        go_region_held3 (fun w' => w'.cell? ⟨K, 0, none⟩ = some (.string ⟨st.toArray⟩) ∧ w'.cell? ⟨K, 1, none⟩ = some (.slice F2 fin.length fc2) ∧ w'.cell? ⟨K, 2, none⟩ = some (.slice M2 ms.length mc2))
          ((first | exact ⟨q0, q1, q2⟩ | exact ⟨cell_ext hdr q0, cell_ext hdr q1, cell_ext hdr q2⟩ | exact ⟨cell_ext (ext_trans hdr (ext_alloc _ _)) q0, cell_ext (ext_trans hdr (ext_alloc _ _)) q1, cell_ext (ext_trans hdr (ext_alloc _ _)) q2⟩ | exact ⟨cell_ext (ext_trans hdr (ext_trans (ext_alloc _ _) (ext_alloc _ _))) q0, cell_ext (ext_trans hdr (ext_trans (ext_alloc _ _) (ext_alloc _ _))) q1, cell_ext (ext_trans hdr (ext_trans (ext_alloc _ _) (ext_alloc _ _))) q2⟩))
          (fail)
        go_wp2_with fail
        go_ret2
        clear hmk q0 q1 q2
        have xa := ext_alloc Wf (.cells (ints (List.replicate ms.length 0)).toArray 3)
        have ba := Blk.new Wf 3 (ints (List.replicate ms.length 0))
        obtain ⟨Wa, hWa⟩ : ∃ Wa, Wa = Wf.alloc (.cells (ints (List.replicate ms.length 0)).toArray 3) := ⟨_, rfl⟩
        have hsz : Wa.heap.size = Wf.heap.size + 1 := by rw [hWa]; simp
        rw [← hWa] at xa ba ⊢
        have xb := ext_alloc Wa (.cells #[.string ⟨st.toArray⟩, .slice F2 fin.length fc2, .slice M2 ms.length mc2, .pointer (some ⟨Kc, 0, none⟩), .string ⟨st.toArray⟩, .int .i64 on, .int .i64 on, .slice none 0 0, .slice (some ⟨Wf.heap.size, 0, none⟩) ms.length ms.length] 108)
        have bb := Blk.new Wa 108 [.string ⟨st.toArray⟩, .slice F2 fin.length fc2, .slice M2 ms.length mc2, .pointer (some ⟨Kc, 0, none⟩), .string ⟨st.toArray⟩, .int .i64 on, .int .i64 on, .slice none 0 0, .slice (some ⟨Wf.heap.size, 0, none⟩) ms.length ms.length]
        obtain ⟨Wb, hWb⟩ : ∃ Wb, Wb = Wa.alloc (.cells #[.string ⟨st.toArray⟩, .slice F2 fin.length fc2, .slice M2 ms.length mc2, .pointer (some ⟨Kc, 0, none⟩), .string ⟨st.toArray⟩, .int .i64 on, .int .i64 on, .slice none 0 0, .slice (some ⟨Wf.heap.size, 0, none⟩) ms.length ms.length] 108) := ⟨_, rfl⟩
        rw [← hWb] at xb bb ⊢
        have xc : Below Wb.heap.size Wb Wb.drew := ext_drewN Wb 1
        rw [hsz] at bb
        have xall := ext_trans xa (ext_trans xb xc)
        refine ⟨0, HP.out, ext_trans HX9.out.2.2 xall, .inr (.inr ⟨rfl, HG.out, Wf, ⟨st, fin, ms, F2, fc2, M2, mc2, Kc, cd0, none, 0, on⟩, rfl, rfl, rfl, rfl, rfl, HX9.out.2.2, ⟨xall, HX9.out.2.1, ?_, by simp, none, 0, blk_ext2 bb xc, ?_⟩, rfl⟩)⟩
        · have h := blk_ext2 (blk_ext2 ba xb) xc
          rw [show nats (List.replicate ms.length 0) = ints (List.replicate ms.length 0) by simp [nats, ints]]
          exact h
        · exact World.ownsRow_nil _ _ _ _
    · have HG := Lib.hid hg
      have e3 := HE1.out.v3
      unfold sentV at e3
      go_wp2_with fail
      refine (Dut.day_no on hg _).mono ?_
      rintro e w2 ⟨rfl, rfl⟩
      clear hg
      go_wp2_with fail
      go_quiet (fail)
      go_wp2_with fail
      go_ret2
      exact ⟨0, HP.out, ext_trans HB1.out (ext_drewN _ _), .inr (.inl ⟨rfl, HG.out, rfl⟩)⟩
  · have HEc2 := Lib.hid (show errV (A (c - 1).toNat) = errC A c from (if_neg hz).symm)
    have HZ := Lib.hid hz
    simp only
    rw [← HEc2.out]
    obtain ⟨ad, had⟩ : ∃ ad, ad = A (c - 1).toNat := ⟨_, rfl⟩
    rw [← had] at HEc2 ⊢
    unfold errV at *
    clear had hz
    go_wp2_with fail
    go_ret2
    exact ⟨c, HP.out, HB1.out, .inl ⟨HZ.out, by rw [← HEc2.out]; rfl⟩⟩
end Go.Proofs.YtjfiodknjchngaaGreatDoor.Ce

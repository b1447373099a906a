/- Gaps: the document's rows in memory; whether a row fits a case, which row is the first that fits. -/
import Derived.Test.YtjfiodknjchngaaDoorGpM
import Derived.BigQuiet
namespace Go.Proofs.YtjfiodknjchngaaDoor.Gp
open Go.RowKit Mem Nest Fk

def dcCells (x : CellM) : List Value := [.bool x.l.isNone, .slice x.A (x.l.getD []).length x.c]
theorem dcCells_len (x : CellM) : (dcCells x).length = 2 := rfl
structure DCells (w : World) (A : Option Addr) (xs : List CellM) : Prop where
  row : Rd w A (xs.flatMap dcCells)
  ints : ∀ x ∈ xs, Rd w x.A (ints (x.l.getD []))
  len : ∀ x ∈ xs, (x.l.getD []).length ≤ 1048576
structure DRows (w : World) (A : Option Addr) (ms : List RwM) : Prop where
  rows : Rd w A (ms.flatMap rwmCells)
  cells : ∀ m ∈ ms, DCells w m.A m.cells
theorem DCells.ext {w w' : World} {A : Option Addr} {xs : List CellM} (h : DCells w A xs) (hb : Below w.heap.size w w') : DCells w' A xs :=
  ⟨h.row.ext hb, fun x hx => (h.ints x hx).ext hb, h.len⟩
theorem DRows.ext {w w' : World} {A : Option Addr} {ms : List RwM} (h : DRows w A ms) (hb : Below w.heap.size w w') : DRows w' A ms :=
  ⟨h.rows.ext hb, fun m hm => (h.cells m hm).ext hb⟩
theorem DCells.cell {w : World} {A : Option Addr} {xs : List CellM} (h : DCells w A xs) {k : Nat} (hk : k < xs.length) :
    ∃ b o, A = some ⟨b, o, none⟩ ∧ w.cell? ⟨b, o + k * 2, none⟩ = some (.bool xs[k].l.isNone) ∧ w.cell? ⟨b, o + k * 2 + 1, none⟩ = some (.slice xs[k].A (xs[k].l.getD []).length xs[k].c) := by
  obtain ⟨b, o, e, hc⟩ := h.row.row dcCells_len hk (by omega)
  exact ⟨b, o, e, by simpa using hc 0 _ rfl, by simpa [Nat.add_assoc] using hc 1 _ rfl⟩
theorem DRows.row {w : World} {A : Option Addr} {ms : List RwM} (h : DRows w A ms) {k : Nat} (hk : k < ms.length) :
    ∃ b o, A = some ⟨b, o, none⟩ ∧ w.cell? ⟨b, o + k * 2, none⟩ = some (.slice ms[k].A ms[k].cells.length ms[k].c) ∧ w.cell? ⟨b, o + k * 2 + 1, none⟩ = some (.string ⟨ms[k].out.toArray⟩) := by
  obtain ⟨b, o, e, hc⟩ := h.rows.row rwmCells_len hk (by omega)
  exact ⟨b, o, e, by simpa using hc 0 _ rfl, by simpa [Nat.add_assoc] using hc 1 _ rfl⟩
theorem int_at {w : World} {A : Option Addr} {l : List Int} (h : Rd w A (ints l)) {k : Nat} (hk : k < l.length) :
    ∃ b o, A = some ⟨b, o, none⟩ ∧ w.cell? ⟨b, o + k, none⟩ = some (.int .i64 l[k]) := h k _ (by simp [ints, hk])
theorem contains_take {l : List Int} {k : Nat} (h : k < l.length) (a : Int) : (l.take (k + 1)).contains a = ((l.take k).contains a || (l[k] == a)) := by
  rw [List.take_succ_eq_append_getElem h, Bool.eq_iff_iff, Bool.or_eq_true, List.contains_iff_mem, List.contains_iff_mem, List.mem_append, List.mem_singleton, beq_iff_eq]
  exact or_congr Iff.rfl ⟨fun e => e.symm, fun e => e.symm⟩
theorem fitC_alt (c : Option (List Int)) (a : Int) : fitC c a = (c.isNone || (c.getD []).contains a) := by cases c <;> rfl
set_option maxRecDepth 20000 in
set_option maxHeartbeats 2000000 in
theorem rfits_any (xs : List CellM) (A : Option Addr) (c : Nat) (s : ByteArray) (cs : List Int) (B : Option Addr) (cc : Nat) (hl : cs.length ≤ xs.length) (hm : cs.length ≤ 1048576) (w : World) (h : DCells w A xs) (hc : Rd w B (ints cs)) :
    Calls Tryd.prog 13 #[.agg #[.slice A xs.length c, .string s], .slice B cs.length cc] w (RetA (fitR (xs.map (·.l)) cs) w) := by
  have hbk := Blk.new w 45 [.slice A xs.length c, .string s]
  have hx := ext_alloc w (.cells (List.toArray [.slice A xs.length c, .string s]) 45)
  obtain ⟨W, hW⟩ : ∃ W, W = w.alloc (.cells (List.toArray [.slice A xs.length c, .string s]) 45) := ⟨_, rfl⟩
  rw [← hW] at hx hbk
  have HX := Lib.hid hx
  have HD := Lib.hid (h.ext hx)
  have HC := Lib.hid (hc.ext hx)
  have HW := Lib.hid hW
  have r0 := hbk.cell 0 rfl
  clear hbk hx hW h hc
  go_enter Tryd.func13, Tryd.ntmps13
  go_upto_region 1 with fail
  rw [show w.alloc (.cells #[.slice A xs.length c, .string s] 45) = W from HW.out.symm]
  clear HW
  go_wp2_with fail
  go_loopw [5] (fun t5 wr => ∃ (j : Nat), t5 = .int .i64 j ∧ j ≤ cs.length ∧ Hid (fitR (xs.map (·.l)) (cs.take j) = true) ∧ Hid (Below W.heap.size W wr)) (fun t5 _ => cs.length - (intOf t5).toNat)
  case atStart => exact ⟨0, rfl, by omega, by rw [List.take_zero]; exact fitR_nil _, Below.refl _ _⟩
  case round =>
    obtain ⟨j, rfl, hj, HF, HB⟩ := hrel
    by_cases hlt : j < cs.length
    · have hcl : (j : Int) < cs.length := by omega
      have hjx : j < xs.length := by omega
      have hcx : (j : Int) < xs.length := by omega
      obtain ⟨cb, co, hBe, a0⟩ := int_at (HC.out.ext HB.out) hlt
      subst hBe
      obtain ⟨b, o, hAe, x0, x1⟩ := (HD.out.ext HB.out).cell hjx
      subst hAe
      have k0 := cell_ext HB.out r0
      have HI := Lib.hid (HD.out.ints _ (List.getElem_mem hjx))
      have hlz := HD.out.len _ (List.getElem_mem hjx)
      have HS := Lib.hid (show fitR (xs.map (·.l)) (cs.take (j + 1)) = (fitR (xs.map (·.l)) (cs.take j) && fitC xs[j].l cs[j]) by
        rw [List.take_succ_eq_append_getElem hlt, fitR_snoc _ _ _ (by simp; omega)]
        congr 2
        simp [List.length_take, Nat.min_eq_left hj])
      have HBad := Lib.hid (show fitR (xs.map (·.l)) cs = true → fitR (xs.map (·.l)) (cs.take (j + 1)) = true from fun h => fitR_take _ _ _ h)
      rw [fitC_alt] at HS
      generalize xs[j] = X at *
      generalize cs[j] = a at *
      obtain ⟨l, lA, lc⟩ := X
      simp only at x0 x1 HI hlz HS
      obtain ⟨zs, hzs⟩ : ∃ zs, zs = l.getD [] := ⟨_, rfl⟩
      obtain ⟨nn, hnn⟩ : ∃ nn, nn = l.isNone := ⟨_, rfl⟩
      rw [← hzs] at x1 HI hlz HS
      rw [← hnn] at x0 HS
      clear hzs hnn
      go_wp2_with fail
      clear x0
      obtain ⟨wo, hwo⟩ : ∃ wo, wo = wr := ⟨_, rfl⟩
      rw [← hwo] at HB a0 x1 k0 ⊢
      clear hwo wr
      go_loopw [6, 7] (fun t6 t7 wr => ∃ (k : Nat), t6 = .bool (nn || (zs.take k).contains a) ∧ t7 = .int .i64 k ∧ k ≤ zs.length ∧ Hid (Below wo.heap.size wo wr)) (fun _ t7 _ => zs.length - (intOf t7).toNat)
      case atStart => exact ⟨0, by simp, rfl, by omega, Below.refl _ _⟩
      case round =>
        obtain ⟨k, rfl, rfl, hk, HB2⟩ := hrel
        have x1 := cell_ext HB2.out x1
        have k0 := cell_ext HB2.out k0
        have a0 := cell_ext HB2.out a0
        by_cases hlk : k < zs.length
        · have hck : (k : Int) < zs.length := by omega
          obtain ⟨zb, zo, hlA, z0⟩ := int_at ((HI.out.ext HB.out).ext HB2.out) hlk
          subst hlA
          have HCt := Lib.hid (contains_take hlk a)
          generalize zs[k] = z at *
          obtain ⟨y, hy⟩ : ∃ y, y = (nn || (zs.take k).contains a) := ⟨_, rfl⟩
          rw [← hy]
          have HY := Lib.hid (show (nn || (zs.take (k + 1)).contains a) = (y || (z == a)) by rw [HCt.out, hy, Bool.or_assoc])
          clear hy HCt
          obtain ⟨e, he⟩ : ∃ e, e = (z == a) := ⟨_, rfl⟩
          rw [← he] at HY
          have he' : (z == a) = e := he.symm
          clear he
          cases y with
          | true =>
            go_upto_region 8 with fail
            go_quiet (fail)
            have HB3 := Lib.hid (ext_drewN wr nq)
            clear x1 k0 a0 z0
            go_wp2_with fail
            go_roundw
            case rel => exact ⟨k + 1, by rw [HY.out]; rfl, by go_num, by omega, ext_trans HB2.out HB3.out⟩
            case measure => simp [intOf]; omega
          | false =>
            go_upto_region 8 with fail
            go_quiet (fail)
            have HB3 := Lib.hid (ext_drewN wr nq)
            clear x1 k0 a0 z0
            go_wp2_with fail
            go_roundw
            case rel => exact ⟨k + 1, by rw [HY.out]; rfl, by go_num, by omega, ext_trans HB2.out HB3.out⟩
            case measure => simp [intOf]; omega
        · obtain rfl : zs.length = k := by omega
          rw [List.take_length]
          obtain ⟨f, hf⟩ : ∃ f, f = (nn || zs.contains a) := ⟨_, rfl⟩
          have HS2 := Lib.hid (show fitR (xs.map (·.l)) (cs.take (j + 1)) = f by rw [HS.out, HF.out, Bool.true_and, hf])
          rw [← hf]
          clear hf HS
          cases f with
          | true =>
            go_wp2_with fail
            go_roundw
            case rel => exact ⟨j + 1, by go_num, by omega, HS2.out, ext_trans HB.out HB2.out⟩
            case measure => simp [intOf]; omega
          | false =>
            go_wp2_with fail
            go_ret
            refine retA ?_ (ext_trans HX.out (ext_trans HB.out HB2.out))
            cases h : fitR (xs.map (·.l)) cs with
            | false => rfl
            | true =>
              have := HBad.out h
              rw [HS2.out] at this
              cases this
    · obtain rfl : cs.length = j := by omega
      go_wp2_with fail
      go_ret
      refine retA ?_ (ext_trans HX.out HB.out)
      have := HF.out
      rw [List.take_length] at this
      exact this.symm
end Go.Proofs.YtjfiodknjchngaaDoor.Gp

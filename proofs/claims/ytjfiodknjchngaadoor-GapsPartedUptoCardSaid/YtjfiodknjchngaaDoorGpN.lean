/- Gaps: lengths that the walks want; a table's parts by place. Gaps: the table as it comes in; fewCells. -/
import Derived.Test.YtjfiodknjchngaaDoorGpV
import Derived.Test.YtjfiodknjchngaaDoorGpE
namespace Go.Proofs.YtjfiodknjchngaaDoor.Gp
open Go.RowKit Mem Nest Fk

/-- lengths that the walks want -/
structure SmallT (qms : List QnM) (ms : List RwM) : Prop where
  nm : ∀ q ∈ qms, q.name.length ≤ 9223372036854775807
  an : ∀ q ∈ qms, ∀ s ∈ q.ans, s.length ≤ 9223372036854775807
  al : ∀ q ∈ qms, q.ans.length ≤ 1048576
  ql : qms.length ≤ 1048576
  rl : ms.length ≤ 1048576
  out : ∀ r ∈ ms, r.out.length ≤ 9223372036854775807
  cl : ∀ r ∈ ms, r.cells.length ≤ 1048576
theorem qAt_m {qms : List QnM} {i : Nat} (h : i < qms.length) : qAt (qms.map QnM.qn) i = qms[i].qn := by simp [qAt, h]
theorem rAt_m {ms : List RwM} {i : Nat} (h : i < ms.length) : rAt (ms.map RwM.rw) i = ms[i].rw := by simp [rAt, h]
theorem txt_m {qms : List QnM} {i : Nat} (h : i < qms.length) : txtAt ((qms.map QnM.qn).map (·.name)) i = qms[i].name := by simp [txtAt, h, QnM.qn]
theorem cAt_m {r : RwM} {k : Nat} (h : k < r.cells.length) : cAt r.rw k = r.cells[k].l.getD [] := by simp [cAt, RwM.rw, h]
theorem nameF_succ (qs : List Qn) (i : Nat) : nameF qs (i + 1) = (nameF qs i || (qnB qs i || anyTo (ansB (qAt qs i).ans) (qAt qs i).ans.length)) := anyTo_succ _ _
theorem or_move (a b c : Bool) : (a || (b || c)) = ((a || b) || c) := by cases a <;> cases b <;> rfl
end Go.Proofs.YtjfiodknjchngaaDoor.Gp
namespace Go.Proofs.YtjfiodknjchngaaDoor.Gp
open Go.RowKit Mem Nest Fk

/-- a cell and a row as they come in -/
structure RC where
  all : Bool
  l : List Int
  A : Option Addr
  c : Nat
def rcCells (x : RC) : List Value := [.bool x.all, .slice x.A x.l.length x.c]
theorem rcCells_len (x : RC) : (rcCells x).length = 2 := rfl
structure RR where
  cells : List RC
  A : Option Addr
  c : Nat
  out : List UInt8
def rrCells (r : RR) : List Value := [.slice r.A r.cells.length r.c, .string ⟨r.out.toArray⟩]
theorem rrCells_len (r : RR) : (rrCells r).length = 2 := rfl
structure RawR (w : World) (A : Option Addr) (ms : List RR) : Prop where
  rows : Rd w A (ms.flatMap rrCells)
  cells : ∀ m ∈ ms, Rd w m.A (m.cells.flatMap rcCells)
theorem RawR.ext {w w' : World} {A : Option Addr} {ms : List RR} (h : RawR w A ms) (hb : Below w.heap.size w w') : RawR w' A ms :=
  ⟨h.rows.ext hb, fun m hm => (h.cells m hm).ext hb⟩
theorem RawR.row {w : World} {A : Option Addr} {ms : List RR} (h : RawR w A ms) {k : Nat} (hk : k < ms.length) :
    ∃ b o, A = some ⟨b, o, none⟩ ∧ w.cell? ⟨b, o + k * 2, none⟩ = some (.slice ms[k].A ms[k].cells.length ms[k].c) ∧ w.cell? ⟨b, o + k * 2 + 1, none⟩ = some (.string ⟨ms[k].out.toArray⟩) := by
  obtain ⟨b, o, e, hc⟩ := h.rows.row rrCells_len hk (by omega)
  exact ⟨b, o, e, by simpa using hc 0 _ rfl, by simpa [Nat.add_assoc] using hc 1 _ rfl⟩
theorem rc_at {w : World} {A : Option Addr} {xs : List RC} (h : Rd w A (xs.flatMap rcCells)) {k : Nat} (hk : k < xs.length) :
    ∃ b o, A = some ⟨b, o, none⟩ ∧ w.cell? ⟨b, o + k * 2, none⟩ = some (.bool xs[k].all) ∧ w.cell? ⟨b, o + k * 2 + 1, none⟩ = some (.slice xs[k].A xs[k].l.length xs[k].c) := by
  obtain ⟨b, o, e, hc⟩ := h.row rcCells_len hk (by omega)
  exact ⟨b, o, e, by simpa using hc 0 _ rfl, by simpa [Nat.add_assoc] using hc 1 _ rfl⟩
/-- what fewCells tells: where it says yes, a cell for all has no numbers -/
def FewC (ms : List RR) (w : World) (e : Ending) (w' : World) : Prop := ∃ b : Bool, e = .returned (.bool b) ∧ (b = true → ∀ m ∈ ms, ∀ x ∈ m.cells, x.all = true → x.l = []) ∧ Below w.heap.size w w'
theorem fewC_no {ms : List RR} {w w' : World} (hb : Below w.heap.size w w') : FewC ms w (.returned (.bool false)) w' := ⟨_, rfl, (fun h => by cases h), hb⟩
theorem fewC_any {ms : List RR} {w w' : World} {b : Bool} (h : ∀ i (hi : i < ms.length), ∀ x ∈ ms[i].cells, x.all = true → x.l = []) (hb : Below w.heap.size w w') : FewC ms w (.returned (.bool b)) w' :=
  ⟨_, rfl, (fun _ m hm => by
    obtain ⟨i, hi, rfl⟩ := List.mem_iff_getElem.1 hm
    exact h i hi), hb⟩
set_option maxRecDepth 100000 in
set_option maxHeartbeats 4000000 in
theorem fewcells_any (qms : List QnM) (A : Option Addr) (c : Nat) (ms : List RR) (B : Option Addr) (bc : Nat) (hql : qms.length ≤ 1048576) (hrl : ms.length ≤ 1048576) (hal : ∀ q ∈ qms, q.ans.length ≤ 1048576) (hcl : ∀ r ∈ ms, r.cells.length ≤ 1048576) (w : World) (hq : QsP w A qms) (hr : RawR w B ms) :
    Calls Tryd.prog 6 #[.agg #[.slice A qms.length c, .slice B ms.length bc]] w (FewC ms w) := by
  have hbk := Blk.new w 25 [.slice A qms.length c, .slice B ms.length bc]
  have hx := ext_alloc w (.cells (List.toArray [.slice A qms.length c, .slice B ms.length bc]) 25)
  obtain ⟨W, hW⟩ : ∃ W, W = w.alloc (.cells (List.toArray [.slice A qms.length c, .slice B ms.length bc]) 25) := ⟨_, rfl⟩
  obtain ⟨K, hK⟩ : ∃ K, K = w.heap.size := ⟨_, rfl⟩
  rw [← hW] at hx hbk
  rw [← hK] at hbk
  have HX := Lib.hid hx
  have HQ := Lib.hid (hq.ext hx)
  have HR := Lib.hid (hr.ext hx)
  have HW := Lib.hid hW
  have HK := Lib.hid hK
  have HAl := Lib.hid hal
  have HCl := Lib.hid hcl
  have r0 := hbk.cell 0 rfl
  have r1 := hbk.cell 1 rfl
  clear hbk hx hW hK hq hr hal hcl
  go_enter Tryd.func6, Tryd.ntmps6
  go_upto_region 1 with fail
  rw [show w.alloc (.cells #[.slice A qms.length c, .slice B ms.length bc] 25) = W from HW.out.symm, ← HK.out]
  clear HW
  go_wp2_with fail
  go_loop [3, 4] (fun t3 t4 => ∃ (i : Nat) (z : Int), t3 = .int .i64 z ∧ t4 = .int .i64 i ∧ i ≤ ms.length ∧ Hid (∀ j (hj : j < ms.length), j < i → ∀ x ∈ ms[j].cells, x.all = true → x.l = [])) (fun _ t4 => ms.length - (intOf t4).toNat)
  case atStart => exact ⟨0, 0, rfl, rfl, by omega, fun j hj h => absurd h (by omega)⟩
  case round =>
    obtain ⟨i, z, rfl, rfl, hi, HN⟩ := hrel
    by_cases hlt : i < ms.length
    · have hcl : (i : Int) < ms.length := by omega
      obtain ⟨b, o, hB, z0, z1⟩ := HR.out.row hlt
      subst hB
      have HCe := Lib.hid (HR.out.cells _ (List.getElem_mem hlt))
      have hcn := HCl.out _ (List.getElem_mem hlt)
      have HMi := Lib.hid (fun (h : ∀ x ∈ ms[i].cells, x.all = true → x.l = []) => (show ∀ j (hj : j < ms.length), j < i + 1 → ∀ x ∈ ms[j].cells, x.all = true → x.l = [] from fun j hj h2 => by
        rcases Nat.lt_succ_iff_lt_or_eq.1 h2 with h3 | rfl
        · exact HN.out j hj h3
        · exact h))
      generalize ms[i] = r at *
      obtain ⟨cs, cA, cc, out⟩ := r
      simp only at z0 z1 HCe hcn HMi
      go_wp2_with fail
      go_loop [3, 5] (fun t3 t5 => ∃ (k : Nat) (z : Int), t3 = .int .i64 z ∧ t5 = .int .i64 k ∧ k ≤ cs.length ∧ Hid (∀ j (hj : j < cs.length), j < k → cs[j].all = true → cs[j].l = [])) (fun _ t5 => cs.length - (intOf t5).toNat)
      case atStart => exact ⟨0, _, rfl, rfl, by omega, fun j hj h => absurd h (by omega)⟩
      case round =>
        obtain ⟨k, zz, rfl, rfl, hk, HK2⟩ := hrel
        by_cases hlk : k < cs.length
        · have hck : (k : Int) < cs.length := by omega
          obtain ⟨cb, co, hcA, c0, c1⟩ := rc_at HCe.out hlk
          subst hcA
          have HKk := Lib.hid (fun (h : cs[k].all = true → cs[k].l = []) => (show ∀ j (hj : j < cs.length), j < k + 1 → cs[j].all = true → cs[j].l = [] from fun j hj h2 => by
            rcases Nat.lt_succ_iff_lt_or_eq.1 h2 with h3 | rfl
            · exact HK2.out j hj h3
            · exact h))
          generalize cs[k] = x at *
          obtain ⟨xa, xl, xA, xc⟩ := x
          simp only at c0 c1 HKk
          obtain ⟨nl, hnl⟩ : ∃ nl, nl = xl.length := ⟨_, rfl⟩
          rw [← hnl] at c1
          have HNl := Lib.hid hnl
          clear hnl
          cases xa with
          | false =>
            have HK3 := Lib.hid (HKk.out (fun h => by cases h))
            go_wp2_with fail
            go_round
            case rel => exact ⟨k + 1, _, rfl, by go_num, by omega, HK3.out⟩
            case measure => simp [intOf]; omega
          | true =>
            by_cases h0 : 0 < nl
            · have h0c : (0 : Int) < nl := by omega
              go_wp2_with fail
              go_ret
              exact fewC_no HX.out
            · have h0c : ¬ (0 : Int) < nl := by omega
              have HK3 := Lib.hid (HKk.out (fun _ => List.eq_nil_of_length_eq_zero (by have := HNl.out; omega)))
              go_wp2_with fail
              go_round
              case rel => exact ⟨k + 1, _, rfl, by go_num, by omega, HK3.out⟩
              case measure => simp [intOf]; omega
        · obtain rfl : cs.length = k := by omega
          have hck : ¬ (cs.length : Int) < cs.length := by omega
          go_wp2_with fail
          go_round
          case rel => exact ⟨i + 1, _, rfl, by go_num, by omega, HMi.out (fun x hx => by
            obtain ⟨j, hj, rfl⟩ := List.mem_iff_getElem.1 hx
            exact HK2.out j hj hj)⟩
          case measure => simp [intOf]; omega
    · obtain rfl : ms.length = i := by omega
      have hcl : ¬ (ms.length : Int) < ms.length := by omega
      have HAll := Lib.hid (show ∀ i (hi : i < ms.length), ∀ x ∈ ms[i].cells, x.all = true → x.l = [] from fun i hi => HN.out i hi hi)
      clear HN
      go_wp2_with fail
      go_loop [3, 6] (fun t3 t6 => ∃ (k : Nat) (z : Int), t3 = .int .i64 z ∧ t6 = .int .i64 k ∧ k ≤ qms.length) (fun _ t6 => qms.length - (intOf t6).toNat)
      case atStart => exact ⟨0, _, rfl, rfl, by omega⟩
      case round =>
        obtain ⟨k, zz, rfl, rfl, hk⟩ := hrel
        by_cases hlk : k < qms.length
        · have hck : (k : Int) < qms.length := by omega
          obtain ⟨qb, qo, hA, q0, q1⟩ := HQ.out.row hlk
          subst hA
          have HAs := Lib.hid (HQ.out.ans _ (List.getElem_mem hlk))
          have han := HAl.out _ (List.getElem_mem hlk)
          generalize qms[k] = Q at *
          obtain ⟨nm, an, aA, ac⟩ := Q
          simp only at q0 q1 HAs han
          go_wp2_with fail
          go_loop [3, 7] (fun t3 t7 => ∃ (m : Nat) (z : Int), t3 = .int .i64 z ∧ t7 = .int .i64 m ∧ m ≤ an.length) (fun _ t7 => an.length - (intOf t7).toNat)
          case atStart => exact ⟨0, _, rfl, rfl, by omega⟩
          case round =>
            obtain ⟨m, zm, rfl, rfl, hm⟩ := hrel
            by_cases hlm : m < an.length
            · have hcm : (m : Int) < an.length := by omega
              obtain ⟨sb, so, hsA, s0⟩ := str_at HAs.out hlm
              subst hsA
              generalize an[m] = s at *
              go_wp2_with fail
              go_round
              case rel => exact ⟨m + 1, _, rfl, by go_num, by omega⟩
              case measure => simp [intOf]; omega
            · obtain rfl : an.length = m := by omega
              have hcm : ¬ (an.length : Int) < an.length := by omega
              go_wp2_with fail
              go_round
              case rel => exact ⟨k + 1, _, rfl, by go_num, by omega⟩
              case measure => simp [intOf]; omega
        · obtain rfl : qms.length = k := by omega
          have hck : ¬ (qms.length : Int) < qms.length := by omega
          go_wp2_with fail
          go_ret
          exact fewC_any HAll.out HX.out
end Go.Proofs.YtjfiodknjchngaaDoor.Gp

/- The law LedgerAnew answers true: the walk. -/
import Derived.Test.YtipbmpakdcmdoaaDoorSettle
namespace Go.Proofs.YtipbmpakdcmdoaaDoor.LedgerAnew
open Go.RowKit Mem Pays Nest Claims Settle

theorem en_at {w : World} {A : Option Addr} {es : List En} (h : Ens w A es) {k : Nat} (hk : k < es.length) :
    ∃ b o, A = some ⟨b, o, none⟩ ∧ w.cell? ⟨b, o + k * 3 + 2, none⟩ = some (.slice es[k].A es[k].lines.length es[k].c) := by
  obtain ⟨b, o, e, hc⟩ := h.rows.row enCells_len hk (by omega)
  exact ⟨b, o, e, by simpa [Nat.add_assoc] using hc 2 _ rfl⟩
theorem li_at {w : World} {A : Option Addr} {ls : List Line} (h : Rd w A (ls.flatMap liCells)) {k : Nat} (hk : k < ls.length) :
    ∃ b o, A = some ⟨b, o, none⟩ ∧ w.cell? ⟨b, o + k * 2, none⟩ = some ls[k].1.val ∧ w.cell? ⟨b, o + k * 2 + 1, none⟩ = some (.int .i64 ls[k].2) := by
  obtain ⟨b, o, e, hc⟩ := h.row liCells_len hk (by omega)
  exact ⟨b, o, e, by simpa using hc 0 _ rfl, by simpa [Nat.add_assoc] using hc 1 _ rfl⟩
def bytes : Acc → ByteArray
  | .rights => ⟨#[114, 105, 103, 104, 116, 115]⟩
  | .paid => ⟨#[112, 97, 105, 100]⟩
  | .debts => ⟨#[100, 101, 98, 116, 115]⟩
theorem val_eq (a : Acc) : a.val = .string (bytes a) := by cases a <;> rfl
theorem bytes_ne {a b : Acc} (h : a ≠ b) : ((bytes a).toList == (bytes b).toList) = false := by
  rw [ByteArray.toList_eq, ByteArray.toList_eq]
  cases a <;> cases b <;> first | exact absurd rfl h | decide
theorem bytes_ne' {a b : Acc} (h : a ≠ b) : (bytes a == bytes b) = false := by
  cases a <;> cases b <;> first | exact absurd rfl h | decide
set_option maxRecDepth 100000 in
/-- what is due of the last claim -/
theorem right_any (d : Int) (A : Option Addr) (c : Nat) (ps : List Pay) (w : World) (hr : Rd w A (ps.flatMap payCells)) (hn : ps.length ≤ 400) (hc : ∀ p ∈ ps, -1000000000000 ≤ p.2.2 ∧ p.2.2 ≤ 1000000000000) :
    Calls Tryd.prog 22 #[.agg #[.int .i64 d, .slice A ps.length c]] w fun e w' => e = .returned (.int .i64 (overSum d ps)) ∧ Below w.heap.size w w' := by
  have HR := Lib.hid hr
  have HC := Lib.hid hc
  clear hr hc
  go_enter Tryd.func22, Tryd.ntmps22
  go_wp2_with fail
  go_loopw [3, 4] (fun s i wr => Hid (Below w.heap.size w wr) ∧ Hid (Blk wr w.heap.size 47 [.int .i64 d, .slice A ps.length c]) ∧ ∃ k : Nat, s = .int .i64 (overSum d (ps.take k)) ∧ i = .int .i64 k ∧ k ≤ ps.length) (fun _ i _ => (ps.length - intOf i).toNat)
  case atStart => exact ⟨ext_alloc w _, Blk.new _ _ [_, _], 0, by simp [overSum, sumL], rfl, by omega⟩
  case round =>
    obtain ⟨HB, HX, k, rfl, rfl, hk⟩ := hrel
    have x0 := HX.out.cell 0 rfl
    have x1 := HX.out.cell 1 rfl
    have hbd := overSum_bd d (ps.take k) (fun p hp => HC.out p (List.mem_of_mem_take hp))
    rw [List.length_take] at hbd
    obtain ⟨hb1, hb2⟩ : -400000000000000 ≤ overSum d (ps.take k) ∧ overSum d (ps.take k) ≤ 400000000000000 := by
      have : ((min k ps.length : Nat) : Int) ≤ 400 := by omega
      omega
    clear hbd
    by_cases hlk : k < ps.length
    · have hck : (k : Int) < ps.length := by omega
      obtain ⟨hc1, hc2⟩ := HC.out _ (List.getElem_mem hlk)
      obtain ⟨b, o, rfl, p0, p1, p2⟩ := pay_at (HR.out.ext HB.out) hlk
      have HT := Lib.hid (overSum_take d ps k hlk)
      by_cases hto : ps[k].2.1 ≤ d
      · go_wp2_with fail
        go_quiet (fail)
        go_wp2_with fail
        go_roundw
        case rel =>
          refine ⟨HB.out.trans ((ext_drewN _ nq).mono HB.out.size), HX.out.ext (below_drewN (Below.refl _ _) nq), k + 1, ?_, by simp, by omega⟩
          rw [HT.out, if_pos hto]
        case measure => simp [intOf]; omega
      · have hto2 : decide (ps[k].2.1 ≤ d) = false := by simpa using hto
        go_wp2_with fail
        go_quiet (fail)
        go_wp2_with fail
        go_roundw
        case rel =>
          refine ⟨HB.out.trans ((ext_drewN _ nq).mono HB.out.size), HX.out.ext (below_drewN (Below.refl _ _) nq), k + 1, ?_, by simp, by omega⟩
          rw [HT.out, if_neg (show ¬ ps[k].2.1 ≤ d by omega)]
          simp
        case measure => simp [intOf]; omega
    · have hck : ¬ (k : Int) < ps.length := by omega
      have hk2 : k = ps.length := by omega
      have HK2 := Lib.hid (show overSum d (ps.take k) = overSum d ps by rw [hk2, List.take_length])
      clear hk2
      go_wp2_with fail
      go_ret
      exact ⟨by rw [← HK2.out]; rfl, HB.out⟩
theorem bal_bd (a : Acc) (es : List (Int × List Line)) (h : ∀ e ∈ es, SmallL e.2) : -(6000000000000 * es.length) ≤ bal a es ∧ bal a es ≤ 6000000000000 * es.length := by
  have := sumL_bd 6000000000000 (es.map fun e => balL a e.2) (by
    intro x hx
    obtain ⟨e, he, rfl⟩ := List.mem_map.1 hx
    obtain ⟨h1, h2⟩ := h e he
    have := sumL_bd 2000000000000 (e.2.map fun x => if x.1 = a then x.2 else 0) (by
      intro x hx
      obtain ⟨l, hl, rfl⟩ := List.mem_map.1 hx
      have := h2 l hl
      show -2000000000000 ≤ (if l.1 = a then l.2 else 0) ∧ (if l.1 = a then l.2 else 0) ≤ 2000000000000
      split <;> omega)
    rw [List.length_map] at this
    unfold balL
    omega)
  rwa [List.length_map] at this
theorem balL_bd (a : Acc) (l : List Line) (h : SmallL l) (k : Nat) : -6000000000000 ≤ balL a (l.take k) ∧ balL a (l.take k) ≤ 6000000000000 := by
  obtain ⟨h1, h2⟩ := h
  have := sumL_bd 2000000000000 ((l.take k).map fun x => if x.1 = a then x.2 else 0) (by
    intro x hx
    obtain ⟨y, hy, rfl⟩ := List.mem_map.1 hx
    have := h2 y (List.mem_of_mem_take hy)
    show -2000000000000 ≤ (if y.1 = a then y.2 else 0) ∧ (if y.1 = a then y.2 else 0) ≤ 2000000000000
    split <;> omega)
  rw [List.length_map, List.length_take] at this
  unfold balL
  omega
set_option maxRecDepth 100000 in
theorem balance_any (a : Acc) (A : Option Addr) (c : Nat) (es : List En) (w : World) (hE : Ens w A es) (hn : es.length ≤ 400) (hs : ∀ e ∈ es, SmallL e.lines) :
    Calls Tryd.prog 21 #[.slice A es.length c, a.val] w fun e w' => e = .returned (.int .i64 (bal a (es.map En.key))) ∧ w = w' := by
  rw [val_eq]
  have HE := Lib.hid hE
  have HS := Lib.hid hs
  clear hE hs
  go_enter Tryd.func21, Tryd.ntmps21
  go_wp2_with fail
  go_loopw [5, 6] (fun n i wr => w = wr ∧ ∃ j : Nat, n = .int .i64 (bal a ((es.map En.key).take j)) ∧ i = .int .i64 j ∧ j ≤ es.length) (fun _ i _ => (es.length - intOf i).toNat)
  case atStart => exact ⟨rfl, 0, by simp [bal, sumL], rfl, by omega⟩
  case round =>
    obtain ⟨hw, j, rfl, rfl, hj⟩ := hrel
    subst hw
    have hbd := bal_bd a ((es.map En.key).take j) (fun e he => by
      obtain ⟨x, hx, rfl⟩ := List.mem_map.1 (List.mem_of_mem_take he)
      exact HS.out x hx)
    rw [List.length_take, List.length_map] at hbd
    obtain ⟨hb1, hb2⟩ : -2400000000000000 ≤ bal a ((es.map En.key).take j) ∧ bal a ((es.map En.key).take j) ≤ 2400000000000000 := by
      have : ((min j es.length : Nat) : Int) ≤ 400 := by omega
      omega
    clear hbd
    by_cases hlt : j < es.length
    · have hcl : (j : Int) < es.length := by omega
      obtain ⟨b, o, rfl, r2⟩ := en_at HE.out hlt
      have HL := Lib.hid (HE.out.lines _ (List.getElem_mem hlt))
      have HSM := Lib.hid (HS.out _ (List.getElem_mem hlt))
      have HT := Lib.hid (bal_take a (es.map En.key) j (by simpa using hlt))
      have hl3 : es[j].lines.length ≤ 3 := HSM.out.1
      generalize hB0 : bal a ((es.map En.key).take j) = B0 at *
      go_wp2_with fail
      go_loopw [5, 7] (fun n i wr => w = wr ∧ ∃ m : Nat, n = .int .i64 (B0 + balL a (es[j].lines.take m)) ∧ i = .int .i64 m ∧ m ≤ es[j].lines.length) (fun _ i _ => (es[j].lines.length - intOf i).toNat)
      case atStart => exact ⟨rfl, 0, by simp [balL, sumL], rfl, by omega⟩
      case round =>
        obtain ⟨hw, m, rfl, rfl, hm⟩ := hrel
        subst hw
        obtain ⟨lb1, lb2⟩ := balL_bd a es[j].lines HSM.out m
        by_cases hlm : m < es[j].lines.length
        · have hcm : (m : Int) < es[j].lines.length := by omega
          obtain ⟨b', o', hA, l0, l1⟩ := li_at HL.out hlm
          obtain ⟨s1, s2⟩ := HSM.out.2 _ (List.getElem_mem hlm)
          have HA := Lib.hid hA
          clear hA
          rw [HA.out] at r2
          rw [val_eq] at l0
          have HT3 := Lib.hid (balL_take a es[j].lines m hlm)
          by_cases hx : es[j].lines[m].1 = a
          · have HX := Lib.hid hx
            rw [hx] at l0
            clear hx
            go_wp2_with fail
            go_roundw
            case rel =>
              refine ⟨by first | trivial | rfl, m + 1, ?_, by simp, by omega⟩
              rw [HT3.out, if_pos HX.out, Int.add_assoc]
            case measure => simp [intOf]; omega
          · have q1 := bytes_ne hx
            have q2 := bytes_ne' hx
            have HX := Lib.hid hx
            clear hx
            go_wp2_with fail
            go_roundw
            case rel =>
              refine ⟨by first | trivial | rfl, m + 1, ?_, by simp, by omega⟩
              rw [HT3.out, if_neg HX.out]
              simp
            case measure => simp [intOf]; omega
        · have hcm : ¬ (m : Int) < es[j].lines.length := by omega
          go_wp2_with fail
          go_roundw
          case rel =>
            refine ⟨by first | trivial | rfl, j + 1, ?_, by simp, by omega⟩
            rw [HT.out, List.getElem_map, show m = es[j].lines.length by omega, List.take_length]
            rfl
          case measure => simp [intOf]; omega
    · have hcl : ¬ (j : Int) < es.length := by omega
      have HK2 := Lib.hid (show bal a ((es.map En.key).take j) = bal a (es.map En.key) by rw [List.take_of_length_le (by simp; omega)])
      go_wp2_with fail
      go_ret
      exact ⟨by rw [← HK2.out]; rfl, rfl⟩
end Go.Proofs.YtipbmpakdcmdoaaDoor.LedgerAnew

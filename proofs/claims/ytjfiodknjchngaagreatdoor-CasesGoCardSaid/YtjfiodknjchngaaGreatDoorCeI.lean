/- Cases: slices.IndexFunc and slices.ContainsFunc with a function that turns the world; clones of texts, moves and steps. -/
import Derived.Test.YtjfiodknjchngaaGreatDoorCfT
namespace Go.Proofs.YtjfiodknjchngaaGreatDoor.Ce
open Go.RowKit Mem Nest Srs Cf Fk

/-- a function's answer, and how the world stands behind it -/
def Two (T F : World → Prop) (e : Ending) (w' : World) : Prop := (e = .returned (.bool true) ∧ T w') ∨ (e = .returned (.bool false) ∧ F w')
def At (n : Nat) (T : Nat → World → Prop) (F : World → Prop) (e : Ending) (w' : World) : Prop := (∃ k : Nat, k < n ∧ e = .returned (.int .i64 k) ∧ T k w') ∨ (e = .returned (.int .i64 (-1)) ∧ F w')
theorem str_row {w : World} {A : Option Addr} {l : List (List UInt8)} (h : Rd w A (Srs.strs l)) {k : Nat} (hk : k < l.length) : ∃ b o, A = some ⟨b, o, none⟩ ∧ w.cell? ⟨b, o + k, none⟩ = some (.string ⟨l[k].toArray⟩) := by
  obtain ⟨b, o, e, hc⟩ := h.at_ (k := k) (by simpa [Srs.strs] using hk)
  exact ⟨b, o, e, by simpa [Srs.strs, encStr] using hc⟩
def mvV (m : Mv) : Value := .agg #[.string ⟨m.name.toArray⟩, .string ⟨m.frm.toArray⟩, .string ⟨m.to_.toArray⟩, .string ⟨m.who.toArray⟩, .int .i64 m.n, .int .i64 m.u, .int .i64 m.r, .int .i64 m.most]
set_option maxRecDepth 100000 in
set_option maxHeartbeats 4000000 in
theorem idxs_any (g : Nat) (hg : ∀ (vs : Array Value) (w : World), (callFunc g vs).run Tryz.prog w = .ok (.enter g vs) w) (caps : Array Value) (l : List (List UInt8)) (hl : l.length ≤ 100000) (A : Option Addr) (c : Nat) (I T : Nat → World → Prop)
    (hr : ∀ k w, I k w → Rd w A (Srs.strs l))
    (hc : ∀ (k : Nat) (hk : k < l.length) w, I k w → Calls Tryz.prog g (#[.string ⟨l[k].toArray⟩] ++ caps) w (Two (T k) (I (k + 1)))) (w : World) (h0 : I 0 w) :
    Calls Tryz.prog 77 #[.slice A l.length c, .func (.func g) #[] caps] w (At l.length T (I l.length)) := by
  have HR := Lib.hid hr
  have HC := Lib.hid hc
  have H0 := Lib.hid h0
  clear hr hc h0
  go_enter Tryz.func77, Tryz.ntmps77
  go_wp2_with fail
  go_loopw [8] (fun i wr => ∃ k : Nat, i = .int .i64 k ∧ k ≤ l.length ∧ Hid (I k wr)) (fun i _ => l.length - (intOf i).toNat)
  case atStart => exact ⟨0, rfl, Nat.zero_le _, H0.out⟩
  case round =>
    obtain ⟨k, rfl, hk, HI⟩ := hrel
    by_cases hlt : k < l.length
    · have hcl : (k : Int) < (l.length : Int) := by omega
      have HK := Lib.hid (HC.out k hlt wr HI.out)
      obtain ⟨b, o, rfl, y0⟩ := str_row (HR.out k wr HI.out) hlt
      go_wp2_with fail
      refine HK.out.mono ?_
      rintro e w' (⟨rfl, ht⟩ | ⟨rfl, hi⟩)
      · have HT := Lib.hid ht
        clear ht y0
        go_wp2_with fail
        go_ret
        exact .inl ⟨k, hlt, rfl, HT.out⟩
      · have HI2 := Lib.hid hi
        clear hi y0
        go_wp2_with fail
        go_roundw
        case rel => exact ⟨k + 1, by go_num, by omega, HI2.out⟩
        case measure => show l.length - (k + 1) < l.length - k; omega
    · have hcl : ¬ (k : Int) < (l.length : Int) := by omega
      have e : k = l.length := by omega
      have HI2 := Lib.hid (show I l.length wr from e ▸ HI.out)
      clear e
      go_wp2_with fail
      go_ret
      exact .inr ⟨rfl, HI2.out⟩
theorem idxs_has (g : Nat) (hg : ∀ (vs : Array Value) (w : World), (callFunc g vs).run Tryz.prog w = .ok (.enter g vs) w) (caps : Array Value) (l : List (List UInt8)) (hl : l.length ≤ 100000) (A : Option Addr) (c : Nat) (I T : Nat → World → Prop)
    (hr : ∀ k w, I k w → Rd w A (Srs.strs l))
    (hc : ∀ (k : Nat) (hk : k < l.length) w, I k w → Calls Tryz.prog g (#[.string ⟨l[k].toArray⟩] ++ caps) w (Two (T k) (I (k + 1)))) (w : World) (h0 : I 0 w) :
    Calls Tryz.prog 43 #[.slice A l.length c, .func (.func g) #[] caps] w (Two (fun w' => ∃ k, k < l.length ∧ T k w') (I l.length)) := by
  have HI := Lib.hid (idxs_any g hg caps l hl A c I T hr hc w h0)
  clear hr hc h0
  go_enter Tryz.func43, Tryz.ntmps43
  go_wp2_with fail
  refine HI.out.mono ?_
  rintro e w' (⟨k, hk, rfl, ht⟩ | ⟨rfl, hi⟩)
  · have HT := Lib.hid ht
    clear ht HI
    have hk0 : (0 : Int) ≤ k := by omega
    go_wp2_with fail
    go_ret
    exact .inl ⟨rfl, k, hk, HT.out⟩
  · have HT := Lib.hid hi
    clear hi HI
    go_wp2_with fail
    go_ret
    exact .inr ⟨rfl, HT.out⟩
def FindS (B : List UInt8 → Bool) (l : List (List UInt8)) (w : World) : Ending → World → Prop := At l.length (fun k w' => Below w.heap.size w w' ∧ (l.take k).any B = false ∧ ∃ x, l[k]? = some x ∧ B x = true) (fun w' => Below w.heap.size w w' ∧ l.any B = false)
theorem idxs_find (g : Nat) (hg : ∀ (vs : Array Value) (w : World), (callFunc g vs).run Tryz.prog w = .ok (.enter g vs) w) (caps : Array Value) (l : List (List UInt8)) (hl : l.length ≤ 100000) (A : Option Addr) (c : Nat) (B : List UInt8 → Bool) (w : World) (hr : Rd w A (Srs.strs l))
    (hc : ∀ x ∈ l, ∀ w1, Below w.heap.size w w1 → Calls Tryz.prog g (#[.string ⟨x.toArray⟩] ++ caps) w1 fun e w' => e = .returned (.bool (B x)) ∧ Below w1.heap.size w1 w') :
    Calls Tryz.prog 77 #[.slice A l.length c, .func (.func g) #[] caps] w (FindS B l w) := by
  refine (idxs_any g hg caps l hl A c (fun k w' => Below w.heap.size w w' ∧ (l.take k).any B = false) (fun k w' => Below w.heap.size w w' ∧ (l.take k).any B = false ∧ ∃ x, l[k]? = some x ∧ B x = true) (fun k w1 h => hr.ext h.1) ?_ w ⟨Below.refl _ _, by simp⟩).mono ?_
  · intro k hk w1 ⟨hb, ha⟩
    refine (hc l[k] (List.getElem_mem hk) w1 hb).mono ?_
    rintro e w' ⟨rfl, hb2⟩
    cases hB : B l[k] with
    | true => exact .inl ⟨rfl, ext_trans hb hb2, ha, l[k], List.getElem?_eq_getElem hk, hB⟩
    | false => exact .inr ⟨rfl, ext_trans hb hb2, by rw [List.take_succ_eq_append_getElem hk, List.any_append, ha]; simp [hB]⟩
  · rintro e w' (⟨k, hk, rfl, h⟩ | ⟨rfl, hb, ha⟩)
    · exact .inl ⟨k, hk, rfl, h⟩
    · exact .inr ⟨rfl, hb, by rw [List.take_of_length_le (Nat.le_refl _)] at ha; exact ha⟩
theorem idxs_some (g : Nat) (hg : ∀ (vs : Array Value) (w : World), (callFunc g vs).run Tryz.prog w = .ok (.enter g vs) w) (caps : Array Value) (l : List (List UInt8)) (hl : l.length ≤ 100000) (A : Option Addr) (c : Nat) (B : List UInt8 → Bool) (w : World) (hr : Rd w A (Srs.strs l))
    (hc : ∀ x ∈ l, ∀ w1, Below w.heap.size w w1 → Calls Tryz.prog g (#[.string ⟨x.toArray⟩] ++ caps) w1 fun e w' => e = .returned (.bool (B x)) ∧ Below w1.heap.size w1 w') :
    Calls Tryz.prog 43 #[.slice A l.length c, .func (.func g) #[] caps] w fun e w' => e = .returned (.bool (l.any B)) ∧ Below w.heap.size w w' := by
  refine (idxs_has g hg caps l hl A c (fun k w' => Below w.heap.size w w' ∧ (l.take k).any B = false) (fun k w' => Below w.heap.size w w' ∧ ∃ x, l[k]? = some x ∧ B x = true) (fun k w1 h => hr.ext h.1) ?_ w ⟨Below.refl _ _, by simp⟩).mono ?_
  · intro k hk w1 ⟨hb, ha⟩
    refine (hc l[k] (List.getElem_mem hk) w1 hb).mono ?_
    rintro e w' ⟨rfl, hb2⟩
    cases hB : B l[k] with
    | true => exact .inl ⟨rfl, ext_trans hb hb2, l[k], List.getElem?_eq_getElem hk, hB⟩
    | false => exact .inr ⟨rfl, ext_trans hb hb2, by rw [List.take_succ_eq_append_getElem hk, List.any_append, ha]; simp [hB]⟩
  · rintro e w' (⟨rfl, k, hk, hb, x, hx, hB⟩ | ⟨rfl, hb, ha⟩)
    · have h : l.any B = true := List.any_eq_true.2 ⟨x, List.mem_of_getElem? hx, hB⟩
      exact ⟨by rw [h], hb⟩
    · rw [List.take_of_length_le (Nat.le_refl _)] at ha
      exact ⟨by rw [ha], hb⟩
set_option maxRecDepth 100000 in
set_option maxHeartbeats 4000000 in
theorem idxm_any (g : Nat) (hg : ∀ (vs : Array Value) (w : World), (callFunc g vs).run Tryz.prog w = .ok (.enter g vs) w) (caps : Array Value) (l : List (Mv)) (hl : l.length ≤ 100000) (A : Option Addr) (c : Nat) (I T : Nat → World → Prop)
    (hr : ∀ k w, I k w → Rd w A (l.flatMap mvCells))
    (hc : ∀ (k : Nat) (hk : k < l.length) w, I k w → Calls Tryz.prog g (#[mvV l[k]] ++ caps) w (Two (T k) (I (k + 1)))) (w : World) (h0 : I 0 w) :
    Calls Tryz.prog 58 #[.slice A l.length c, .func (.func g) #[] caps] w (At l.length T (I l.length)) := by
  have HR := Lib.hid hr
  have HC := Lib.hid hc
  have H0 := Lib.hid h0
  clear hr hc h0
  go_enter Tryz.func58, Tryz.ntmps58
  go_wp2_with fail
  go_loopw [8] (fun i wr => ∃ k : Nat, i = .int .i64 k ∧ k ≤ l.length ∧ Hid (I k wr)) (fun i _ => l.length - (intOf i).toNat)
  case atStart => exact ⟨0, rfl, Nat.zero_le _, H0.out⟩
  case round =>
    obtain ⟨k, rfl, hk, HI⟩ := hrel
    by_cases hlt : k < l.length
    · have hcl : (k : Int) < (l.length : Int) := by omega
      have HK := Lib.hid (HC.out k hlt wr HI.out)
      obtain ⟨b, o, rfl, hx⟩ := mv_at (HR.out k wr HI.out) hlt
      generalize l[k] = x at hx HK
      obtain ⟨xn, xf, xt, xw, x1, x2, x3, x4⟩ := x
      obtain ⟨c0, c1, c2, c3, c4, c5, c6, c7⟩ := hx
      simp only at c0 c1 c2 c3 c4 c5 c6 c7
      unfold mvV at HK
      simp only at HK
      go_wp2_with fail
      refine HK.out.mono ?_
      rintro e w' (⟨rfl, ht⟩ | ⟨rfl, hi⟩)
      · have HT := Lib.hid ht
        clear ht c0 c1 c2 c3 c4 c5 c6 c7
        go_wp2_with fail
        go_ret
        exact .inl ⟨k, hlt, rfl, HT.out⟩
      · have HI2 := Lib.hid hi
        clear hi c0 c1 c2 c3 c4 c5 c6 c7
        go_wp2_with fail
        go_roundw
        case rel => exact ⟨k + 1, by go_num, by omega, HI2.out⟩
        case measure => show l.length - (k + 1) < l.length - k; omega
    · have hcl : ¬ (k : Int) < (l.length : Int) := by omega
      have e : k = l.length := by omega
      have HI2 := Lib.hid (show I l.length wr from e ▸ HI.out)
      clear e
      go_wp2_with fail
      go_ret
      exact .inr ⟨rfl, HI2.out⟩
theorem idxm_has (g : Nat) (hg : ∀ (vs : Array Value) (w : World), (callFunc g vs).run Tryz.prog w = .ok (.enter g vs) w) (caps : Array Value) (l : List (Mv)) (hl : l.length ≤ 100000) (A : Option Addr) (c : Nat) (I T : Nat → World → Prop)
    (hr : ∀ k w, I k w → Rd w A (l.flatMap mvCells))
    (hc : ∀ (k : Nat) (hk : k < l.length) w, I k w → Calls Tryz.prog g (#[mvV l[k]] ++ caps) w (Two (T k) (I (k + 1)))) (w : World) (h0 : I 0 w) :
    Calls Tryz.prog 46 #[.slice A l.length c, .func (.func g) #[] caps] w (Two (fun w' => ∃ k, k < l.length ∧ T k w') (I l.length)) := by
  have HI := Lib.hid (idxm_any g hg caps l hl A c I T hr hc w h0)
  clear hr hc h0
  go_enter Tryz.func46, Tryz.ntmps46
  go_wp2_with fail
  refine HI.out.mono ?_
  rintro e w' (⟨k, hk, rfl, ht⟩ | ⟨rfl, hi⟩)
  · have HT := Lib.hid ht
    clear ht HI
    have hk0 : (0 : Int) ≤ k := by omega
    go_wp2_with fail
    go_ret
    exact .inl ⟨rfl, k, hk, HT.out⟩
  · have HT := Lib.hid hi
    clear hi HI
    go_wp2_with fail
    go_ret
    exact .inr ⟨rfl, HT.out⟩
def FindM (B : Mv → Bool) (l : List (Mv)) (w : World) : Ending → World → Prop := At l.length (fun k w' => Below w.heap.size w w' ∧ (l.take k).any B = false ∧ ∃ x, l[k]? = some x ∧ B x = true) (fun w' => Below w.heap.size w w' ∧ l.any B = false)
theorem idxm_find (g : Nat) (hg : ∀ (vs : Array Value) (w : World), (callFunc g vs).run Tryz.prog w = .ok (.enter g vs) w) (caps : Array Value) (l : List (Mv)) (hl : l.length ≤ 100000) (A : Option Addr) (c : Nat) (B : Mv → Bool) (w : World) (hr : Rd w A (l.flatMap mvCells))
    (hc : ∀ x ∈ l, ∀ w1, Below w.heap.size w w1 → Calls Tryz.prog g (#[mvV x] ++ caps) w1 fun e w' => e = .returned (.bool (B x)) ∧ Below w1.heap.size w1 w') :
    Calls Tryz.prog 58 #[.slice A l.length c, .func (.func g) #[] caps] w (FindM B l w) := by
  refine (idxm_any g hg caps l hl A c (fun k w' => Below w.heap.size w w' ∧ (l.take k).any B = false) (fun k w' => Below w.heap.size w w' ∧ (l.take k).any B = false ∧ ∃ x, l[k]? = some x ∧ B x = true) (fun k w1 h => hr.ext h.1) ?_ w ⟨Below.refl _ _, by simp⟩).mono ?_
  · intro k hk w1 ⟨hb, ha⟩
    refine (hc l[k] (List.getElem_mem hk) w1 hb).mono ?_
    rintro e w' ⟨rfl, hb2⟩
    cases hB : B l[k] with
    | true => exact .inl ⟨rfl, ext_trans hb hb2, ha, l[k], List.getElem?_eq_getElem hk, hB⟩
    | false => exact .inr ⟨rfl, ext_trans hb hb2, by rw [List.take_succ_eq_append_getElem hk, List.any_append, ha]; simp [hB]⟩
  · rintro e w' (⟨k, hk, rfl, h⟩ | ⟨rfl, hb, ha⟩)
    · exact .inl ⟨k, hk, rfl, h⟩
    · exact .inr ⟨rfl, hb, by rw [List.take_of_length_le (Nat.le_refl _)] at ha; exact ha⟩
theorem idxm_some (g : Nat) (hg : ∀ (vs : Array Value) (w : World), (callFunc g vs).run Tryz.prog w = .ok (.enter g vs) w) (caps : Array Value) (l : List (Mv)) (hl : l.length ≤ 100000) (A : Option Addr) (c : Nat) (B : Mv → Bool) (w : World) (hr : Rd w A (l.flatMap mvCells))
    (hc : ∀ x ∈ l, ∀ w1, Below w.heap.size w w1 → Calls Tryz.prog g (#[mvV x] ++ caps) w1 fun e w' => e = .returned (.bool (B x)) ∧ Below w1.heap.size w1 w') :
    Calls Tryz.prog 46 #[.slice A l.length c, .func (.func g) #[] caps] w fun e w' => e = .returned (.bool (l.any B)) ∧ Below w.heap.size w w' := by
  refine (idxm_has g hg caps l hl A c (fun k w' => Below w.heap.size w w' ∧ (l.take k).any B = false) (fun k w' => Below w.heap.size w w' ∧ ∃ x, l[k]? = some x ∧ B x = true) (fun k w1 h => hr.ext h.1) ?_ w ⟨Below.refl _ _, by simp⟩).mono ?_
  · intro k hk w1 ⟨hb, ha⟩
    refine (hc l[k] (List.getElem_mem hk) w1 hb).mono ?_
    rintro e w' ⟨rfl, hb2⟩
    cases hB : B l[k] with
    | true => exact .inl ⟨rfl, ext_trans hb hb2, l[k], List.getElem?_eq_getElem hk, hB⟩
    | false => exact .inr ⟨rfl, ext_trans hb hb2, by rw [List.take_succ_eq_append_getElem hk, List.any_append, ha]; simp [hB]⟩
  · rintro e w' (⟨rfl, k, hk, hb, x, hx, hB⟩ | ⟨rfl, hb, ha⟩)
    · have h : l.any B = true := List.any_eq_true.2 ⟨x, List.mem_of_getElem? hx, hB⟩
      exact ⟨by rw [h], hb⟩
    · rw [List.take_of_length_le (Nat.le_refl _)] at ha
      exact ⟨by rw [ha], hb⟩
def IxPost (b : Bool) (w : World) (e : Ending) (w' : World) : Prop := ((∃ k : Nat, b = true ∧ e = .returned (.int .i64 k)) ∨ (b = false ∧ e = .returned (.int .i64 (-1)))) ∧ w = w'
set_option maxRecDepth 100000 in
set_option maxHeartbeats 2000000 in
theorem hass_any (l : List (List UInt8)) (hl : l.length ≤ 100000) (A : Option Addr) (c : Nat) (d : List UInt8) (w : World) (hr : Rd w A (Srs.strs l)) :
    Calls Tryz.prog 49 #[.slice A l.length c, .string ⟨d.toArray⟩] w fun e w' => e = .returned (.bool (l.contains d)) ∧ w = w' := by
  obtain ⟨q, hq⟩ : ∃ q, q = l.contains d := ⟨_, rfl⟩
  rw [← hq]
  have HQ := Lib.hid hq
  clear hq
  have hi : Calls Tryz.prog 80 #[.slice A l.length c, .string ⟨d.toArray⟩] w (IxPost q w) := by
    have HR := Lib.hid hr
    clear hr
    go_enter Tryz.func80, Tryz.ntmps80
    go_wp2_with fail
    go_loopw [8] (fun i wr => ∃ k : Nat, i = .int .i64 k ∧ k ≤ l.length ∧ wr = w ∧ Hid ((l.take k).contains d = false)) (fun i _ => l.length - (intOf i).toNat)
    case atStart => exact ⟨0, rfl, Nat.zero_le _, rfl, by show _ = _; simp⟩
    case round =>
      obtain ⟨k, rfl, hk, rfl, HN⟩ := hrel
      by_cases hlt : k < l.length
      · have hcl : (k : Int) < (l.length : Int) := by omega
        have HT := Lib.hid (show l.take (k + 1) = l.take k ++ [l[k]] from List.take_succ_eq_append_getElem hlt)
        have HM := Lib.hid (List.getElem_mem hlt)
        obtain ⟨b, o, rfl, y0⟩ := str_row HR.out hlt
        generalize l[k] = x at *
        by_cases hx : x = d
        · have HY := Lib.hid (show q = true from by rw [HQ.out, List.contains_iff_mem]; exact hx ▸ HM.out)
          subst hx
          go_wp2_with fail
          go_ret
          exact ⟨.inl ⟨k, HY.out, rfl⟩, rfl⟩
        · have hx' : (d == x) = false := by simp only [beq_eq_false_iff_ne]; exact fun e => hx e.symm
          have HN2 := Lib.hid (show (l.take (k + 1)).contains d = false from by
            have h1 := HN.out
            rw [HT.out]
            simp only [List.contains_eq_mem, List.mem_append, List.mem_singleton, decide_eq_false_iff_not, not_or] at h1 ⊢
            exact ⟨h1, fun e => hx e.symm⟩)
          clear hx
          go_wp2_with fail
          go_roundw
          case rel => exact ⟨k + 1, by go_num, by omega, by trivial, HN2.out⟩
          case measure => show l.length - (k + 1) < l.length - k; omega
      · have hcl : ¬ (k : Int) < (l.length : Int) := by omega
        have HN2 := Lib.hid (show q = false from by have h1 := HN.out; rw [List.take_of_length_le (by omega)] at h1; rw [HQ.out]; exact h1)
        go_wp2_with fail
        go_ret
        exact ⟨.inr ⟨HN2.out, rfl⟩, rfl⟩
  have HI := Lib.hid hi
  clear hi hr
  go_enter Tryz.func49, Tryz.ntmps49
  go_wp2_with fail
  refine HI.out.mono ?_
  rintro e w' ⟨⟨k, hc, rfl⟩ | ⟨hc, rfl⟩, rfl⟩
  · have hk0 : (0 : Int) ≤ k := by omega
    have HC := Lib.hid hc
    clear hc
    go_wp2_with fail
    go_ret
    exact ⟨by rw [HC.out]; rfl, rfl⟩
  · have HC := Lib.hid hc
    clear hc
    go_wp2_with fail
    go_ret
    exact ⟨by rw [HC.out]; rfl, rfl⟩
theorem str_infoS : (Tryz.prog.info? 9).map (fun i => (i.zero, i.size, i.bytes)) = some (some (.string ByteArray.empty), 1, 16) := by kernel_rfl
set_option maxRecDepth 100000 in
set_option maxHeartbeats 2000000 in
theorem cloneS_any (zs : List (List UInt8)) (hl : zs.length ≤ 10000) (A : Option Addr) (c : Nat) (w : World) (hr : Rd w A (Srs.strs zs)) :
    Calls Tryz.prog 36 #[.slice A zs.length c] w fun e w' => (∃ (A' : Option Addr) (c' : Nat), e = .returned (.slice A' zs.length c') ∧ RdK w' 9 A' (Srs.strs zs) ∧ (A' = none → c' = 0) ∧ zs.length ≤ c') ∧ Below w.heap.size w w' := by
  have HR := Lib.hid hr
  clear hr
  obtain ⟨i0, hi, hz0, hz1, hz2⟩ := info_parts str_infoS
  have HI := Lib.hid hi
  have HZ0 := Lib.hid hz0
  have HZ1 := Lib.hid hz1
  have HZ2 := Lib.hid hz2
  clear hi hz0 hz1 hz2
  have HNil : A = none → zs = [] := fun h => by
    subst h
    cases zs with
    | nil => rfl
    | cons e es => obtain ⟨_, _, h, _⟩ := HR.out 0 _ rfl; cases h
  have q : ∀ (w : World) (a : Option Addr) (n c n' c' : Nat), (binOp .eql 39 (.slice a n c) (.slice none n' c')).run Tryz.prog w = .ok (.bool a.isNone) w := fun w a n c n' c' => Lib.run_eql_slice_nil w _ _ a n c n' c' Tryz.underlying39
  cases A with
  | none =>
    obtain rfl := HNil rfl
    clear HNil
    go_enter Tryz.func36, Tryz.ntmps36
    go_wp2_with fail
    go_ret
    exact ⟨⟨none, 0, rfl, RdK.nil, fun _ => rfl, Nat.le_refl _⟩, Below.refl _ _⟩
  | some a =>
    clear HNil
    go_enter Tryz.func36, Tryz.ntmps36
    go_wp2_with (at_builtin; refine wpList_append_own _ rfl _ _ 39 rfl w.heap.size 9 i0 _ 1 16 Tryz.underlying39 HI.out HZ0.out HZ1.out HZ2.out rfl (by omega) _ _ _ rfl (World.ownsRow_made w #[] 0 (Nat.le_refl _) (Nat.zero_le _) (by simp)) a zs.length c (Srs.strs zs) rfl ?qc1 ?qc2 ?qc3 ?qc4 ?qc5 ?qc6 ?_)
    case qc1 => simp [Srs.strs]
    case qc2 =>
      intro j u hj
      obtain ⟨b, o, e, hc⟩ := HR.out j u hj
      obtain rfl := Option.some.inj e
      rw [show (⟨b, o, none⟩ : Addr).add j = ⟨b, o + j, none⟩ from Addr.add_lit _ _ _]
      exact Lib.cell?_alloc_some _ hc
    case qc3 => exact strs_one zs
    case qc4 => rw [Nat.zero_add]; simp only [maxLen]; omega
    case qc5 => rw [Nat.zero_add]; omega
    case qc6 => simp
    intro v' w1 hown hgrow hnil
    obtain ⟨A', c', rfl, hc1, _⟩ := own_slice hown
    have HC1 := Lib.hid (show A' = none → c' = 0 from fun h => by
      subst h
      rcases hown.2 with ⟨h1, _⟩ | ⟨g, cap, cur, h1, _⟩
      · simp only [Value.slice.injEq] at h1
        exact h1.2.2
      · cases h1)
    have HO := Lib.hid hown
    have HL1 := Lib.hid hc1
    have HB := Lib.hid (show Below w.heap.size w w1 from ((Below.refl _ w).alloc (Nat.le_refl _) _).grown hgrow (by simp) (by intro k hk; simp [Value.ownBlock] at hk; omega))
    clear hown hgrow hnil hc1
    go_wp2_with fail
    go_ret
    have h := RdK.of_own HO.out
    exact ⟨⟨A', c', rfl, by simpa using h, HC1.out, by have := HL1.out; omega⟩, HB.out⟩
theorem one_of {l : List Value} {k : Nat} (h : (l.map Value.oneCell') = List.replicate k true) : ∀ u ∈ l, u.oneCell' = true := fun u hu => by
  have h2 : u.oneCell' ∈ l.map Value.oneCell' := List.mem_map_of_mem hu
  rw [h] at h2
  exact (List.mem_replicate.1 h2).2
theorem mv_infoM : (Tryz.prog.info? 106).map (fun i => (i.zero, i.size, i.bytes)) = some (some (.agg #[.string ⟨#[]⟩, .string ⟨#[]⟩, .string ⟨#[]⟩, .string ⟨#[]⟩, .int .i64 0, .int .i64 0, .int .i64 0, .int .i64 0]), 8, 96) := by kernel_rfl
set_option maxRecDepth 100000 in
set_option maxHeartbeats 2000000 in
theorem cloneM_any (zs : List (Mv)) (hl : zs.length ≤ 10000) (A : Option Addr) (c : Nat) (w : World) (hr : Rd w A (zs.flatMap mvCells)) :
    Calls Tryz.prog 37 #[.slice A zs.length c] w fun e w' => (∃ (A' : Option Addr) (c' : Nat), e = .returned (.slice A' zs.length c') ∧ RdK w' 106 A' (zs.flatMap mvCells) ∧ (A' = none → c' = 0) ∧ zs.length ≤ c') ∧ Below w.heap.size w w' := by
  have HR := Lib.hid hr
  clear hr
  obtain ⟨i0, hi, hz0, hz1, hz2⟩ := info_parts mv_infoM
  have HI := Lib.hid hi
  have HZ0 := Lib.hid hz0
  have HZ1 := Lib.hid hz1
  have HZ2 := Lib.hid hz2
  clear hi hz0 hz1 hz2
  have HNil : A = none → zs = [] := fun h => by
    subst h
    cases zs with
    | nil => rfl
    | cons e es => obtain ⟨_, _, h, _⟩ := HR.out 0 _ rfl; cases h
  have q : ∀ (w : World) (a : Option Addr) (n c n' c' : Nat), (binOp .eql 40 (.slice a n c) (.slice none n' c')).run Tryz.prog w = .ok (.bool a.isNone) w := fun w a n c n' c' => Lib.run_eql_slice_nil w _ _ a n c n' c' Tryz.underlying40
  cases A with
  | none =>
    obtain rfl := HNil rfl
    clear HNil
    go_enter Tryz.func37, Tryz.ntmps37
    go_wp2_with fail
    go_ret
    exact ⟨⟨none, 0, rfl, RdK.nil, fun _ => rfl, Nat.le_refl _⟩, Below.refl _ _⟩
  | some a =>
    clear HNil
    go_enter Tryz.func37, Tryz.ntmps37
    go_wp2_with (at_builtin; refine wpList_append_own _ rfl _ _ 40 rfl w.heap.size 106 i0 _ 8 96 Tryz.underlying40 HI.out HZ0.out HZ1.out HZ2.out rfl (by omega) _ _ _ rfl (World.ownsRow_made w #[] 0 (Nat.le_refl _) (Nat.zero_le _) (by simp)) a zs.length c (zs.flatMap mvCells) rfl ?qc1 ?qc2 ?qc3 ?qc4 ?qc5 ?qc6 ?_)
    case qc1 => exact flat_len mvCells_len zs
    case qc2 =>
      intro j u hj
      obtain ⟨b, o, e, hc⟩ := HR.out j u hj
      obtain rfl := Option.some.inj e
      rw [show (⟨b, o, none⟩ : Addr).add j = ⟨b, o + j, none⟩ from Addr.add_lit _ _ _]
      exact Lib.cell?_alloc_some _ hc
    case qc3 => 
      intro u hu
      obtain ⟨e, _, he⟩ := List.mem_flatMap.1 hu
      exact one_of (k := 8) rfl u he
    case qc4 => rw [Nat.zero_add]; simp only [maxLen]; omega
    case qc5 => rw [Nat.zero_add]; omega
    case qc6 => simp
    intro v' w1 hown hgrow hnil
    obtain ⟨A', c', rfl, hc1, _⟩ := own_slice hown
    have HC1 := Lib.hid (show A' = none → c' = 0 from fun h => by
      subst h
      rcases hown.2 with ⟨h1, _⟩ | ⟨g, cap, cur, h1, _⟩
      · simp only [Value.slice.injEq] at h1
        exact h1.2.2
      · cases h1)
    have HO := Lib.hid hown
    have HL1 := Lib.hid hc1
    have HB := Lib.hid (show Below w.heap.size w w1 from ((Below.refl _ w).alloc (Nat.le_refl _) _).grown hgrow (by simp) (by intro k hk; simp [Value.ownBlock] at hk; omega))
    clear hown hgrow hnil hc1
    go_wp2_with fail
    go_ret
    have h := RdK.of_own HO.out
    exact ⟨⟨A', c', rfl, by simpa using h, HC1.out, by have := HL1.out; omega⟩, HB.out⟩
structure St where
  mv : List UInt8
  who : List UInt8
  day : Int
def stCells (s : St) : List Value := [.string ⟨s.mv.toArray⟩, .string ⟨s.who.toArray⟩, .int .i64 s.day]
theorem stCells_len (s : St) : (stCells s).length = 3 := rfl
theorem st_infoT : (Tryz.prog.info? 60).map (fun i => (i.zero, i.size, i.bytes)) = some (some (.agg #[.string ⟨#[]⟩, .string ⟨#[]⟩, .int .i64 0]), 3, 40) := by kernel_rfl
set_option maxRecDepth 100000 in
set_option maxHeartbeats 2000000 in
theorem cloneT_any (zs : List (St)) (hl : zs.length ≤ 10000) (A : Option Addr) (c : Nat) (w : World) (hr : Rd w A (zs.flatMap stCells)) :
    Calls Tryz.prog 60 #[.slice A zs.length c] w fun e w' => (∃ (A' : Option Addr) (c' : Nat), e = .returned (.slice A' zs.length c') ∧ RdK w' 60 A' (zs.flatMap stCells) ∧ (A' = none → c' = 0) ∧ zs.length ≤ c') ∧ Below w.heap.size w w' := by
  have HR := Lib.hid hr
  clear hr
  obtain ⟨i0, hi, hz0, hz1, hz2⟩ := info_parts st_infoT
  have HI := Lib.hid hi
  have HZ0 := Lib.hid hz0
  have HZ1 := Lib.hid hz1
  have HZ2 := Lib.hid hz2
  clear hi hz0 hz1 hz2
  have HNil : A = none → zs = [] := fun h => by
    subst h
    cases zs with
    | nil => rfl
    | cons e es => obtain ⟨_, _, h, _⟩ := HR.out 0 _ rfl; cases h
  have q : ∀ (w : World) (a : Option Addr) (n c n' c' : Nat), (binOp .eql 62 (.slice a n c) (.slice none n' c')).run Tryz.prog w = .ok (.bool a.isNone) w := fun w a n c n' c' => Lib.run_eql_slice_nil w _ _ a n c n' c' Tryz.underlying62
  cases A with
  | none =>
    obtain rfl := HNil rfl
    clear HNil
    go_enter Tryz.func60, Tryz.ntmps60
    go_wp2_with fail
    go_ret
    exact ⟨⟨none, 0, rfl, RdK.nil, fun _ => rfl, Nat.le_refl _⟩, Below.refl _ _⟩
  | some a =>
    clear HNil
    go_enter Tryz.func60, Tryz.ntmps60
    go_wp2_with (at_builtin; refine wpList_append_own _ rfl _ _ 62 rfl w.heap.size 60 i0 _ 3 40 Tryz.underlying62 HI.out HZ0.out HZ1.out HZ2.out rfl (by omega) _ _ _ rfl (World.ownsRow_made w #[] 0 (Nat.le_refl _) (Nat.zero_le _) (by simp)) a zs.length c (zs.flatMap stCells) rfl ?qc1 ?qc2 ?qc3 ?qc4 ?qc5 ?qc6 ?_)
    case qc1 => exact flat_len stCells_len zs
    case qc2 =>
      intro j u hj
      obtain ⟨b, o, e, hc⟩ := HR.out j u hj
      obtain rfl := Option.some.inj e
      rw [show (⟨b, o, none⟩ : Addr).add j = ⟨b, o + j, none⟩ from Addr.add_lit _ _ _]
      exact Lib.cell?_alloc_some _ hc
    case qc3 => 
      intro u hu
      obtain ⟨e, _, he⟩ := List.mem_flatMap.1 hu
      exact one_of (k := 3) rfl u he
    case qc4 => rw [Nat.zero_add]; simp only [maxLen]; omega
    case qc5 => rw [Nat.zero_add]; omega
    case qc6 => simp
    intro v' w1 hown hgrow hnil
    obtain ⟨A', c', rfl, hc1, _⟩ := own_slice hown
    have HC1 := Lib.hid (show A' = none → c' = 0 from fun h => by
      subst h
      rcases hown.2 with ⟨h1, _⟩ | ⟨g, cap, cur, h1, _⟩
      · simp only [Value.slice.injEq] at h1
        exact h1.2.2
      · cases h1)
    have HO := Lib.hid hown
    have HL1 := Lib.hid hc1
    have HB := Lib.hid (show Below w.heap.size w w1 from ((Below.refl _ w).alloc (Nat.le_refl _) _).grown hgrow (by simp) (by intro k hk; simp [Value.ownBlock] at hk; omega))
    clear hown hgrow hnil hc1
    go_wp2_with fail
    go_ret
    have h := RdK.of_own HO.out
    exact ⟨⟨A', c', rfl, by simpa using h, HC1.out, by have := HL1.out; omega⟩, HB.out⟩
end Go.Proofs.YtjfiodknjchngaaGreatDoor.Ce

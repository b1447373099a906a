/- LedgerKeeps: slices.IndexFunc, ContainsFunc, Clone of lines; Clone of entries. -/
import Derived.Test.YtdnhfcphmbhloaaGreatDoorLkS
namespace Go.Proofs.YtdnhfcphmbhloaaGreatDoor.Lk
open Go.RowKit Mem Nest Fk Msi Err

set_option maxRecDepth 100000 in
set_option maxHeartbeats 4000000 in
theorem idxl_any (g : Nat) (hg : ∀ (vs : Array Value) (w : World), (callFunc g vs).run Tryz.prog w = .ok (.enter g vs) w) (caps : Array Value) (l : List (Ln)) (hl : l.length ≤ 100000) (A : Option Addr) (c : Nat) (I T : Nat → World → Prop)
    (hr : ∀ k w, I k w → Rd w A (l.flatMap lnCells))
    (hc : ∀ (k : Nat) (hk : k < l.length) w, I k w → Calls Tryz.prog g (#[.agg #[.string ⟨(l[k]).1.toArray⟩, .int .i64 (l[k]).2]] ++ caps) w (Two (T k) (I (k + 1)))) (w : World) (h0 : I 0 w) :
    Calls Tryz.prog 91 #[.slice A l.length c, .func (.func g) #[] caps] w (At l.length T (I l.length)) := by
  have HR := Lib.hid hr
  have HC := Lib.hid hc
  have H0 := Lib.hid h0
  clear hr hc h0
  go_enter Tryz.func91, Tryz.ntmps91
  go_wp2_with fail
  go_loopw [8] (fun i wr => ∃ k : Nat, i = .int .i64 k ∧ k ≤ l.length ∧ Hid (I k wr)) (fun i _ => l.length - (intOf i).toNat)
  case atStart => exact ⟨0, rfl, Nat.zero_le _, H0.out⟩
  case round =>
    obtain ⟨k, rfl, hk, HI⟩ := hrel
    by_cases hlt : k < l.length
    · have hcl : (k : Int) < (l.length : Int) := by omega
      have HK := Lib.hid (HC.out k hlt wr HI.out)
      obtain ⟨b, o, rfl, y0, y1⟩ := ln_at (HR.out k wr HI.out) hlt
      generalize l[k] = z at y0 y1 HK
      obtain ⟨z0, z1⟩ := z
      simp only at y0 y1 HK
      go_wp2_with fail
      refine HK.out.mono ?_
      rintro e w' (⟨rfl, ht⟩ | ⟨rfl, hi⟩)
      · have HT := Lib.hid ht
        clear ht y0 y1
        go_wp2_with fail
        go_ret
        exact .inl ⟨k, hlt, rfl, HT.out⟩
      · have HI2 := Lib.hid hi
        clear hi y0 y1
        go_wp2_with fail
        go_roundw
        case rel => exact ⟨k + 1, by go_num, by omega, HI2.out⟩
        case measure => show l.length - (k + 1) < l.length - k; omega
    · have hcl : ¬ (k : Int) < (l.length : Int) := by omega
      have e : k = l.length := by omega
      have HI2 := Lib.hid (show I l.length wr from e ▸ HI.out)
      clear e
      go_wp2_with fail
      go_ret
      exact .inr ⟨rfl, HI2.out⟩
theorem idxl_has (g : Nat) (hg : ∀ (vs : Array Value) (w : World), (callFunc g vs).run Tryz.prog w = .ok (.enter g vs) w) (caps : Array Value) (l : List (Ln)) (hl : l.length ≤ 100000) (A : Option Addr) (c : Nat) (I T : Nat → World → Prop)
    (hr : ∀ k w, I k w → Rd w A (l.flatMap lnCells))
    (hc : ∀ (k : Nat) (hk : k < l.length) w, I k w → Calls Tryz.prog g (#[.agg #[.string ⟨(l[k]).1.toArray⟩, .int .i64 (l[k]).2]] ++ caps) w (Two (T k) (I (k + 1)))) (w : World) (h0 : I 0 w) :
    Calls Tryz.prog 43 #[.slice A l.length c, .func (.func g) #[] caps] w (Two (fun w' => ∃ k, k < l.length ∧ T k w') (I l.length)) := by
  have HI := Lib.hid (idxl_any g hg caps l hl A c I T hr hc w h0)
  clear hr hc h0
  go_enter Tryz.func43, Tryz.ntmps43
  go_wp2_with fail
  refine HI.out.mono ?_
  rintro e w' (⟨k, hk, rfl, ht⟩ | ⟨rfl, hi⟩)
  · have HT := Lib.hid ht
    clear ht HI
    have hk0 : (0 : Int) ≤ k := by omega
    go_wp2_with fail
    go_ret
    exact .inl ⟨rfl, k, hk, HT.out⟩
  · have HT := Lib.hid hi
    clear hi HI
    go_wp2_with fail
    go_ret
    exact .inr ⟨rfl, HT.out⟩
def FindL (B : Ln → Bool) (l : List (Ln)) (w : World) : Ending → World → Prop := At l.length (fun k w' => Below w.heap.size w w' ∧ (l.take k).any B = false ∧ ∃ x, l[k]? = some x ∧ B x = true) (fun w' => Below w.heap.size w w' ∧ l.any B = false)
theorem idxl_find (g : Nat) (hg : ∀ (vs : Array Value) (w : World), (callFunc g vs).run Tryz.prog w = .ok (.enter g vs) w) (caps : Array Value) (l : List (Ln)) (hl : l.length ≤ 100000) (A : Option Addr) (c : Nat) (B : Ln → Bool) (w : World) (hr : Rd w A (l.flatMap lnCells))
    (hc : ∀ x ∈ l, ∀ w1, Below w.heap.size w w1 → Calls Tryz.prog g (#[.agg #[.string ⟨x.1.toArray⟩, .int .i64 x.2]] ++ caps) w1 fun e w' => e = .returned (.bool (B x)) ∧ Below w1.heap.size w1 w') :
    Calls Tryz.prog 91 #[.slice A l.length c, .func (.func g) #[] caps] w (FindL B l w) := by
  refine (idxl_any g hg caps l hl A c (fun k w' => Below w.heap.size w w' ∧ (l.take k).any B = false) (fun k w' => Below w.heap.size w w' ∧ (l.take k).any B = false ∧ ∃ x, l[k]? = some x ∧ B x = true) (fun k w1 h => hr.ext h.1) ?_ w ⟨Below.refl _ _, by simp⟩).mono ?_
  · intro k hk w1 ⟨hb, ha⟩
    refine (hc l[k] (List.getElem_mem hk) w1 hb).mono ?_
    rintro e w' ⟨rfl, hb2⟩
    cases hB : B l[k] with
    | true => exact .inl ⟨rfl, ext_trans hb hb2, ha, l[k], List.getElem?_eq_getElem hk, hB⟩
    | false => exact .inr ⟨rfl, ext_trans hb hb2, by rw [List.take_succ_eq_append_getElem hk, List.any_append, ha]; simp [hB]⟩
  · rintro e w' (⟨k, hk, rfl, h⟩ | ⟨rfl, hb, ha⟩)
    · exact .inl ⟨k, hk, rfl, h⟩
    · exact .inr ⟨rfl, hb, by rw [List.take_of_length_le (Nat.le_refl _)] at ha; exact ha⟩
theorem idxl_some (g : Nat) (hg : ∀ (vs : Array Value) (w : World), (callFunc g vs).run Tryz.prog w = .ok (.enter g vs) w) (caps : Array Value) (l : List (Ln)) (hl : l.length ≤ 100000) (A : Option Addr) (c : Nat) (B : Ln → Bool) (w : World) (hr : Rd w A (l.flatMap lnCells))
    (hc : ∀ x ∈ l, ∀ w1, Below w.heap.size w w1 → Calls Tryz.prog g (#[.agg #[.string ⟨x.1.toArray⟩, .int .i64 x.2]] ++ caps) w1 fun e w' => e = .returned (.bool (B x)) ∧ Below w1.heap.size w1 w') :
    Calls Tryz.prog 43 #[.slice A l.length c, .func (.func g) #[] caps] w fun e w' => e = .returned (.bool (l.any B)) ∧ Below w.heap.size w w' := by
  refine (idxl_has g hg caps l hl A c (fun k w' => Below w.heap.size w w' ∧ (l.take k).any B = false) (fun k w' => Below w.heap.size w w' ∧ ∃ x, l[k]? = some x ∧ B x = true) (fun k w1 h => hr.ext h.1) ?_ w ⟨Below.refl _ _, by simp⟩).mono ?_
  · intro k hk w1 ⟨hb, ha⟩
    refine (hc l[k] (List.getElem_mem hk) w1 hb).mono ?_
    rintro e w' ⟨rfl, hb2⟩
    cases hB : B l[k] with
    | true => exact .inl ⟨rfl, ext_trans hb hb2, l[k], List.getElem?_eq_getElem hk, hB⟩
    | false => exact .inr ⟨rfl, ext_trans hb hb2, by rw [List.take_succ_eq_append_getElem hk, List.any_append, ha]; simp [hB]⟩
  · rintro e w' (⟨rfl, k, hk, hb, x, hx, hB⟩ | ⟨rfl, hb, ha⟩)
    · have h : l.any B = true := List.any_eq_true.2 ⟨x, List.mem_of_getElem? hx, hB⟩
      exact ⟨by rw [h], hb⟩
    · rw [List.take_of_length_le (Nat.le_refl _)] at ha
      exact ⟨by rw [ha], hb⟩
theorem ln_infoC : (Tryz.prog.info? 49).map (fun i => (i.zero, i.size, i.bytes)) = some (some (.agg #[.string ⟨#[]⟩, .int .i64 0]), 2, 24) := by kernel_rfl
set_option maxRecDepth 100000 in
set_option maxHeartbeats 2000000 in
theorem cloneL_any (zs : List (Ln)) (hl : zs.length ≤ 10000) (A : Option Addr) (c : Nat) (w : World) (hr : Rd w A (zs.flatMap lnCells)) :
    Calls Tryz.prog 47 #[.slice A zs.length c] w fun e w' => (∃ (A' : Option Addr) (c' : Nat), e = .returned (.slice A' zs.length c') ∧ RdK w' 49 A' (zs.flatMap lnCells) ∧ (A' = none → c' = 0) ∧ zs.length ≤ c') ∧ Below w.heap.size w w' := by
  have HR := Lib.hid hr
  clear hr
  obtain ⟨i0, hi, hz0, hz1, hz2⟩ := info_parts ln_infoC
  have HI := Lib.hid hi
  have HZ0 := Lib.hid hz0
  have HZ1 := Lib.hid hz1
  have HZ2 := Lib.hid hz2
  clear hi hz0 hz1 hz2
  have HNil : A = none → zs = [] := fun h => by
    subst h
    cases zs with
    | nil => rfl
    | cons e es => obtain ⟨_, _, h, _⟩ := HR.out 0 _ rfl; cases h
  have q : ∀ (w : World) (a : Option Addr) (n c n' c' : Nat), (binOp .eql 34 (.slice a n c) (.slice none n' c')).run Tryz.prog w = .ok (.bool a.isNone) w := fun w a n c n' c' => Lib.run_eql_slice_nil w _ _ a n c n' c' Tryz.underlying34
  cases A with
  | none =>
    obtain rfl := HNil rfl
    clear HNil
    go_enter Tryz.func47, Tryz.ntmps47
    go_wp2_with fail
    go_ret
    exact ⟨⟨none, 0, rfl, RdK.nil, fun _ => rfl, Nat.le_refl _⟩, Below.refl _ _⟩
  | some a =>
    clear HNil
    go_enter Tryz.func47, Tryz.ntmps47
    go_wp2_with (at_builtin; refine wpList_append_own _ rfl _ _ 34 rfl w.heap.size 49 i0 _ 2 24 Tryz.underlying34 HI.out HZ0.out HZ1.out HZ2.out rfl (by omega) _ _ _ rfl (World.ownsRow_made w #[] 0 (Nat.le_refl _) (Nat.zero_le _) (by simp)) a zs.length c (zs.flatMap lnCells) rfl ?qc1 ?qc2 ?qc3 ?qc4 ?qc5 ?qc6 ?_)
    case qc1 => exact flat_len lnCells_len zs
    case qc2 =>
      intro j u hj
      obtain ⟨b, o, e, hc⟩ := HR.out j u hj
      obtain rfl := Option.some.inj e
      rw [show (⟨b, o, none⟩ : Addr).add j = ⟨b, o + j, none⟩ from Addr.add_lit _ _ _]
      exact Lib.cell?_alloc_some _ hc
    case qc3 => 
      intro u hu
      obtain ⟨e, _, he⟩ := List.mem_flatMap.1 hu
      exact one_of (k := 2) rfl u he
    case qc4 => rw [Nat.zero_add]; simp only [maxLen]; omega
    case qc5 => rw [Nat.zero_add]; omega
    case qc6 => simp
    intro v' w1 hown hgrow hnil
    obtain ⟨A', c', rfl, hc1, _⟩ := own_slice hown
    have HC1 := Lib.hid (show A' = none → c' = 0 from fun h => by
      subst h
      rcases hown.2 with ⟨h1, _⟩ | ⟨g, cap, cur, h1, _⟩
      · simp only [Value.slice.injEq] at h1
        exact h1.2.2
      · cases h1)
    have HO := Lib.hid hown
    have HL1 := Lib.hid hc1
    have HB := Lib.hid (show Below w.heap.size w w1 from ((Below.refl _ w).alloc (Nat.le_refl _) _).grown hgrow (by simp) (by intro k hk; simp [Value.ownBlock] at hk; omega))
    clear hown hgrow hnil hc1
    go_wp2_with fail
    go_ret
    have h := RdK.of_own HO.out
    exact ⟨⟨A', c', rfl, by simpa using h, HC1.out, by have := HL1.out; omega⟩, HB.out⟩
theorem en_infoC : (Tryz.prog.info? 36).map (fun i => (i.zero, i.size, i.bytes)) = some (some (.agg #[.int .i64 0, .string ⟨#[]⟩, .slice none 0 0]), 3, 48) := by kernel_rfl
set_option maxRecDepth 100000 in
set_option maxHeartbeats 2000000 in
theorem cloneE_any (zs : List (En)) (hl : zs.length ≤ 10000) (A : Option Addr) (c : Nat) (w : World) (hr : Rd w A (zs.flatMap enCells)) :
    Calls Tryz.prog 52 #[.slice A zs.length c] w fun e w' => (∃ (A' : Option Addr) (c' : Nat), e = .returned (.slice A' zs.length c') ∧ w'.ownsRow w.heap.size 36 3 (.slice A' zs.length c') zs.length (zs.flatMap enCells)) ∧ Below w.heap.size w w' := by
  have HR := Lib.hid hr
  clear hr
  obtain ⟨i0, hi, hz0, hz1, hz2⟩ := info_parts en_infoC
  have HI := Lib.hid hi
  have HZ0 := Lib.hid hz0
  have HZ1 := Lib.hid hz1
  have HZ2 := Lib.hid hz2
  clear hi hz0 hz1 hz2
  have HNil : A = none → zs = [] := fun h => by
    subst h
    cases zs with
    | nil => rfl
    | cons e es => obtain ⟨_, _, h, _⟩ := HR.out 0 _ rfl; cases h
  have q : ∀ (w : World) (a : Option Addr) (n c n' c' : Nat), (binOp .eql 40 (.slice a n c) (.slice none n' c')).run Tryz.prog w = .ok (.bool a.isNone) w := fun w a n c n' c' => Lib.run_eql_slice_nil w _ _ a n c n' c' Tryz.underlying40
  cases A with
  | none =>
    obtain rfl := HNil rfl
    clear HNil
    go_enter Tryz.func52, Tryz.ntmps52
    go_wp2_with fail
    go_ret
    exact ⟨⟨none, 0, rfl, World.ownsRow_nil _ _ _ _⟩, Below.refl _ _⟩
  | some a =>
    clear HNil
    go_enter Tryz.func52, Tryz.ntmps52
    go_wp2_with (at_builtin; refine wpList_append_own _ rfl _ _ 40 rfl w.heap.size 36 i0 _ 3 48 Tryz.underlying40 HI.out HZ0.out HZ1.out HZ2.out rfl (by omega) _ _ _ rfl (World.ownsRow_made w #[] 0 (Nat.le_refl _) (Nat.zero_le _) (by simp)) a zs.length c (zs.flatMap enCells) rfl ?qc1 ?qc2 ?qc3 ?qc4 ?qc5 ?qc6 ?_)
    case qc1 => exact flat_len enCells_len zs
    case qc2 =>
      intro j u hj
      obtain ⟨b, o, e, hc⟩ := HR.out j u hj
      obtain rfl := Option.some.inj e
      rw [show (⟨b, o, none⟩ : Addr).add j = ⟨b, o + j, none⟩ from Addr.add_lit _ _ _]
      exact Lib.cell?_alloc_some _ hc
    case qc3 => 
      intro u hu
      obtain ⟨e, _, he⟩ := List.mem_flatMap.1 hu
      exact one_of (k := 3) rfl u he
    case qc4 => rw [Nat.zero_add]; simp only [maxLen]; omega
    case qc5 => rw [Nat.zero_add]; omega
    case qc6 => simp
    intro v' w1 hown hgrow hnil
    obtain ⟨A', c', rfl, hc1, _⟩ := own_slice hown
    have HO := Lib.hid hown
    have HB := Lib.hid (show Below w.heap.size w w1 from ((Below.refl _ w).alloc (Nat.le_refl _) _).grown hgrow (by simp) (by intro k hk; simp [Value.ownBlock] at hk; omega))
    clear hown hgrow hnil hc1
    go_wp2_with fail
    go_ret
    exact ⟨⟨A', c', rfl, HO.out⟩, HB.out⟩
set_option maxRecDepth 100000 in
theorem lpost1 (x : Ln) (hl : x.1.length ≤ 9223372036854775807) (w : World) : Calls Tryz.prog 44 #[.agg #[.string ⟨x.1.toArray⟩, .int .i64 x.2]] w (RetG (!wordB x.1) w) := by
  obtain ⟨x0, x1⟩ := x
  simp only at hl ⊢
  have xa := ext_alloc w (.cells #[.string ⟨x0.toArray⟩, .int .i64 x1] 49)
  have HX := Lib.hid xa
  clear xa
  go_enter Tryz.func44, Tryz.ntmps44
  go_wp2_with fail
  refine (pword_any x0 hl _).mono ?_
  rintro e w' ⟨rfl, rfl⟩
  go_wp2_with fail
  go_ret
  exact ⟨rfl, HX.out⟩
theorem lwords (ls : List Ln) (hl : ls.length ≤ 100000) (hw : ∀ x ∈ ls, x.1.length ≤ 9223372036854775807) (A : Option Addr) (c : Nat) (w : World) (hr : Rd w A (ls.flatMap lnCells)) :
    Calls Tryz.prog 43 #[.slice A ls.length c, .func (.func 44) #[] #[]] w (RetG (ls.any fun x => !wordB x.1) w) :=
  idxl_some 44 (fun _ _ => by kernel_rfl) #[] ls hl A c (fun x => !wordB x.1) w hr (fun x hx w1 _ => lpost1 x (hw x hx) w1)
end Go.Proofs.YtdnhfcphmbhloaaGreatDoor.Lk

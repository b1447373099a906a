/- Facts: the others, as the program's range over the map of the facts that count gathers them. Facts: the program's Others. Facts: what is kept is of known kinds; the law's comparison of days and people. -/
import Derived.Test.YtnchlnfenebomaaGreatDoorFkV
namespace Go.Proofs.YtnchlnfenebomaaGreatDoor.Fk
open Go.RowKit Mem Nest Err App Go.Sort

/-- what has been gathered, by what is still to come -/
def Gath (g : Int → Option Fa) (left : Lit → Bool) (ks : List Int) : Prop :=
  ks.Nodup ∧ (∀ o ∈ ks, Wf o) ∧ ∀ o, Wf o → (o ∈ ks ↔ 0 ≤ o ∧ left (.int .i64 o) = false ∧ standsB (g o) = true)
theorem stands_some {g : Option Fa} (h : standsB g = true) : g.isSome = true := by
  cases g with
  | none => exact absurd h (by decide)
  | some _ => rfl
theorem Gath.start {g : Int → Option Fa} {D : DataW Unit} (h : ∀ o, Wf o → Maps.has D (.int .i64 o) = (g o).isSome) : Gath g (Maps.has D) [] := by
  refine ⟨List.nodup_nil, (fun o h => by cases h), fun o ho => ⟨(fun h => by cases h), ?_⟩⟩
  rintro ⟨_, h1, h2⟩
  rw [h o ho, stands_some h2] at h1
  cases h1
theorem same_int (o x : Int) : (Lit.int .i64 o).sameKey (.int .i64 x) = decide (o = x) := by
  by_cases e : o = x
  · subst e
    rw [decide_eq_true rfl]
    simp [Lit.sameKey]
  · rw [decide_eq_false e]
    exact Maps.sameKey_ne (fun h => e (by injection h))
theorem Gath.step {g : Int → Option Fa} {left : Lit → Bool} {ks : List Int} (h : Gath g left ks) {x : Int} (hw : Wf x) (hl : left (.int .i64 x) = true) :
    (0 ≤ x → standsB (g x) = true → Gath g (fun z => left z && !z.sameKey (.int .i64 x)) (ks ++ [x])) ∧
    (¬ (0 ≤ x ∧ standsB (g x) = true) → Gath g (fun z => left z && !z.sameKey (.int .i64 x)) ks) := by
  obtain ⟨h1, h2, h3⟩ := h
  have hx : x ∉ ks := fun hm => by
    have := ((h3 x hw).1 hm).2.1
    rw [hl] at this
    cases this
  refine ⟨fun h0 hs => ⟨?_, ?_, ?_⟩, fun hn => ⟨h1, h2, ?_⟩⟩
  · rw [List.nodup_append]
    refine ⟨h1, by simp, ?_⟩
    intro a ha b hb e
    rw [List.mem_singleton] at hb
    subst hb e
    exact hx ha
  · intro o ho
    rw [List.mem_append, List.mem_singleton] at ho
    rcases ho with ho | rfl
    · exact h2 o ho
    · exact hw
  · intro o ho
    rw [List.mem_append, List.mem_singleton, h3 o ho]
    show _ ↔ 0 ≤ o ∧ (left (.int .i64 o) && !(Lit.int .i64 o).sameKey (.int .i64 x)) = false ∧ _
    rw [same_int]
    by_cases e : o = x
    · subst e
      simp [h0, hs]
    · simp [e]
  · intro o ho
    rw [h3 o ho]
    show _ ↔ 0 ≤ o ∧ (left (.int .i64 o) && !(Lit.int .i64 o).sameKey (.int .i64 x)) = false ∧ _
    rw [same_int]
    by_cases e : o = x
    · subst e
      simp only [hl, decide_true, Bool.not_true, Bool.and_false]
      constructor
      · rintro ⟨_, h, _⟩
        cases h
      · rintro ⟨ha, _, hb⟩
        exact absurd ⟨ha, hb⟩ hn
    · simp [e]
theorem Gath.done {wh : Int} {nm : List UInt8} {on kn : Int} {l : List Fa} {left : Lit → Bool} {ks : List Int} (h : Gath (fun o => bestF wh nm on kn o l) left ks) (hl : ∀ z, left z = false) (hk : Kept l) (hok : Oks l) : (ks.mergeSort fun x y => decide (x ≤ y)) = othersF wh nm on kn l := by
  obtain ⟨h1, h2, h3⟩ := h
  refine others_of hk h1 fun o => ⟨fun ho => ?_, ?_⟩
  · obtain ⟨a, _, b⟩ := (h3 o (h2 o ho)).1 ho
    exact ⟨a, b⟩
  · rintro ⟨a, b⟩
    have hw : Wf o := by
      cases hb : bestF wh nm on kn o l with
      | none => rw [hb] at b; exact absurd b (by decide)
      | some y =>
        obtain ⟨m, _, e⟩ := best_hit hb
        have hy := hok y m
        exact wf_of (by omega) (by omega)
    exact (h3 o hw).2 ⟨a, hl _, b⟩
end Go.Proofs.YtnchlnfenebomaaGreatDoor.Fk
namespace Go.Proofs.YtnchlnfenebomaaGreatDoor.Fk
open Go.RowKit Mem Nest Err App Go.Sort

theorem rng_row {H : Type} {P : Program} {k : TypeId} {R : Value → Option (DataW H × List MemPlace)} {w : World} {b r n : Nat} {D : DataW H} {left : Lit → Bool} {cnt : Nat} {base m size : Nat} {e : TypeId} {v : Value} {xs : List Value} (hr : w.ranges P k R b r n D left cnt) (ho : w.ownsRow base e size v m xs) : some b ≠ v.ownBlock ∧ some r ≠ v.ownBlock := by
  obtain ⟨es, clock, since, seen, c0, hb, _, _, _, hi, _⟩ := hr
  constructor
  · intro h
    obtain ⟨cc, fz, h2⟩ := Lib.ownsRow_kind ho b h.symm
    rw [hb] at h2
    cases h2
  · intro h
    obtain ⟨cc, fz, h2⟩ := Lib.ownsRow_kind ho r h.symm
    rw [hi] at h2
    cases h2
theorem rng_app {H : Type} {P : Program} {k : TypeId} {R : Value → Option (DataW H × List MemPlace)} {w w' : World} {b r n : Nat} {D : DataW H} {left : Lit → Bool} {cnt : Nat} {base m size : Nat} {e : TypeId} {v : Value} {xs : List Value} (hr : w.ranges P k R b r n D left cnt) (ho : w.ownsRow base e size v m xs) (o : Obj) (hg : (w.alloc o).grownBy w' v.ownBlock) : w'.ranges P k R b r n D left cnt :=
  (hr.alloc o).kept hg (rng_row (hr.alloc o) (World.ownsRow.alloc ho o)).1 (rng_row (hr.alloc o) (World.ownsRow.alloc ho o)).2
theorem row_but {base m size r : Nat} {e : TypeId} {v : Value} {xs : List Value} {w w' : World} (ho : w.ownsRow base e size v m xs) (hg : w.grownBy w' (some r)) (hn : some r ≠ v.ownBlock) : w'.ownsRow base e size v m xs := by
  refine ho.kept hg ?_
  cases hb : v.ownBlock with
  | none => exact .inl rfl
  | some g => exact .inr (fun e => hn (by rw [hb]; exact e.symm))
theorem inv_key (key : Value) (kl : Lit) (h : keyOf Tryz.prog 3 key = some kl) : ∃ x, key = Value.int .i64 x := by
  obtain ⟨x, rfl, _⟩ := Maps.keyOf_int_inv Tryz.underlying3 h
  exact ⟨x, rfl⟩
theorem inv_val (v : Value) (y : DataW Unit × List MemPlace) (h : rfa v = some y) : ∃ c : Fa, v = .agg (faC c).toArray := by
  obtain ⟨x, rfl, _⟩ := rfa_inv h
  exact ⟨x, rfl⟩
theorem came {g : Int → Option Fa} {D : DataW Unit} (hs : ∀ o, Wf o → Maps.has D (.int .i64 o) = (g o).isSome ∧ ∀ x, g o = some x → ∀ z, D.atKey (.int .i64 o) z = encFa x) {x : Int} {c : Fa} {kl : Lit} {y : DataW Unit × List MemPlace} (hkey : keyOf Tryz.prog 3 (.int .i64 x) = some kl) (hv : rfa (.agg (faC c).toArray) = some y) (hat : ∀ zd, D.atKey kl zd = y.1) : kl = .int .i64 x ∧ Wf x ∧ g x = some c := by
  obtain ⟨x', e, rfl, hw⟩ := Maps.keyOf_int_inv Tryz.underlying3 hkey
  injection e with _ e
  subst e
  rw [rfa_mk] at hv
  obtain rfl := Option.some.inj hv
  refine ⟨rfl, hw, ?_⟩
  obtain ⟨h1, h2⟩ := hs x hw
  rw [Maps.has_true_of_atKey hat] at h1
  cases hg : g x with
  | none => rw [hg] at h1; cases h1
  | some z =>
    have := h2 z hg (encFa c)
    rw [hat] at this
    rw [encFa_inj this]
set_option maxRecDepth 20000 in
set_option maxHeartbeats 4000000 in
theorem pothers_any (l : List Fa) (hl : l.length ≤ 500) (hok : Oks l) (hkp : Kept l) (b : Nat) (A : Option Addr) (c : Nat) (wh : Int) (nm : List UInt8) (on kn : Int) (w : World) (hF : FR 149 w b A c l) :
    Calls Tryz.prog 108 #[.pointer (some ⟨b, 0, none⟩), .int .i64 wh, .string ⟨nm.toArray⟩, .int .i64 on, .int .i64 kn] w (IntsPost (othersF wh nm on kn l) w) := by
  have HF := Lib.hid hF
  obtain ⟨i0, hi, hz0, hz1, hz2⟩ := info_parts int_info
  have HI := Lib.hid hi
  have HZ0 := Lib.hid hz0
  have HZ1 := Lib.hid hz1
  have HZ2 := Lib.hid hz2
  have HOK := Lib.hid hok
  have HKP := Lib.hid hkp
  clear hF hi hz0 hz1 hz2 hok hkp
  go_enter Tryz.func108, Tryz.ntmps108
  go_wp2_with fail
  refine (counts_any l hl HOK.out b A c wh nm on kn _ HF.out).mono ?_
  rintro e w1 ⟨M, n, rfl, hn, hfm, hM, hb⟩
  obtain ⟨D, hD, hs⟩ := hfm
  have hsz := hD.size_le
  have HB := Lib.hid hb
  have HS := Lib.hid hs
  have HM := Lib.hid hM
  have hML := hD.lt
  clear hb hs hM
  go_wp2_with (first | (at_range; refine wpList_range_own _ rfl _ 171 rfl 3 102 int_law Tryz.underlying171 rfa M n D rfl hD ?_; intro w0 hrg0 hg0 hs0) | go_in)
  go_frame
  have HB0 := Lib.hid (HB.out.grown hg0 HB.out.size (fun k hk => by cases hk))
  have hw1 := HB.out.size
  have HW1 := Lib.hid hw1
  go_loopw [11] (fun t11 wr => ∃ (left : Lit → Bool) (cnt : Nat) (ks : List Int), wr.ranges Tryz.prog 3 rfa M w1.heap.size n D left cnt ∧ ks.length + cnt ≤ n ∧ Hid (Gath (fun o => bestF wh nm on kn o l) left ks) ∧ Hid (Below w.heap.size w wr) ∧ Hid (wr.ownsRow w.heap.size 3 1 t11 ks.length (ints ks))) (fun _ wr => wr.rangeLeft M w1.heap.size)
  case atStart => exact ⟨_, _, [], hrg0, by simpa using hsz, Gath.start (fun o ho => (HS.out o ho).1), HB0.out, World.ownsRow_nil _ _ _ _⟩
  case round =>
    clear HB0 hrg0 hg0 hs0
    obtain ⟨left, cnt, ks, hrg, hlen, HG, HBr, HO⟩ := hrel
    have HRG := Lib.hid hrg
    go_wp2_with (first
      | (at_next; refine wpList_next_ranges _ rfl _ rfl 3 int_law rfa (Value.int .i64) (fun c : Fa => .agg (faC c).toArray) inv_key inv_val M w1.heap.size n D left cnt rfl hrg ?_ ?_)
      | go_in)
    · intro hc0 hl0
      have HE := Lib.hid (HG.out.done hl0 HKP.out HOK.out)
      obtain ⟨A1, c1, hv, _⟩ := own_slice HO.out
      subst hv
      clear hrg hc0 hl0
      go_wp2_with fail
      refine (sort_any w.heap.size ks (by omega) A1 c1 _ HO.out).mono ?_
      rintro e w2 ⟨rfl, ho2, hg2⟩
      have HB2 := Lib.hid (grown_ext HBr.out rfl HO.out hg2)
      have hsl := sortI_len ks
      rw [← hsl] at ho2
      have HO2 := Lib.hid ho2
      have HSL := Lib.hid hsl
      clear ho2 hg2 hsl
      go_wp2_with fail
      go_ret
      exact ⟨A1, c1, by rw [← HE.out, ← HSL.out]; rfl, by rw [← HE.out]; exact SL.of_own (n := (sortI ks).length) (by rw [HSL.out]; rw [HSL.out] at HO2; exact HO2.out) rfl rfl, HB2.out⟩
    · intro x c kl y ys w2 cnt1 hkey hlk hv hat hrg1 hlt hg1 hs1 hen
      have hm0 : wr.rangeLeft M w1.heap.size = cnt := hrg.left_eq
      obtain ⟨rfl, hwx, hgx⟩ := came (y := (y, ys)) HS.out hkey hv hat
      have HST := Lib.hid (HG.out.step hwx hlk)
      have HGX := Lib.hid hgx
      have HB2 := Lib.hid (HBr.out.grown hg1 HBr.out.size (fun k hk => by obtain rfl := Option.some.inj hk; exact HW1.out))
      have HO2 := Lib.hid (row_but HO.out hg1 (rng_row hrg HO.out).2)
      obtain ⟨xw, xn, xo, xv, xf, xt, xl⟩ := c
      unfold faC at hen
      simp only at hen
      have bx := Blk.new w2 102 [.int .i64 xw, .string ⟨xn.toArray⟩, .int .i64 xo, .int .i64 xv, .int .i64 xf, .int .i64 xt, .int .i64 xl]
      have hx1 := ext_alloc w2 (.cells (List.toArray [.int .i64 xw, .string ⟨xn.toArray⟩, .int .i64 xo, .int .i64 xv, .int .i64 xf, .int .i64 xt, .int .i64 xl]) 102)
      have hrw := hrg1.alloc (.cells (List.toArray [.int .i64 xw, .string ⟨xn.toArray⟩, .int .i64 xo, .int .i64 xv, .int .i64 xf, .int .i64 xt, .int .i64 xl]) 102)
      obtain ⟨W, hW⟩ : ∃ W, W = w2.alloc (.cells (List.toArray [.int .i64 xw, .string ⟨xn.toArray⟩, .int .i64 xo, .int .i64 xv, .int .i64 xf, .int .i64 xt, .int .i64 xl]) 102) := ⟨_, rfl⟩
      obtain ⟨K, hK⟩ : ∃ K, K = w2.heap.size := ⟨_, rfl⟩
      rw [← hW] at bx hx1 hrw
      rw [← hK] at bx
      have HB3 := Lib.hid (HB2.out.trans (hx1.mono HB2.out.size))
      have HO3 := Lib.hid (own_ext HO2.out hx1)
      have HRW := Lib.hid hrw
      have k3 := bx.cell 3 rfl
      clear bx hx1 hrw hrg1 hkey hlk hv hat hg1 hs1 hgx hwx hrg
      go_upto_region 5 with fail
      rw [show w2.alloc (.cells #[.int .i64 xw, .string ⟨xn.toArray⟩, .int .i64 xo, .int .i64 xv, .int .i64 xf, .int .i64 xt, .int .i64 xl] 102) = W from hW.symm, ← hK]
      clear hW hK hen
      by_cases hx0 : 0 ≤ x
      · by_cases hz0 : xv = 0
        · have hq : (xv == 0) = true := by simp [hz0]
          have hqb : (xv != 0) = false := by simp [hz0]
          have HN := Lib.hid (HST.out.2 (fun h => by have h2 := h.2; rw [HGX.out] at h2; simp [standsB, hz0] at h2))
          clear hz0 HST
          go_wp2_with fail
          go_roundw
          case rel => exact ⟨_, cnt1, ks, HRW.out, by omega, HN.out, HB3.out, HO3.out⟩
          case measure => rw [HRW.out.left_eq, hm0]; omega
        · have hq : (xv == 0) = false := by simp [hz0]
          have hqb : (xv != 0) = true := by simp [hz0]
          have HN := Lib.hid (HST.out.1 hx0 (by rw [HGX.out]; simp [standsB, hz0]))
          clear hz0 HST
          go_wp2_with (at_builtin; go_loud (refine wpList_append_own _ rfl _ _ _ rfl w.heap.size 3 i0 _ 1 8 Tryz.underlying35 HI.out HZ0.out HZ1.out HZ2.out rfl (by omega) u11 ks.length _ rfl (World.ownsRow.alloc HO3.out _) ⟨W.heap.size, 0, none⟩ 1 1 [.int .i64 x] rfl rfl (new_cells W [.int .i64 x] _ _ rfl) (by intro u hu; simp only [List.mem_cons, List.not_mem_nil, or_false] at hu; subst hu; rfl) (by simp only [maxLen]; omega) (by omega) (Nat.le_trans HB3.out.size (by simp)) ?_; intro v1 w5 hown1 hg1 _; have HO5 := Lib.hid hown1; have HB5 := Lib.hid (grown_ext (HB3.out.trans ((ext_alloc W _).mono HB3.out.size)) rfl (World.ownsRow.alloc HO3.out _) hg1); have HR5 := Lib.hid (rng_app HRW.out HO3.out _ hg1); clear hown1 hg1))
          go_roundw
          case rel =>
            refine ⟨_, cnt1, ks ++ [x], HR5.out, by rw [List.length_append]; simp only [List.length_cons, List.length_nil]; omega, HN.out, HB5.out, ?_⟩
            show World.ownsRow _ _ _ _ _ _ _
            rw [ints_app, List.length_append]
            exact HO5.out
          case measure => rw [HR5.out.left_eq, hm0]; omega
      · have HN := Lib.hid (HST.out.2 (fun h => hx0 h.1))
        clear HST
        go_wp2_with fail
        go_roundw
        case rel => exact ⟨_, cnt1, ks, HRW.out, by omega, HN.out, HB3.out, HO3.out⟩
        case measure => rw [HRW.out.left_eq, hm0]; omega
end Go.Proofs.YtnchlnfenebomaaGreatDoor.Fk
namespace Go.Proofs.YtnchlnfenebomaaGreatDoor.Fk
open Go.RowKit Mem Nest Err App Go.Sort

theorem keep_oks (l : List Fa) : Oks (keepF l) := by
  intro y hy
  obtain ⟨_, k, hk⟩ := keep_code _ l rfl y hy
  have h := code_kind hk
  unfold kindB bodyB at h
  simp only [Bool.and_eq_true, Bool.or_eq_true, decide_eq_true_eq, beq_iff_eq] at h
  obtain ⟨⟨h1, h2⟩, h3⟩ := h
  refine ⟨?_, ?_⟩ <;> rcases h3 with h3 | ⟨⟨_, h3⟩, _⟩ <;> omega
end Go.Proofs.YtnchlnfenebomaaGreatDoor.Fk

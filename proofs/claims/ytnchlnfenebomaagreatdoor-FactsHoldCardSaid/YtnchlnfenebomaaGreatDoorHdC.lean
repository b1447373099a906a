/- Trees of nodes: the copy that From makes. -/
import Derived.Test.YtnchlnfenebomaaGreatDoorHdS
import Derived.Deep.AppendLies
import Derived.Deep.RegionHeld3
namespace Go.Proofs.YtnchlnfenebomaaGreatDoor.Hd
open Go.RowKit Mem Nest Fk

theorem node_info : (Tryz.prog.info? 44).map (fun i => (i.zero, i.size, i.bytes)) = some (some (.agg #[.string ⟨#[]⟩, .string ⟨#[]⟩, .int .i64 0, .slice none 0 0]), 4, 64) := by kernel_rfl
theorem below_set {N : Nat} {w w' : World} (h : Below N w w') {a : Addr} (ha : N ≤ a.block) (v : Value) : Below N w (w'.setCell a v) := RowKit.Below.setCell h ha v
/-- behind some rounds: N: the blocks ahead; N: what came, N + 1: the result, N + 2: the copy so far -/
structure FrR (w : World) (d : Nat) (k s : List UInt8) (n : Int) (A : Option Addr) (c : Nat) (l l' : List Nd) (v : Value) (wr : World) : Prop where
  bel : Below w.heap.size w wr
  sz : w.heap.size + 3 ≤ wr.heap.size
  bB : Blk wr w.heap.size 25 [.string ⟨k.toArray⟩, .string ⟨s.toArray⟩, .int .i64 n, .slice A l.length c]
  bR : Blk wr (w.heap.size + 1) 44 [.string ⟨#[]⟩, .string ⟨#[]⟩, .int .i64 0, .slice none 0 0]
  bG : Blk wr (w.heap.size + 2) 44 [.string ⟨k.toArray⟩, .string ⟨s.toArray⟩, .int .i64 n, v]
  own : wr.ownsRow (w.heap.size + 3) 44 4 v l'.length (l'.flatMap ndC)
  eqv : ∀ j (h : j < l'.length) (h' : j < l.length), Eqv d l[j] l'[j]
  ins : ∀ x ∈ l', InW wr (fun b => b < w.heap.size + 3 ∨ some b = v.ownBlock) d x
theorem blk_low {w w' : World} {B N : Nat} {T : TypeId} {cs : List Value} (h : Blk w B T cs) (hb : Below N w w') (hN : B < N) : Blk w' B T cs := by
  unfold Blk at h ⊢
  rw [hb.block B hN]
  exact h
theorem FrR.put {w : World} {d : Nat} {k s : List UInt8} {n : Int} {A : Option Addr} {c : Nat} {l l' : List Nd} {v : Value} {wr w3 w5 : World} (h : FrR w d k s n A c l l' v wr) (hi : l'.length < l.length) {x' : Nd} (hq : Eqv d l[l'.length] x') (hx : InW w3 (fun b => b < wr.heap.size) d x') (hb : Below wr.heap.size wr w3) {o : Obj} {g5 c5 : Nat}
    (hg : (w3.alloc o).grownBy w5 v.ownBlock) (ho : w5.ownsRow (w.heap.size + 3) 44 4 (.slice (some ⟨g5, 0, none⟩) (l'.length + 1) c5) (l'.length + 1) (l'.flatMap ndC ++ ndC x')) (hat : v.ownBlock = some g5 ∨ g5 = (w3.alloc o).heap.size) :
    FrR w d k s n A c l (l' ++ [x']) (.slice (some ⟨g5, 0, none⟩) (l'.length + 1) c5) (w5.setCell ⟨w.heap.size + 2, 3, none⟩ (.slice (some ⟨g5, 0, none⟩) (l'.length + 1) c5)) ∧ Blk w5 (w.heap.size + 2) 44 [.string ⟨k.toArray⟩, .string ⟨s.toArray⟩, .int .i64 n, v] := by
  have hs4 : wr.heap.size ≤ (w3.alloc o).heap.size := Nat.le_trans hb.size (ext_alloc w3 o).size
  have hrow : ∀ b, v.ownBlock = some b → w.heap.size + 3 ≤ b ∧ b < wr.heap.size := h.own.lt
  have hB3 : Below (w.heap.size + 3) wr w5 := ((hb.mono h.sz).trans ((ext_alloc w3 o).mono (Nat.le_trans h.sz hb.size))).grown hg (Nat.le_trans h.sz hs4) fun b hb' => (hrow b hb').1
  have hG := blk_low h.bG hB3 (by omega)
  refine ⟨⟨?_, ?_, ?_, ?_, ?_, ?_, ?_, ?_⟩, hG⟩
  · exact below_set (h.bel.trans (hB3.mono (by omega))) (by simp) _
  · have := hg.size
    simp
    have := h.sz
    omega
  · exact Thm.blk_set (blk_low h.bB hB3 (by omega)) (by simp) _
  · exact Thm.blk_set (blk_low h.bR hB3 (by omega)) (by simp) _
  · exact hG.set 3 _
  · rw [List.length_append, List.flatMap_append]
    have := ownsRow_setCell_below ho (a := ⟨w.heap.size + 2, 3, none⟩) (by simp) (.slice (some ⟨g5, 0, none⟩) (l'.length + 1) c5)
    simpa using this
  · intro j hj hj'
    by_cases e : j < l'.length
    · rw [List.getElem_append_left e]
      exact h.eqv j e hj'
    · have e2 : j = l'.length := by
        rw [List.length_append] at hj
        simp at hj
        omega
      subst e2
      rw [List.getElem_append_right (Nat.le_refl _)]
      simpa using hq
  · intro y hy
    rcases List.mem_append.1 hy with hy | hy
    · have h1 := (((h.ins y hy).ext hb).ext (ext_alloc w3 o)).fresh
      have h2 := h1.grown hg (fun b hb' => .inl (.inr hb'.symm))
      refine (h2.setCell (a := ⟨w.heap.size + 2, 3, none⟩) (.inl (.inl (by simp))) _).weak fun b hb' => ?_
      rcases hb' with hb' | hb'
      · exact .inl (.inl hb')
      · have e : b = g5 := Option.some.inj hb'
        rcases hat with h3 | h3
        · exact .inl (.inr (by rw [h3, e]))
        · exact .inr (by omega)
    · rw [List.mem_singleton] at hy
      subst hy
      have h1 := (hx.ext (ext_alloc w3 o)).fresh
      have h2 := h1.grown hg (fun b hb' => .inl (hrow b hb').2)
      have hsz := h.sz
      refine (h2.setCell (a := ⟨w.heap.size + 2, 3, none⟩) (.inl (by show w.heap.size + 2 < _; omega)) _).weak fun b hb' => ?_
      rcases hb' with hb' | hb'
      · exact .inl (by omega)
      · have e : b = g5 := Option.some.inj hb'
        rcases hat with h3 | h3
        · exact .inl (by rw [e]; exact (hrow g5 h3).2)
        · exact .inr (by omega)
def FromPost (d : Nat) (x : Nd) (w : World) (e : Ending) (w' : World) : Prop :=
  ∃ x', e = .returned (ndV x') ∧ Eqv d x x' ∧ Below w.heap.size w w' ∧ InW w' (fun b => b < w.heap.size) d x'
theorem nd_one (x : Nd) : ∀ u ∈ ndC x, u.oneCell' = true := by
  obtain ⟨k, s, n, A, c, l⟩ := x
  intro u hu
  simp only [ndC, List.mem_cons, List.not_mem_nil, or_false] at hu
  rcases hu with rfl | rfl | rfl | rfl <;> rfl
set_option maxRecDepth 100000 in
set_option maxHeartbeats 4000000 in
theorem from_any (X : Nat → Prop) : ∀ (d : Nat) (x : Nd) (w : World), InW w X d x → SmallN d x → Calls Tryz.prog 10 #[ndV x] w (FromPost d x w)
  | 0, _, _, h, _ => h.elim
  | d + 1, .mk k s n A c l, w, h, hsm => by
    have IH := Lib.hid (from_any X d)
    have HN := Lib.hid h
    have HSm := Lib.hid hsm.2
    have hl := hsm.1
    have HL := Lib.hid h.2.2.1
    obtain ⟨j0, hi, hz0, hz1, hz2⟩ := info_parts node_info
    have HJ := Lib.hid hi
    have HJ0 := Lib.hid hz0
    have HJ1 := Lib.hid hz1
    have HJ2 := Lib.hid hz2
    have hb1 := Blk.new w 25 [.string ⟨k.toArray⟩, .string ⟨s.toArray⟩, .int .i64 n, .slice A l.length c]
    have x1 := ext_alloc w (.cells (List.toArray [.string ⟨k.toArray⟩, .string ⟨s.toArray⟩, .int .i64 n, .slice A l.length c]) 25)
    have e1 : (w.alloc (.cells (List.toArray [.string ⟨k.toArray⟩, .string ⟨s.toArray⟩, .int .i64 n, .slice A l.length c]) 25)).heap.size = w.heap.size + 1 := by simp
    obtain ⟨W1, hW1⟩ : ∃ W1, W1 = w.alloc (.cells (List.toArray [.string ⟨k.toArray⟩, .string ⟨s.toArray⟩, .int .i64 n, .slice A l.length c]) 25) := ⟨_, rfl⟩
    rw [← hW1] at hb1 x1 e1
    have hb2 := Blk.new W1 44 [.string ⟨#[]⟩, .string ⟨#[]⟩, .int .i64 0, .slice none 0 0]
    have x2 := ext_alloc W1 (.cells (List.toArray [.string ⟨#[]⟩, .string ⟨#[]⟩, .int .i64 0, .slice none 0 0]) 44)
    have e2 : (W1.alloc (.cells (List.toArray [.string ⟨#[]⟩, .string ⟨#[]⟩, .int .i64 0, .slice none 0 0]) 44)).heap.size = w.heap.size + 2 := by simp [e1]
    obtain ⟨W2, hW2⟩ : ∃ W2, W2 = W1.alloc (.cells (List.toArray [.string ⟨#[]⟩, .string ⟨#[]⟩, .int .i64 0, .slice none 0 0]) 44) := ⟨_, rfl⟩
    rw [← hW2] at hb2 x2 e2
    rw [e1] at hb2
    have hb3 := Blk.new W2 44 [.string ⟨k.toArray⟩, .string ⟨s.toArray⟩, .int .i64 n, .slice none 0 0]
    have x3 := ext_alloc W2 (.cells (List.toArray [.string ⟨k.toArray⟩, .string ⟨s.toArray⟩, .int .i64 n, .slice none 0 0]) 44)
    have e3 : (W2.alloc (.cells (List.toArray [.string ⟨k.toArray⟩, .string ⟨s.toArray⟩, .int .i64 n, .slice none 0 0]) 44)).heap.size = w.heap.size + 3 := by simp [e2]
    obtain ⟨W3, hW3⟩ : ∃ W3, W3 = W2.alloc (.cells (List.toArray [.string ⟨k.toArray⟩, .string ⟨s.toArray⟩, .int .i64 n, .slice none 0 0]) 44) := ⟨_, rfl⟩
    rw [← hW3] at hb3 x3 e3
    rw [e2] at hb3
    have HF := Lib.hid (show FrR w d k s n A c l [] (.slice none 0 0) W3 from ⟨ext_trans x1 (ext_trans x2 x3), by omega, Sol.blk_ext (Sol.blk_ext hb1 x2) x3, Sol.blk_ext hb2 x3, hb3, World.ownsRow_nil _ _ _ _, fun j h _ => absurd h (by simp), fun x hx => by cases hx⟩)
    have HWs := Lib.hid (And.intro hW1 (And.intro hW2 hW3))
    have HE1 := Lib.hid e1
    have HE2 := Lib.hid e2
    clear h hsm hi hz0 hz1 hz2 hb1 hb2 hb3 x1 x2 x3 hW1 hW2 hW3 e1 e2 e3
    unfold ndV
    go_enter Tryz.func10, Tryz.ntmps10
    go_wp2_with fail
    rw [show ((w.alloc (.cells #[.string ⟨k.toArray⟩, .string ⟨s.toArray⟩, .int .i64 n, .slice A l.length c] 25)).alloc (.cells #[.string ⟨#[]⟩, .string ⟨#[]⟩, .int .i64 0, .slice none 0 0] 44)).alloc (.cells #[.string ⟨k.toArray⟩, .string ⟨s.toArray⟩, .int .i64 n, .slice none 0 0] 44) = W3 from by rw [HWs.out.2.2, HWs.out.2.1, HWs.out.1]]
    clear HWs HE1 HE2
    go_loopw [4] (fun t4 wr => ∃ (i : Nat) (l' : List Nd) (v : Value), t4 = .int .i64 i ∧ i ≤ l.length ∧ Hid (l'.length = i) ∧ Hid (FrR w d k s n A c l l' v wr)) (fun t4 _ => l.length - (intOf t4).toNat)
    case atStart => exact ⟨0, [], _, rfl, Nat.zero_le _, rfl, HF.out⟩
    case round =>
      clear HF
      obtain ⟨i, l', v, rfl, hi, HLe, HF⟩ := hrel
      have y3 := HF.out.bB.cell 3 rfl
      by_cases hlt : i < l.length
      · have hltc : (i : Int) < (l.length : Int) := by omega
        obtain ⟨b', o', hA, r0, r1, r2, r3, hk⟩ := (HN.out.ext HF.out.bel).kid hlt
        have hbw : b' < w.heap.size := by
          obtain ⟨b2, o2, e2, q0, _⟩ := HN.out.kid hlt
          rw [hA] at e2
          cases e2
          exact cell_lt q0
        subst hA
        have HC := Lib.hid (fun wx (hb : Below wr.heap.size wr wx) => IH.out l[i] wx (hk.ext hb) (HSm.out _ (List.getElem_mem hlt)))
        obtain ⟨x, hx⟩ : ∃ x, x = l[i] := ⟨_, rfl⟩
        rw [← hx] at r0 r1 r2 r3 HC
        have HXi := Lib.hid hx
        clear hx hk
        obtain ⟨xk, xs, xn, xA, xc, xl⟩ := x
        simp only [Nd.kind, Nd.word, Nd.n, Nd.A, Nd.c, Nd.kids] at r0 r1 r2 r3
        have HCc := Lib.hid (show ∀ wx, Below wr.heap.size wr wx → Calls Tryz.prog 10 #[.agg #[.string ⟨xk.toArray⟩, .string ⟨xs.toArray⟩, .int .i64 xn, .slice xA xl.length xc]] wx (FromPost d (.mk xk xs xn xA xc xl) wx) from HC.out)
        have g3 := HF.out.bG.cell 3 rfl
        have HG3 := Lib.hid g3
        have hsz := HF.out.sz
        have hdr := ext_drewN wr 1
        clear HC
        go_wp2_with fail
        refine wp_region_held_drew (S := (fun w' => w'.cell? ⟨w.heap.size, 3, none⟩ = some (.slice (some ⟨b', o', none⟩) l.length c) ∧ w'.cell? ⟨b', o' + i * 4, none⟩ = some (.string ⟨xk.toArray⟩) ∧ w'.cell? ⟨b', o' + i * 4 + 1, none⟩ = some (.string ⟨xs.toArray⟩) ∧ w'.cell? ⟨b', o' + i * 4 + 2, none⟩ = some (.int .i64 xn) ∧ w'.cell? ⟨b', o' + i * 4 + 3, none⟩ = some (.slice xA xl.length xc))) (by kernel_rfl) ?_ (fun hHeld => ?_)
        · exact ⟨y3, r0, r1, r2, r3⟩
        refine wpAnyH_take (i := 0) (v := ?_) rfl (by kernel_rfl) (by kernel_rfl) (by kernel_rfl) (fun _ _ _ h => h) (Or.inl ⟨by rfl, ?_⟩) (by assumption) ?_
        rotate_left
        · intro w hSw; (try dsimp only at hSw); go_simp; try with_reducible rfl
        (try dsimp only [Act.put, List.setIfInBounds_toArray, List.set_cons_zero, List.set_cons_succ])
        refine wpAnyH_take (i := 2) (v := ?_) rfl (by kernel_rfl) (by kernel_rfl) (by kernel_rfl) (fun _ _ _ h => h) (Or.inl ⟨by rfl, ?_⟩) (by assumption) ?_
        rotate_left
        · intro w hSw; (try dsimp only at hSw); go_simp; try with_reducible rfl
        (try dsimp only [Act.put, List.setIfInBounds_toArray, List.set_cons_zero, List.set_cons_succ])
        refine wpAnyH_take (i := 3) (v := ?_) rfl (by kernel_rfl) (by kernel_rfl) (by kernel_rfl) (fun _ _ _ h => h) (Or.inl ⟨by rfl, ?_⟩) (by assumption) ?_
        rotate_left
        · intro w hSw; (try dsimp only at hSw); go_simp; try with_reducible rfl
        (try dsimp only [Act.put, List.setIfInBounds_toArray, List.set_cons_zero, List.set_cons_succ])
        refine wpAnyH_take (i := 4) (v := ?_) rfl (by kernel_rfl) (by kernel_rfl) (by kernel_rfl) (fun _ _ _ h => h) (Or.inl ⟨by rfl, ?_⟩) (by assumption) ?_
        rotate_left
        · intro w hSw; (try dsimp only at hSw); go_simp; try with_reducible rfl
        (try dsimp only [Act.put, List.setIfInBounds_toArray, List.set_cons_zero, List.set_cons_succ])
        refine wpAnyH_take (i := 5) (v := ?_) rfl (by kernel_rfl) (by kernel_rfl) (by kernel_rfl) (fun _ _ _ h => h) (Or.inl ⟨by rfl, ?_⟩) (by assumption) ?_
        rotate_left
        · intro w hSw; (try dsimp only at hSw); go_simp; try with_reducible rfl
        (try dsimp only [Act.put, List.setIfInBounds_toArray, List.set_cons_zero, List.set_cons_succ])
        refine wpAnyH_take (i := 6) (v := ?_) rfl (by kernel_rfl) (by kernel_rfl) (by kernel_rfl) (fun _ _ _ h => h) (Or.inl ⟨by rfl, ?_⟩) (by assumption) ?_
        rotate_left
        · intro w hSw; (try dsimp only at hSw); go_simp; try with_reducible rfl
        (try dsimp only [Act.put, List.setIfInBounds_toArray, List.set_cons_zero, List.set_cons_succ])
        refine wpAnyH_ready (rs := [1, 7]) (by kernel_rfl) (by simp) ?_
        refine AllReadyH.cons rfl (fun K hK => ?_) ?_
        · go_simp
          refine hK.out _ _ ?_ (fun hHeld => ?_)
          · exact ⟨y3, r0, r1, r2, r3⟩
          clear hK K
          (try dsimp only [Act.put, List.setIfInBounds_toArray, List.set_cons_zero, List.set_cons_succ])
          refine wpAnyH_ready (rs := [7]) (by kernel_rfl) (by simp) ?_
          refine AllReadyH.cons rfl (fun K hK => ?_) ?_
          · go_simp
            go_at_call 10
            refine (HCc.out _ hdr).mono ?_
            rintro e w3 ⟨x', rfl, hq, hb3, hin⟩
            have HQ := Lib.hid hq
            have HB3 := Lib.hid (ext_trans hdr hb3)
            have HIn := Lib.hid (hin.weak (fun b hb => Nat.lt_of_lt_of_le hb hdr.size))
            clear hq hb3 hin
            obtain ⟨k3, s3, n3, A3, c3, l3⟩ := x'
            have g3 := cell_ext HB3.out HG3.out
            have g3x := fun ob => cell_ext (ext_alloc w3 ob) g3
            unfold ndV
            go_wp2_with fail
            refine hK.out _ _ ?_ (fun hHeld => ?_)
            · exact ⟨cell_ext HB3.out y3, cell_ext HB3.out r0, cell_ext HB3.out r1, cell_ext HB3.out r2, cell_ext HB3.out r3⟩
            clear hK K
            (try dsimp only [Act.put, List.setIfInBounds_toArray, List.set_cons_zero, List.set_cons_succ])
            refine wpAnyH_ready (rs := [8]) (by kernel_rfl) (by simp) ?_
            refine AllReadyH.cons rfl (fun K hK => ?_) ?_
            · go_simp
              refine hK.out _ _ ?_ (fun hHeld => ?_)
              · exact ⟨cell_ext (ext_alloc _ _) (cell_ext HB3.out y3), cell_ext (ext_alloc _ _) (cell_ext HB3.out r0), cell_ext (ext_alloc _ _) (cell_ext HB3.out r1), cell_ext (ext_alloc _ _) (cell_ext HB3.out r2), cell_ext (ext_alloc _ _) (cell_ext HB3.out r3)⟩
              clear hK K
              (try dsimp only [Act.put, List.setIfInBounds_toArray, List.set_cons_zero, List.set_cons_succ])
              refine wpAnyH_ready (rs := [9]) (by kernel_rfl) (by simp) ?_
              refine AllReadyH.cons rfl (fun K hK => ?_) ?_
              · refine step_append_lies _ rfl (.tmp 20) (.tmp 27) 42 rfl (w.heap.size + 3) 44 j0 _ 4 64 Tryz.underlying42 HJ.out HJ0.out HJ1.out HJ2.out rfl (by omega) v l'.length _ rfl (World.ownsRow.alloc (own_ext HF.out.own HB3.out) _) ⟨w3.heap.size, 0, none⟩ 1 1 [.string ⟨k3.toArray⟩, .string ⟨s3.toArray⟩, .int .i64 n3, .slice A3 l3.length c3] rfl rfl (new_cells w3 [.string ⟨k3.toArray⟩, .string ⟨s3.toArray⟩, .int .i64 n3, .slice A3 l3.length c3] _ _ rfl) (nd_one (.mk k3 s3 n3 A3 c3 l3)) (by omega) (by have := HLe.out; simp only [maxLen]; omega) (by have := HLe.out; omega) (by have := HB3.out.size; simp; omega) _ rfl ?_
                intro g5 c5 w5 hown1 hg1 hat _
                have HP := Lib.hid (HF.out.put (x' := .mk k3 s3 n3 A3 c3 l3) (by have := HLe.out; omega) (by have e := HLe.out; subst e; rw [← HXi.out]; exact HQ.out) HIn.out HB3.out hg1 hown1 hat)
                have hne : ∀ b, b < w.heap.size + 3 → some b ≠ v.ownBlock := fun b hb h => absurd (HF.out.own.lt b h.symm).1 (by omega)
                have K0 := hg1.cell (cell_ext (ext_alloc w3 _) (cell_ext HB3.out y3)) (hne w.heap.size (by omega))
                have K1 := hg1.cell (cell_ext (ext_alloc w3 _) (cell_ext HB3.out r0)) (hne b' (by omega))
                have K2 := hg1.cell (cell_ext (ext_alloc w3 _) (cell_ext HB3.out r1)) (hne b' (by omega))
                have K3 := hg1.cell (cell_ext (ext_alloc w3 _) (cell_ext HB3.out r2)) (hne b' (by omega))
                have K4 := hg1.cell (cell_ext (ext_alloc w3 _) (cell_ext HB3.out r3)) (hne b' (by omega))
                clear hown1 hg1 hat hne
                have z1 := HP.out.2.cell 3 rfl
                have z2 := HP.out.2.free 3
                refine hK.out _ _ ?_ (fun hHeld => ?_)
                · exact ⟨K0, K1, K2, K3, K4⟩
                clear hK K
                (try dsimp only [Act.put, List.setIfInBounds_toArray, List.set_cons_zero, List.set_cons_succ])
                refine wpAnyH_take (i := 10) (v := ?_) rfl (by kernel_rfl) (by kernel_rfl) (by kernel_rfl) (fun _ _ _ h => h) (Or.inl ⟨by rfl, ?_⟩) (by assumption) ?_
                rotate_left
                · intro w hSw; (try dsimp only at hSw); go_simp; try with_reducible rfl
                (try dsimp only [Act.put, List.setIfInBounds_toArray, List.set_cons_zero, List.set_cons_succ])
                refine wpAnyH_ready (rs := [11]) (by kernel_rfl) (by simp) ?_
                refine AllReadyH.cons rfl (fun K hK => ?_) ?_
                · go_simp
                  refine hK.out _ _ ?_ (fun hHeld => ?_)
                  · exact ⟨Thm.cell_set_other K0 (show w.heap.size ≠ w.heap.size + 2 by omega) _, Thm.cell_set_other K1 (show b' ≠ w.heap.size + 2 by omega) _, Thm.cell_set_other K2 (show b' ≠ w.heap.size + 2 by omega) _, Thm.cell_set_other K3 (show b' ≠ w.heap.size + 2 by omega) _, Thm.cell_set_other K4 (show b' ≠ w.heap.size + 2 by omega) _⟩
                  clear hK K
                  (try dsimp only [Act.put, List.setIfInBounds_toArray, List.set_cons_zero, List.set_cons_succ])
                  refine wpAnyH_done (by kernel_rfl) ?_ _
                  go_wp2_with fail
                  go_roundw
                  case rel =>
                    have h := HP.out.1
                    refine ⟨i + 1, l' ++ [.mk k3 s3 n3 A3 c3 l3], .slice (some ⟨g5, 0, none⟩) (l'.length + 1) c5, by go_num, by omega, Lib.hid (by have := HLe.out; simp; omega), Lib.hid h⟩
                  case measure => simp [intOf]; omega
                exact AllReadyH.nil
              exact AllReadyH.nil
            exact AllReadyH.nil
          exact AllReadyH.nil
        refine AllReadyH.cons rfl (fun K hK => ?_) ?_
        · go_simp
          go_at_call 10
          refine (HCc.out _ hdr).mono ?_
          rintro e w3 ⟨x', rfl, hq, hb3, hin⟩
          have HQ := Lib.hid hq
          have HB3 := Lib.hid (ext_trans hdr hb3)
          have HIn := Lib.hid (hin.weak (fun b hb => Nat.lt_of_lt_of_le hb hdr.size))
          clear hq hb3 hin
          obtain ⟨k3, s3, n3, A3, c3, l3⟩ := x'
          have g3 := cell_ext HB3.out HG3.out
          have g3x := fun ob => cell_ext (ext_alloc w3 ob) g3
          unfold ndV
          go_wp2_with fail
          refine hK.out _ _ ?_ (fun hHeld => ?_)
          · exact ⟨cell_ext HB3.out y3, cell_ext HB3.out r0, cell_ext HB3.out r1, cell_ext HB3.out r2, cell_ext HB3.out r3⟩
          clear hK K
          (try dsimp only [Act.put, List.setIfInBounds_toArray, List.set_cons_zero, List.set_cons_succ])
          refine wpAnyH_ready (rs := [1, 8]) (by kernel_rfl) (by simp) ?_
          refine AllReadyH.cons rfl (fun K hK => ?_) ?_
          · go_simp
            refine hK.out _ _ ?_ (fun hHeld => ?_)
            · exact ⟨cell_ext HB3.out y3, cell_ext HB3.out r0, cell_ext HB3.out r1, cell_ext HB3.out r2, cell_ext HB3.out r3⟩
            clear hK K
            (try dsimp only [Act.put, List.setIfInBounds_toArray, List.set_cons_zero, List.set_cons_succ])
            refine wpAnyH_ready (rs := [8]) (by kernel_rfl) (by simp) ?_
            refine AllReadyH.cons rfl (fun K hK => ?_) ?_
            · go_simp
              refine hK.out _ _ ?_ (fun hHeld => ?_)
              · exact ⟨cell_ext (ext_alloc _ _) (cell_ext HB3.out y3), cell_ext (ext_alloc _ _) (cell_ext HB3.out r0), cell_ext (ext_alloc _ _) (cell_ext HB3.out r1), cell_ext (ext_alloc _ _) (cell_ext HB3.out r2), cell_ext (ext_alloc _ _) (cell_ext HB3.out r3)⟩
              clear hK K
              (try dsimp only [Act.put, List.setIfInBounds_toArray, List.set_cons_zero, List.set_cons_succ])
              refine wpAnyH_ready (rs := [9]) (by kernel_rfl) (by simp) ?_
              refine AllReadyH.cons rfl (fun K hK => ?_) ?_
              · refine step_append_lies _ rfl (.tmp 20) (.tmp 27) 42 rfl (w.heap.size + 3) 44 j0 _ 4 64 Tryz.underlying42 HJ.out HJ0.out HJ1.out HJ2.out rfl (by omega) v l'.length _ rfl (World.ownsRow.alloc (own_ext HF.out.own HB3.out) _) ⟨w3.heap.size, 0, none⟩ 1 1 [.string ⟨k3.toArray⟩, .string ⟨s3.toArray⟩, .int .i64 n3, .slice A3 l3.length c3] rfl rfl (new_cells w3 [.string ⟨k3.toArray⟩, .string ⟨s3.toArray⟩, .int .i64 n3, .slice A3 l3.length c3] _ _ rfl) (nd_one (.mk k3 s3 n3 A3 c3 l3)) (by omega) (by have := HLe.out; simp only [maxLen]; omega) (by have := HLe.out; omega) (by have := HB3.out.size; simp; omega) _ rfl ?_
                intro g5 c5 w5 hown1 hg1 hat _
                have HP := Lib.hid (HF.out.put (x' := .mk k3 s3 n3 A3 c3 l3) (by have := HLe.out; omega) (by have e := HLe.out; subst e; rw [← HXi.out]; exact HQ.out) HIn.out HB3.out hg1 hown1 hat)
                have hne : ∀ b, b < w.heap.size + 3 → some b ≠ v.ownBlock := fun b hb h => absurd (HF.out.own.lt b h.symm).1 (by omega)
                have K0 := hg1.cell (cell_ext (ext_alloc w3 _) (cell_ext HB3.out y3)) (hne w.heap.size (by omega))
                have K1 := hg1.cell (cell_ext (ext_alloc w3 _) (cell_ext HB3.out r0)) (hne b' (by omega))
                have K2 := hg1.cell (cell_ext (ext_alloc w3 _) (cell_ext HB3.out r1)) (hne b' (by omega))
                have K3 := hg1.cell (cell_ext (ext_alloc w3 _) (cell_ext HB3.out r2)) (hne b' (by omega))
                have K4 := hg1.cell (cell_ext (ext_alloc w3 _) (cell_ext HB3.out r3)) (hne b' (by omega))
                clear hown1 hg1 hat hne
                have z1 := HP.out.2.cell 3 rfl
                have z2 := HP.out.2.free 3
                refine hK.out _ _ ?_ (fun hHeld => ?_)
                · exact ⟨K0, K1, K2, K3, K4⟩
                clear hK K
                (try dsimp only [Act.put, List.setIfInBounds_toArray, List.set_cons_zero, List.set_cons_succ])
                refine wpAnyH_take (i := 10) (v := ?_) rfl (by kernel_rfl) (by kernel_rfl) (by kernel_rfl) (fun _ _ _ h => h) (Or.inl ⟨by rfl, ?_⟩) (by assumption) ?_
                rotate_left
                · intro w hSw; (try dsimp only at hSw); go_simp; try with_reducible rfl
                (try dsimp only [Act.put, List.setIfInBounds_toArray, List.set_cons_zero, List.set_cons_succ])
                refine wpAnyH_ready (rs := [11]) (by kernel_rfl) (by simp) ?_
                refine AllReadyH.cons rfl (fun K hK => ?_) ?_
                · go_simp
                  refine hK.out _ _ ?_ (fun hHeld => ?_)
                  · exact ⟨Thm.cell_set_other K0 (show w.heap.size ≠ w.heap.size + 2 by omega) _, Thm.cell_set_other K1 (show b' ≠ w.heap.size + 2 by omega) _, Thm.cell_set_other K2 (show b' ≠ w.heap.size + 2 by omega) _, Thm.cell_set_other K3 (show b' ≠ w.heap.size + 2 by omega) _, Thm.cell_set_other K4 (show b' ≠ w.heap.size + 2 by omega) _⟩
                  clear hK K
                  (try dsimp only [Act.put, List.setIfInBounds_toArray, List.set_cons_zero, List.set_cons_succ])
                  refine wpAnyH_done (by kernel_rfl) ?_ _
                  go_wp2_with fail
                  go_roundw
                  case rel =>
                    have h := HP.out.1
                    refine ⟨i + 1, l' ++ [.mk k3 s3 n3 A3 c3 l3], .slice (some ⟨g5, 0, none⟩) (l'.length + 1) c5, by go_num, by omega, Lib.hid (by have := HLe.out; simp; omega), Lib.hid h⟩
                  case measure => simp [intOf]; omega
                exact AllReadyH.nil
              exact AllReadyH.nil
            exact AllReadyH.nil
          refine AllReadyH.cons rfl (fun K hK => ?_) ?_
          · go_simp
            refine hK.out _ _ ?_ (fun hHeld => ?_)
            · exact ⟨cell_ext (ext_alloc _ _) (cell_ext HB3.out y3), cell_ext (ext_alloc _ _) (cell_ext HB3.out r0), cell_ext (ext_alloc _ _) (cell_ext HB3.out r1), cell_ext (ext_alloc _ _) (cell_ext HB3.out r2), cell_ext (ext_alloc _ _) (cell_ext HB3.out r3)⟩
            clear hK K
            (try dsimp only [Act.put, List.setIfInBounds_toArray, List.set_cons_zero, List.set_cons_succ])
            refine wpAnyH_ready (rs := [1]) (by kernel_rfl) (by simp) ?_
            refine AllReadyH.cons rfl (fun K hK => ?_) ?_
            · go_simp
              refine hK.out _ _ ?_ (fun hHeld => ?_)
              · exact ⟨cell_ext (ext_alloc _ _) (cell_ext HB3.out y3), cell_ext (ext_alloc _ _) (cell_ext HB3.out r0), cell_ext (ext_alloc _ _) (cell_ext HB3.out r1), cell_ext (ext_alloc _ _) (cell_ext HB3.out r2), cell_ext (ext_alloc _ _) (cell_ext HB3.out r3)⟩
              clear hK K
              (try dsimp only [Act.put, List.setIfInBounds_toArray, List.set_cons_zero, List.set_cons_succ])
              refine wpAnyH_ready (rs := [9]) (by kernel_rfl) (by simp) ?_
              refine AllReadyH.cons rfl (fun K hK => ?_) ?_
              · refine step_append_lies _ rfl (.tmp 20) (.tmp 27) 42 rfl (w.heap.size + 3) 44 j0 _ 4 64 Tryz.underlying42 HJ.out HJ0.out HJ1.out HJ2.out rfl (by omega) v l'.length _ rfl (World.ownsRow.alloc (own_ext HF.out.own HB3.out) _) ⟨w3.heap.size, 0, none⟩ 1 1 [.string ⟨k3.toArray⟩, .string ⟨s3.toArray⟩, .int .i64 n3, .slice A3 l3.length c3] rfl rfl (new_cells w3 [.string ⟨k3.toArray⟩, .string ⟨s3.toArray⟩, .int .i64 n3, .slice A3 l3.length c3] _ _ rfl) (nd_one (.mk k3 s3 n3 A3 c3 l3)) (by omega) (by have := HLe.out; simp only [maxLen]; omega) (by have := HLe.out; omega) (by have := HB3.out.size; simp; omega) _ rfl ?_
                intro g5 c5 w5 hown1 hg1 hat _
                have HP := Lib.hid (HF.out.put (x' := .mk k3 s3 n3 A3 c3 l3) (by have := HLe.out; omega) (by have e := HLe.out; subst e; rw [← HXi.out]; exact HQ.out) HIn.out HB3.out hg1 hown1 hat)
                have hne : ∀ b, b < w.heap.size + 3 → some b ≠ v.ownBlock := fun b hb h => absurd (HF.out.own.lt b h.symm).1 (by omega)
                have K0 := hg1.cell (cell_ext (ext_alloc w3 _) (cell_ext HB3.out y3)) (hne w.heap.size (by omega))
                have K1 := hg1.cell (cell_ext (ext_alloc w3 _) (cell_ext HB3.out r0)) (hne b' (by omega))
                have K2 := hg1.cell (cell_ext (ext_alloc w3 _) (cell_ext HB3.out r1)) (hne b' (by omega))
                have K3 := hg1.cell (cell_ext (ext_alloc w3 _) (cell_ext HB3.out r2)) (hne b' (by omega))
                have K4 := hg1.cell (cell_ext (ext_alloc w3 _) (cell_ext HB3.out r3)) (hne b' (by omega))
                clear hown1 hg1 hat hne
                have z1 := HP.out.2.cell 3 rfl
                have z2 := HP.out.2.free 3
                refine hK.out _ _ ?_ (fun hHeld => ?_)
                · exact ⟨K0, K1, K2, K3, K4⟩
                clear hK K
                (try dsimp only [Act.put, List.setIfInBounds_toArray, List.set_cons_zero, List.set_cons_succ])
                refine wpAnyH_take (i := 10) (v := ?_) rfl (by kernel_rfl) (by kernel_rfl) (by kernel_rfl) (fun _ _ _ h => h) (Or.inl ⟨by rfl, ?_⟩) (by assumption) ?_
                rotate_left
                · intro w hSw; (try dsimp only at hSw); go_simp; try with_reducible rfl
                (try dsimp only [Act.put, List.setIfInBounds_toArray, List.set_cons_zero, List.set_cons_succ])
                refine wpAnyH_ready (rs := [11]) (by kernel_rfl) (by simp) ?_
                refine AllReadyH.cons rfl (fun K hK => ?_) ?_
                · go_simp
                  refine hK.out _ _ ?_ (fun hHeld => ?_)
                  · exact ⟨Thm.cell_set_other K0 (show w.heap.size ≠ w.heap.size + 2 by omega) _, Thm.cell_set_other K1 (show b' ≠ w.heap.size + 2 by omega) _, Thm.cell_set_other K2 (show b' ≠ w.heap.size + 2 by omega) _, Thm.cell_set_other K3 (show b' ≠ w.heap.size + 2 by omega) _, Thm.cell_set_other K4 (show b' ≠ w.heap.size + 2 by omega) _⟩
                  clear hK K
                  (try dsimp only [Act.put, List.setIfInBounds_toArray, List.set_cons_zero, List.set_cons_succ])
                  refine wpAnyH_done (by kernel_rfl) ?_ _
                  go_wp2_with fail
                  go_roundw
                  case rel =>
                    have h := HP.out.1
                    refine ⟨i + 1, l' ++ [.mk k3 s3 n3 A3 c3 l3], .slice (some ⟨g5, 0, none⟩) (l'.length + 1) c5, by go_num, by omega, Lib.hid (by have := HLe.out; simp; omega), Lib.hid h⟩
                  case measure => simp [intOf]; omega
                exact AllReadyH.nil
              exact AllReadyH.nil
            exact AllReadyH.nil
          exact AllReadyH.nil
        exact AllReadyH.nil
      · obtain rfl : l.length = i := by omega
        have hlc : ¬ (l.length : Int) < (l.length : Int) := by omega
        have HF0 := Lib.hid HF.out
        obtain ⟨A2, c2, rfl, hc1, hc2⟩ := own_slice HF.out.own
        have k0 := HF0.out.bG.cell 0 rfl
        have k1 := HF0.out.bG.cell 1 rfl
        have k2 := HF0.out.bG.cell 2 rfl
        have k3 := HF0.out.bG.cell 3 rfl
        have q0 := HF0.out.bR.cell 0 rfl
        have q1 := HF0.out.bR.cell 1 rfl
        have q2 := HF0.out.bR.cell 2 rfl
        have q3 := HF0.out.bR.cell 3 rfl
        have f0 := HF0.out.bR.free 0
        have f1 := HF0.out.bR.free 1
        have f2 := HF0.out.bR.free 2
        have f3 := HF0.out.bR.free 3
        have HC12 := Lib.hid (And.intro hc1 hc2)
        clear hc1 hc2 HF
        go_wp2_with fail
        have s0 := (HF0.out.bR.set 0 (.string ⟨k.toArray⟩)).cell 0 rfl
        have s1 := ((HF0.out.bR.set 0 (.string ⟨k.toArray⟩)).set 1 (.string ⟨s.toArray⟩)).cell 1 rfl
        have s2 := (((HF0.out.bR.set 0 (.string ⟨k.toArray⟩)).set 1 (.string ⟨s.toArray⟩)).set 2 (.int .i64 n)).cell 2 rfl
        have s3 := ((((HF0.out.bR.set 0 (.string ⟨k.toArray⟩)).set 1 (.string ⟨s.toArray⟩)).set 2 (.int .i64 n)).set 3 (.slice A2 l'.length c2)).cell 3 rfl
        refine bodyPost_ret (v := .agg #[.string ⟨k.toArray⟩, .string ⟨s.toArray⟩, .int .i64 n, .slice A2 l'.length c2]) (by simp [results, Tryz.results10, go_sem, s0, s1, s2, s3]) rfl ⟨.mk k s n A2 c2 l', rfl, ⟨rfl, rfl, rfl, HLe.out.symm, fun j h1 h2 => HF0.out.eqv j h2 h1⟩, ?_, ⟨?_, ?_, ⟨HC12.out.1, HC12.out.2, HL.out.2.2.1, HL.out.2.2.2⟩, ?_⟩⟩
        · exact below_set (below_set (below_set (below_set HF0.out.bel (by simp) _) (by simp) _) (by simp) _) (by simp) _
        · have h1 := ownsRow_setCell_below HF0.out.own (a := ⟨w.heap.size + 1, 0, none⟩) (by simp) (.string ⟨k.toArray⟩)
          have h2 := ownsRow_setCell_below h1 (a := ⟨w.heap.size + 1, 1, none⟩) (by simp) (.string ⟨s.toArray⟩)
          have h3 := ownsRow_setCell_below h2 (a := ⟨w.heap.size + 1, 2, none⟩) (by simp) (.int .i64 n)
          exact Rd.of_own (ownsRow_setCell_below h3 (a := ⟨w.heap.size + 1, 3, none⟩) (by simp) (.slice A2 l'.length c2))
        · intro a ha hl2 hb
          subst ha
          have := (HF0.out.own.lt a.block rfl).1
          omega
        · intro x hx
          have h0 := HF0.out.ins x hx
          have h1 := h0.setCell (a := ⟨w.heap.size + 1, 0, none⟩) (.inl (by simp)) (.string ⟨k.toArray⟩)
          have h2 := h1.setCell (a := ⟨w.heap.size + 1, 1, none⟩) (.inl (by simp)) (.string ⟨s.toArray⟩)
          have h3 := h2.setCell (a := ⟨w.heap.size + 1, 2, none⟩) (.inl (by simp)) (.int .i64 n)
          exact (h3.setCell (a := ⟨w.heap.size + 1, 3, none⟩) (.inl (by simp)) (.slice A2 l'.length c2)).weak fun b hb => .inl (by omega)
end Go.Proofs.YtnchlnfenebomaaGreatDoor.Hd

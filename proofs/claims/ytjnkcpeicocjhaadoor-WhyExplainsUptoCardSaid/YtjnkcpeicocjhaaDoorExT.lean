/- What Explain hands to Run: each step that is told is laid behind the others. -/
import Derived.Test.YtjnkcpeicocjhaaDoorExF
import Derived.Test.YtjnkcpeicocjhaaDoorRun
namespace Go.Proofs.YtjnkcpeicocjhaaDoor.Exp
open Go.RowKit Mem Thy Nest Day Thm MapSet Sol ChkW WhySound

theorem cell_low {n : Nat} {w w' : World} (h : Below n w w') {a : Addr} {v : Value} (ha : a.block < n) (hc : w.cell? a = some v) : w'.cell? a = some v := by
  rw [h.cell ha]; exact hc
theorem rd_low {n : Nat} {w w' : World} {A : Option Addr} {cs : List Value} (h : Rd w A cs) (l : LowA n A cs) (hb : Below n w w') : Rd w' A cs := fun j u hj => by
  obtain ⟨b, o, e, hc⟩ := h j u hj
  obtain ⟨b', o', e', hl⟩ := l (by rintro rfl; simp at hj)
  rw [e] at e'
  simp only [Option.some.injEq, Addr.mk.injEq, and_true] at e'
  obtain ⟨rfl, rfl⟩ := e'
  exact ⟨b, o, e, cell_low hb hl hc⟩
theorem set_grown' (w : World) (a : Addr) (u : Value) : w.grownBy (w.setCell a u) (some a.block) :=
  ⟨by simp [World.setCell], by simp [World.setCell], by simp [World.setCell], by simp [World.setCell], fun k hk hne => by
    have h : k ≠ a.block := fun e => hne (by rw [e])
    simp [World.setCell, Array.getElem?_modify, Ne.symm h]⟩
theorem own_set' {w : World} {base : Nat} {e : TypeId} {size n : Nat} {v : Value} {xs : List Value} (h : w.ownsRow base e size v n xs) {a : Addr} (ha : v.ownBlock ≠ some a.block) (u : Value) : (w.setCell a u).ownsRow base e size v n xs :=
  h.kept (set_grown' w a u) (.inr ha)
theorem blk_grown' {w w' : World} {B : Nat} {T : TypeId} {cs : List Value} {row : Option Nat} (h : Blk w B T cs) (hg : w.grownBy w' row) (hne : row ≠ some B) : Blk w' B T cs := by
  have hl := h.lt
  unfold Blk at h ⊢
  rw [hg.block B hl (Ne.symm hne)]
  exact h
/-- where the steps are gathered: the variable's block, where the row's blocks begin -/
structure Apart (p : SvP) (L B2 : Nat) : Prop where
  b : L < p.B
  m : L < p.mb
  lo : L < p.lo
  b2 : p.B < B2
  m2 : p.mb < B2
  s2 : p.sb < B2
  h2 : p.hb < B2
  n : p.N ≤ 120
  ok : p.Ok
  ra : LowA L p.RA (p.rs.flatMap rwCells)
  rb : ∀ r ∈ p.rs, LowA L r.A (ints r.body)
def pCells (l : List (Bool × Bool × Int)) : List Value := (l.map toSp).flatMap spCells
def Gather (L B2 : Nat) (w : World) (l : List (Bool × Bool × Int)) : Prop :=
  ∃ v, Blk w L 65 [v] ∧ w.ownsRow B2 73 3 v l.length (pCells l)
section
variable {p : SvP} {L B2 : Nat} {w w' : World} {S H : List Int} {l : List (Bool × Bool × Int)}
theorem Apart.l2 (a : Apart p L B2) : L < B2 := by have := a.b; have := a.b2; omega
theorem sv_low (h : Sv w p S H) (a : Apart p L B2) (hb : Below B2 w w') : Sv w' p S H := by
  have hl := a.l2
  exact ⟨h.blk.ext (hb.mono (by have := a.b2; omega)), ⟨rd_low h.rules.rows (a.ra.mono (by omega)) hb, fun r hr => rd_low (h.rules.bods r hr) ((a.rb r hr).mono (by omega)) hb, h.rules.lens, h.rules.len⟩, h.sure.ext (hb.mono (by have := a.s2; omega)), h.holds.ext (hb.mono (by have := a.h2; omega)), h.abv.keep a.m2 hb, h.ls, h.lh⟩
theorem sv_set (h : Sv w p S H) (a : Apart p L B2) (v : Value) : Sv (w.setCell ⟨L, 0, none⟩ v) p S H := by
  have h1 := a.b
  have h2 := a.m
  have h3 := a.lo
  have h4 := a.ok.d2
  have h5 := a.ok.d3
  refine ⟨blk_set h.blk (show p.B ≠ L by omega) v, ⟨rd_set h.rules.rows a.ra (Nat.le_refl L) v, fun r hr => rd_set (h.rules.bods r hr) (a.rb r hr) (Nat.le_refl L) v, h.rules.lens, h.rules.len⟩, blk_set h.sure (show p.sb ≠ L by omega) v, blk_set h.holds (show p.hb ≠ L by omega) v, ?_, h.ls, h.lh⟩
  obtain ⟨D, ⟨es, cl, e1, e2⟩, hs⟩ := h.abv
  refine ⟨D, ⟨es, cl, ?_, e2⟩, hs⟩
  rw [← e1]
  simp [World.setCell, Array.getElem?_modify, show L ≠ p.mb by omega]
theorem own_high {base : Nat} {e : TypeId} {size n : Nat} {v : Value} {xs : List Value} (h : w.ownsRow base e size v n xs) {B : Nat} (hB : B < base) : v.ownBlock ≠ some B := fun hb => by
  have := (h.lt B hb).1
  omega
theorem Gather.ext (h : Gather L B2 w l) (hb : Below w.heap.size w w') : Gather L B2 w' l := by
  obtain ⟨v, h1, h2⟩ := h
  exact ⟨v, blk_ext h1 hb, own_ext h2 hb⟩
theorem Gather.set (h : Gather L B2 w l) {B : Nat} (hB : B < B2) (hL : L ≠ B) (k : Nat) (u : Value) : Gather L B2 (w.setCell ⟨B, k, none⟩ u) l := by
  obtain ⟨v, h1, h2⟩ := h
  exact ⟨v, blk_set h1 hL u, own_set' h2 (own_high h2 hB) u⟩
theorem Gather.say (h : Gather L B2 w l) (ap : Apart p L B2) (a b : Bool) (q : Int) : Gather L B2 (sayW p a b q w) l := by
  have h1 := ap.s2
  have h2 := ap.h2
  have h3 := ap.lo
  have h4 := ap.ok.d2
  have h5 := ap.ok.d3
  cases a <;> cases b
  · exact h.set h2 (by omega) _ _
  · exact (h.set h2 (by omega) _ _).set h2 (by omega) _ _
  · exact h.set h1 (by omega) _ _
  · exact (h.set h1 (by omega) _ _).set h1 (by omega) _ _
end
set_option maxRecDepth 100000 in
set_option maxHeartbeats 1000000 in
theorem told_any (p : SvP) (L B2 : Nat) (ap : Apart p L B2) (w : World) (l : List (Bool × Bool × Int)) (S H : List Int) (a b : Bool) (q : Int) (g1 g2 : Nat) (hS : Sv w p S H) (hI : Gather L B2 w l) (hB : B2 ≤ w.heap.size) (h1 : Blk w g1 4 bools2) (h2 : Blk w g2 4 bools2) (hl : l.length ≤ 1000) :
    Calls Tryd.prog 52 #[.bool a, .bool b, .int .i64 q, .pointer (some ⟨L, 0, none⟩)] w fun e w' => (∃ v, e = .returned v) ∧ Sv w' p S H ∧ Gather L B2 w' (l ++ [(a, b, q)]) ∧ Blk w' g1 4 bools2 ∧ Blk w' g2 4 bools2 ∧ Below L w w' := by
  obtain ⟨v, hv, ho⟩ := hI
  obtain ⟨A, c, rfl, hc1, hc2⟩ := own_slice ho
  obtain ⟨i0, hi, hz0, hz1, hz2⟩ := info_parts step_info
  have HI := Lib.hid hi
  have HZ0 := Lib.hid hz0
  have HZ1 := Lib.hid hz1
  have HZ2 := Lib.hid hz2
  have hal := ext_alloc w (.cells #[.bool a, .bool b, .int .i64 q] 73)
  have HO := Lib.hid (own_ext ho hal)
  have HL := Lib.hid (blk_ext hv hal)
  have HS := Lib.hid (hS.ext hal)
  have H1 := Lib.hid (blk_ext h1 hal)
  have H2 := Lib.hid (blk_ext h2 hal)
  have HA := Lib.hid hal
  have AP := Lib.hid ap
  have x0 := hv.cell 0 rfl
  have HBS := Lib.hid hB
  have HLL := Lib.hid hl
  clear hv ho hc1 hc2 hi hz0 hz1 hz2 hal hS h1 h2 ap hB hl
  go_enter Tryd.func52, Tryd.ntmps52
  go_wp2_with (at_builtin; go_loud (refine wpList_append_own _ rfl (.tmp 7) (.tmp 12) _ rfl B2 73 i0 _ 3 16 Tryd.underlying65 HI.out HZ0.out HZ1.out HZ2.out rfl (by omega) _ l.length _ rfl HO.out ⟨w.heap.size, 0, none⟩ 1 1 [.bool a, .bool b, .int .i64 q] rfl rfl (new_cells w [.bool a, .bool b, .int .i64 q] _ _ rfl) (by intro u hu; simp only [List.mem_cons, List.not_mem_nil, or_false] at hu; rcases hu with rfl | rfl | rfl <;> rfl) (by have := HLL.out; simp only [maxLen]; omega) (by have := HLL.out; omega) (by have := HBS.out; simp; omega) ?_; intro v1 w3 hown hg _; have HO1 := Lib.hid hown; have HG := Lib.hid hg; obtain ⟨A1, c1, hv1, _⟩ := own_slice hown; subst hv1; have HL1 := Lib.hid (blk_grown' HL.out hg (own_high HO.out AP.out.l2)); have y0 := HL1.out.cell 0 rfl; have y1 := HL1.out.free 0; clear hown hg))
  go_end0
  have hl2 := AP.out.l2
  have hbs := HBS.out
  have hgb : ∀ k, (Value.slice A l.length c).ownBlock = some k → B2 ≤ k := fun k hk => (HO.out.lt k hk).1
  have hlow : Below B2 (w.alloc (.cells #[.bool a, .bool b, .int .i64 q] 73)) w3 := (Below.refl B2 _).grown HG.out (by simp; omega) hgb
  have hap : pCells (l ++ [(a, b, q)]) = pCells l ++ [.bool a, .bool b, .int .i64 q] := by
    unfold pCells
    rw [List.map_append, sps_app]
    rfl
  have hkind : ∀ g, Blk (w.alloc (.cells #[.bool a, .bool b, .int .i64 q] 73)) g 4 bools2 → (Value.slice A l.length c).ownBlock ≠ some g := fun g hg e => by
    obtain ⟨c', fz, hk⟩ := Lib.ownsRow_kind HO.out g e
    unfold Blk at hg
    rw [hg] at hk
    simp at hk
  have hne : ∀ g, Blk w3 g 4 bools2 → g ≠ L := fun g hg e => by
    subst e
    have h2 := HL1.out
    unfold Blk at hg h2
    rw [hg] at h2
    simp at h2
  have k1 := blk_grown' H1.out HG.out (hkind _ H1.out)
  have k2 := blk_grown' H2.out HG.out (hkind _ H2.out)
  refine ⟨⟨_, rfl⟩, sv_set (sv_low HS.out AP.out hlow) AP.out _, ⟨_, HL1.out.set 0 _, ?_⟩, blk_set k1 (hne _ k1) _, blk_set k2 (hne _ k2) _, ?_⟩
  · rw [hap, List.length_append, List.length_singleton]
    exact own_set' HO1.out (own_high HO1.out hl2) _
  · exact ((HA.out.mono (by omega)).trans (hlow.mono (by omega))).setCell (Nat.le_refl L) _
end Go.Proofs.YtjnkcpeicocjhaaDoor.Exp

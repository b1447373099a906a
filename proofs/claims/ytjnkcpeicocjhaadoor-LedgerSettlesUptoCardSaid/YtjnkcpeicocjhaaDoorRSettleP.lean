/- Settling claims: the document's own function; its parts. -/
import Derived.Test.YtjnkcpeicocjhaaDoorSettle
import Derived.Test.YtjnkcpeicocjhaaDoorRVal
import Derived.Laws.OwnMore
import Derived.Test.YtjnkcpeicocjhaaDoorSol
namespace Go.Proofs.YtjnkcpeicocjhaaDoor.RSettle
open Go.RowKit Mem Pays Nest Claims Settle

set_option maxRecDepth 100000 in
/-- what is due of the last claim -/
theorem right_any (d : Int) (A : Option Addr) (c : Nat) (ps : List Pay) (w : World) (hr : Rd w A (ps.flatMap payCells)) (hn : ps.length ≤ 400) (hc : ∀ p ∈ ps, -1000000000000 ≤ p.2.2 ∧ p.2.2 ≤ 1000000000000) :
    Calls Tryd.prog 43 #[.agg #[.int .i64 d, .slice A ps.length c]] w fun e w' => e = .returned (.int .i64 (overSum d ps)) ∧ Below w.heap.size w w' := by
  have HR := Lib.hid hr
  have HC := Lib.hid hc
  clear hr hc
  go_enter Tryd.func43, Tryd.ntmps43
  go_wp2_with fail
  go_loopw [3, 4] (fun s i wr => Hid (Below w.heap.size w wr) ∧ Hid (Blk wr w.heap.size 116 [.int .i64 d, .slice A ps.length c]) ∧ ∃ k : Nat, s = .int .i64 (overSum d (ps.take k)) ∧ i = .int .i64 k ∧ k ≤ ps.length) (fun _ i _ => (ps.length - intOf i).toNat)
  case atStart => exact ⟨ext_alloc w _, Blk.new _ _ [_, _], 0, by simp [overSum, sumL], rfl, by omega⟩
  case round =>
    obtain ⟨HB, HX, k, rfl, rfl, hk⟩ := hrel
    have x0 := HX.out.cell 0 rfl
    have x1 := HX.out.cell 1 rfl
    have hbd := overSum_bd d (ps.take k) (fun p hp => HC.out p (List.mem_of_mem_take hp))
    rw [List.length_take] at hbd
    obtain ⟨hb1, hb2⟩ : -400000000000000 ≤ overSum d (ps.take k) ∧ overSum d (ps.take k) ≤ 400000000000000 := by
      have : ((min k ps.length : Nat) : Int) ≤ 400 := by omega
      omega
    clear hbd
    by_cases hlk : k < ps.length
    · have hck : (k : Int) < ps.length := by omega
      obtain ⟨hc1, hc2⟩ := HC.out _ (List.getElem_mem hlk)
      obtain ⟨b, o, rfl, p0, p1, p2⟩ := pay_at (HR.out.ext HB.out) hlk
      have HT := Lib.hid (overSum_take d ps k hlk)
      by_cases hto : ps[k].2.1 ≤ d
      · go_wp2_with fail
        go_quiet (fail)
        go_wp2_with fail
        go_roundw
        case rel =>
          refine ⟨HB.out.trans ((ext_drewN _ nq).mono HB.out.size), HX.out.ext (below_drewN (Below.refl _ _) nq), k + 1, ?_, by simp, by omega⟩
          rw [HT.out, if_pos hto]
        case measure => simp [intOf]; omega
      · have hto2 : decide (ps[k].2.1 ≤ d) = false := by simpa using hto
        go_wp2_with fail
        go_quiet (fail)
        go_wp2_with fail
        go_roundw
        case rel =>
          refine ⟨HB.out.trans ((ext_drewN _ nq).mono HB.out.size), HX.out.ext (below_drewN (Below.refl _ _) nq), k + 1, ?_, by simp, by omega⟩
          rw [HT.out, if_neg (show ¬ ps[k].2.1 ≤ d by omega)]
          simp
        case measure => simp [intOf]; omega
    · have hck : ¬ (k : Int) < ps.length := by omega
      have hk2 : k = ps.length := by omega
      have HK2 := Lib.hid (show overSum d (ps.take k) = overSum d ps by rw [hk2, List.take_length])
      clear hk2
      go_wp2_with fail
      go_ret
      exact ⟨by rw [← HK2.out]; rfl, HB.out⟩
/-- a store into a block keeps every other -/
theorem set_grown (w : World) (a : Addr) (u : Value) : w.grownBy (w.setCell a u) (some a.block) :=
  ⟨by simp [World.setCell], by simp [World.setCell], by simp [World.setCell], by simp [World.setCell], fun k hk hne => by
    have h : k ≠ a.block := fun e => hne (by rw [e])
    simp [World.setCell, Array.getElem?_modify, Ne.symm h]⟩
theorem own_set {w : World} {base : Nat} {e : TypeId} {size n : Nat} {v : Value} {xs : List Value} (h : w.ownsRow base e size v n xs) {a : Addr} (ha : v.ownBlock ≠ some a.block) (u : Value) : (w.setCell a u).ownsRow base e size v n xs :=
  h.kept (set_grown w a u) (.inr ha)
theorem rline_info : (Tryd.prog.info? 128).map (fun i => (i.zero, i.size, i.bytes)) = some (some (.agg #[.string ⟨#[]⟩, .int .i64 0]), 2, 24) := by kernel_rfl
theorem rentry_info : (Tryd.prog.info? 59).map (fun i => (i.zero, i.size, i.bytes)) = some (some (.agg #[.int .i64 0, .string ⟨#[]⟩, .slice none 0 0]), 3, 48) := by kernel_rfl
theorem blk_grown {w w' : World} {B : Nat} {T : TypeId} {cs : List Value} {row : Option Nat} (h : Blk w B T cs) (hg : w.grownBy w' row) (hne : row ≠ some B) : Blk w' B T cs := by
  have hl := h.lt
  unfold Blk at h ⊢
  rw [hg.block B hl (Ne.symm hne)]
  exact h
theorem own_ne {w : World} {base n B : Nat} {v : Value} {xs cs : List Value} (h : w.ownsRow base 128 2 v n xs) (hx : Blk w B 59 cs) : v.ownBlock ≠ some B := fun e => by
  obtain ⟨c, fz, hk⟩ := Lib.ownsRow_kind h B e
  unfold Blk at hx
  rw [hx] at hk
  simp at hk
/-- a line more, put into the entry -/
theorem put_after {w2 X w3 : World} {B n : Nat} {d t L v1 : Value} {cs cs' : List Value} {o : Obj} (hO : X.ownsRow w2.heap.size 128 2 L n cs) (hX : Blk X B 59 [d, t, L]) (hB : Below w2.heap.size w2 X) (hlt : w2.heap.size ≤ B)
    (hown : w3.ownsRow w2.heap.size 128 2 v1 (n + 1) cs') (hg : (X.alloc o).grownBy w3 L.ownBlock) :
    Blk w3 B 59 [d, t, L] ∧ Blk (w3.setCell ⟨B, 2, none⟩ v1) B 59 [d, t, v1] ∧ (w3.setCell ⟨B, 2, none⟩ v1).ownsRow w2.heap.size 128 2 v1 (n + 1) cs' ∧ Below w2.heap.size w2 (w3.setCell ⟨B, 2, none⟩ v1) := by
  have h1 : Blk w3 B 59 [d, t, L] := blk_grown (Sol.blk_ext hX (ext_alloc X o)) hg (own_ne hO hX)
  refine ⟨h1, h1.set 2 v1, own_set hown (own_ne hown h1) v1, ?_⟩
  exact Below.setCell ((hB.alloc hB.size o).grown hg (by have := hB.size; simp; omega) (fun g hg => (hO.lt g hg).1)) (p := ⟨B, 2, none⟩) hlt v1
end Go.Proofs.YtjnkcpeicocjhaaDoor.RSettle

/- A theory's solver: what is said. -/
import Derived.Test.YtipbmpakdcmdoaaDoorSol6
import Derived.Test.YtipbmpakdcmdoaaDoorRunP
namespace Go.Proofs.YtipbmpakdcmdoaaDoor.Sol
open Go.RowKit Mem Thy Nest Day Thm MapSet

theorem set_keep {n : Nat} {a : Addr} (w : World) (ha : n ≤ a.block) (v : Value) : Below n w (w.setCell a v) := (Below.refl n w).setCell ha v
theorem Sv.set_sure {w : World} {p : SvP} {S H : List Int} (h : Sv w p S H) (ok : p.Ok) (k : Nat) (v : Int) : Sv (w.setCell ⟨p.sb, k, none⟩ (.int .i64 v)) p (S.set k v) H := by
  have d1 := ok.d1; have d2 := ok.d2; have d3 := ok.d3; have d4 := ok.d4; have dm := ok.dm
  refine ⟨blk_set h.blk (show p.B ≠ p.sb by omega) _, ⟨rd_set h.rules.rows ok.ra (show p.lo ≤ p.sb by omega) _, fun r hr => rd_set (h.rules.bods r hr) (ok.rb r hr) (show p.lo ≤ p.sb by omega) _, h.rules.lens, h.rules.len⟩, ?_, blk_set h.holds (show p.hb ≠ p.sb from fun e => d4 e.symm) _, h.abv.keep (B := p.lo) dm (set_keep w (show p.lo ≤ p.sb by omega) _), by simp [h.ls], h.lh⟩
  have := h.sure.set k (.int .i64 v)
  simpa [ints, List.map_set] using this
theorem Sv.set_holds {w : World} {p : SvP} {S H : List Int} (h : Sv w p S H) (ok : p.Ok) (k : Nat) (v : Int) : Sv (w.setCell ⟨p.hb, k, none⟩ (.int .i64 v)) p S (H.set k v) := by
  have d1 := ok.d1; have d2 := ok.d2; have d3 := ok.d3; have d4 := ok.d4; have dm := ok.dm
  refine ⟨blk_set h.blk (show p.B ≠ p.hb by omega) _, ⟨rd_set h.rules.rows ok.ra (show p.lo ≤ p.hb by omega) _, fun r hr => rd_set (h.rules.bods r hr) (ok.rb r hr) (show p.lo ≤ p.hb by omega) _, h.rules.lens, h.rules.len⟩, blk_set h.sure (show p.sb ≠ p.hb from d4) _, ?_, h.abv.keep (B := p.lo) dm (set_keep w (show p.lo ≤ p.hb by omega) _), h.ls, by simp [h.lh]⟩
  have := h.holds.set k (.int .i64 v)
  simpa [ints, List.map_set] using this
/-- the world behind Say -/
def sayW (p : SvP) (a b : Bool) (q : Int) (w : World) : World := match a, b with
  | true, true => (w.setCell ⟨p.sb, place q, none⟩ (.int .i64 2)).setCell ⟨p.sb, place q, none⟩ (.int .i64 1)
  | true, false => w.setCell ⟨p.sb, place q, none⟩ (.int .i64 2)
  | false, true => (w.setCell ⟨p.hb, place q, none⟩ (.int .i64 2)).setCell ⟨p.hb, place q, none⟩ (.int .i64 1)
  | false, false => w.setCell ⟨p.hb, place q, none⟩ (.int .i64 2)
theorem Sv.said {w : World} {p : SvP} {S H : List Int} (h : Sv w p S H) (ok : p.Ok) (a b : Bool) (q : Int) : Sv (sayW p a b q w) p (setS a b q S) (setH a b q H) := by
  cases a <;> cases b
  · exact h.set_holds ok _ _
  · have := (h.set_holds ok (place q) 2).set_holds ok (place q) 1
    simpa [sayW, setS, setH, val] using this
  · exact h.set_sure ok _ _
  · have := (h.set_sure ok (place q) 2).set_sure ok (place q) 1
    simpa [sayW, setS, setH, val] using this
set_option maxRecDepth 100000 in
set_option maxHeartbeats 1000000 in
theorem say_any (p : SvP) (S H : List Int) (ok : p.Ok) (a b : Bool) (q : Int) (hq : p.th.Lit q) (w : World) (hS : Sv w p S H) :
    Calls Tryd.prog 69 #[.pointer (some ⟨p.B, 0, none⟩), .bool a, .bool b, .int .i64 q] w fun e w' => (∃ v, e = .returned v) ∧ w' = sayW p a b q w := by
  have hn := ok.n
  obtain ⟨q0, q1, q2⟩ := lit_bd hq
  have hp0 : (0 : Int) ≤ ((place q : Nat) : Int) := by omega
  have hp1 : ((place q : Nat) : Int) < ((2 * p.N : Nat) : Int) := by
    have := place_lt q0 q1 q2
    omega
  have HP := Lib.hid (place_any q q0 (by omega) (by omega))
  have h3 : w.cell? ⟨p.B, 3, none⟩ = some (.slice (some ⟨p.sb, 0, none⟩) (2 * p.N) (2 * p.N)) := hS.blk.cell 3 rfl
  have h4 : w.cell? ⟨p.B, 4, none⟩ = some (.slice (some ⟨p.hb, 0, none⟩) (2 * p.N) (2 * p.N)) := hS.blk.cell 4 rfl
  have c3 := hS.sure_at hq
  have c4 := hS.holds_at hq
  have f3 : w.frozen? ⟨p.sb, place q, none⟩ = false := hS.sure.free _
  have f4 : w.frozen? ⟨p.hb, place q, none⟩ = false := hS.holds.free _
  obtain ⟨z3, hz3⟩ : ∃ z, stOf S q = z := ⟨_, rfl⟩
  obtain ⟨z4, hz4⟩ : ∃ z, stOf H q = z := ⟨_, rfl⟩
  rw [hz3] at c3
  rw [hz4] at c4
  clear hS hq ok hz3 hz4
  cases a <;> cases b
  all_goals
    go_enter Tryd.func69, Tryd.ntmps69
    go_wp2_with fail
    refine (HP.out _).mono ?_
    rintro e w' ⟨rfl, rfl⟩
    go_wp2_with fail
  · go_end0
    exact ⟨⟨_, rfl⟩, rfl⟩
  · refine (HP.out _).mono ?_
    rintro e w' ⟨rfl, rfl⟩
    go_wp2_with fail
    go_end0
    exact ⟨⟨_, rfl⟩, rfl⟩
  · go_end0
    exact ⟨⟨_, rfl⟩, rfl⟩
  · refine (HP.out _).mono ?_
    rintro e w' ⟨rfl, rfl⟩
    go_wp2_with fail
    go_end0
    exact ⟨⟨_, rfl⟩, rfl⟩
end Go.Proofs.YtipbmpakdcmdoaaDoor.Sol

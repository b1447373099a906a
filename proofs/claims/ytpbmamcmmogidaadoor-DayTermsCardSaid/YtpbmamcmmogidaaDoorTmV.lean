/- Terms' texts: whether a term is valid. -/
import Derived.Test.YtpbmamcmmogidaaDoorTmS
namespace Go.Proofs.YtpbmamcmmogidaaDoor.Tm
open Go.RowKit Mem Nest Cn Err Flt

/-- a term that has a text -/
def Vt (n u r : Int) : Prop := (0 ≤ n ∧ n ≤ 100000) ∧ (0 ≤ u ∧ u ≤ 4) ∧ 0 ≤ r ∧ r ≤ 2
def ValidPost (n u r : Int) (w : World) (e : Ending) (w' : World) : Prop := ∃ v, e = .returned v ∧ ((Vt n u r ∧ v = .nilIface) ∨ (¬ Vt n u r ∧ ∃ a, v = sentV a)) ∧ Below w.heap.size w w'
set_option maxHeartbeats 4000000 in
theorem valid_any (n u r : Int) (A : Nat → Addr) (w : World) (hE : Errs w A) : Calls Tryd.prog 84 #[.agg #[.int .i64 n, .int .i64 u, .int .i64 r]] w (ValidPost n u r w) := by
  have hx := Blk.new w 46 [.int .i64 n, .int .i64 u, .int .i64 r]
  have hb := ext_alloc w (.cells #[.int .i64 n, .int .i64 u, .int .i64 r] 46)
  have c0 := hx.cell 0 rfl
  have c1 := hx.cell 1 rfl
  have c2 := hx.cell 2 rfl
  have g1 := cell_ext hb hE.v1
  have g8 := cell_ext hb hE.v8
  have HB := Lib.hid hb
  clear hx hb hE
  by_cases h1 : n < 0
  · have HV := Lib.hid (show ¬ Vt n u r by unfold Vt; omega)
    go_enter Tryd.func84, Tryd.ntmps84
    go_wp2_with fail
    go_ret
    exact ⟨_, rfl, .inr ⟨HV.out, _, rfl⟩, HB.out⟩
  by_cases h2 : 100000 < n
  · have HV := Lib.hid (show ¬ Vt n u r by unfold Vt; omega)
    go_enter Tryd.func84, Tryd.ntmps84
    go_wp2_with fail
    go_ret
    exact ⟨_, rfl, .inr ⟨HV.out, _, rfl⟩, HB.out⟩
  by_cases h3 : u < 0
  · have HV := Lib.hid (show ¬ Vt n u r by unfold Vt; omega)
    go_enter Tryd.func84, Tryd.ntmps84
    go_wp2_with fail
    go_ret
    exact ⟨_, rfl, .inr ⟨HV.out, _, rfl⟩, HB.out⟩
  by_cases h4 : 4 < u
  · have HV := Lib.hid (show ¬ Vt n u r by unfold Vt; omega)
    go_enter Tryd.func84, Tryd.ntmps84
    go_wp2_with fail
    go_ret
    exact ⟨_, rfl, .inr ⟨HV.out, _, rfl⟩, HB.out⟩
  by_cases h5 : r < 0
  · have HV := Lib.hid (show ¬ Vt n u r by unfold Vt; omega)
    go_enter Tryd.func84, Tryd.ntmps84
    go_wp2_with fail
    go_ret
    exact ⟨_, rfl, .inr ⟨HV.out, _, rfl⟩, HB.out⟩
  by_cases h6 : 2 < r
  · have HV := Lib.hid (show ¬ Vt n u r by unfold Vt; omega)
    go_enter Tryd.func84, Tryd.ntmps84
    go_wp2_with fail
    go_ret
    exact ⟨_, rfl, .inr ⟨HV.out, _, rfl⟩, HB.out⟩
  have HV := Lib.hid (show Vt n u r by unfold Vt; omega)
  go_enter Tryd.func84, Tryd.ntmps84
  go_wp2_with fail
  go_ret
  exact ⟨_, rfl, .inl ⟨HV.out, rfl⟩, HB.out⟩
end Go.Proofs.YtpbmamcmmogidaaDoor.Tm

/- Terms' texts: the document's side: what stands at a place. -/
import Derived.Test.YtpbmamcmmogidaaDoorTmS
namespace Go.Proofs.YtpbmamcmmogidaaDoor.Tm
open Go.RowKit Mem Nest Cn Err Flt

theorem hasP_take (r p : List UInt8) : hasP r p = (r.take p.length == p) := by
  rw [Bool.eq_iff_iff, hasP_iff, beq_iff_eq, List.prefix_iff_eq_take]
  exact eq_comm
theorem hasP_short {r p : List UInt8} (h : r.length < p.length) : hasP r p = false := by
  cases hh : hasP r p with
  | false => rfl
  | true => have := (hasP_iff.1 hh).length_le; omega
def StartsPost (s p : List UInt8) (a : Nat) (w : World) (e : Ending) (w' : World) : Prop := e = .returned (.bool (hasP (s.drop a) p)) ∧ w = w'
set_option maxHeartbeats 1000000 in
theorem starts_any (s p : List UInt8) (a : Nat) (hs : s.length ≤ 3000) (hp : p.length ≤ 3000) (ha : a ≤ s.length) (w : World) :
    Calls Tryd.prog 83 #[.string ⟨s.toArray⟩, .int .i64 (a : Int), .string ⟨p.toArray⟩] w (StartsPost s p a w) := by
  have hsc : (s.length : Int) ≤ 3000 := by omega
  have hpc : (p.length : Int) ≤ 3000 := by omega
  have hac : (a : Int) ≤ (s.length : Int) := by omega
  by_cases h : a + p.length ≤ s.length
  · have hc : (a : Int) + (p.length : Int) ≤ (s.length : Int) := by omega
    have hx : (ByteArray.mk s.toArray).extract a (a + p.length) = ⟨((s.drop a).take p.length).toArray⟩ := by rw [ba_cut, Nat.add_sub_cancel_left]
    obtain ⟨x, hxx⟩ : ∃ x, x = (s.drop a).take p.length := ⟨_, rfl⟩
    rw [← hxx] at hx
    have HV := Lib.hid (show hasP (s.drop a) p = (x == p) by rw [hxx]; exact hasP_take _ _)
    clear hxx
    go_enter Tryd.func83, Tryd.ntmps83
    go_wp2_with fail
    go_ret
    exact ⟨ret_bool (by rw [HV.out]), rfl⟩
  · have hc : ¬ (a : Int) + (p.length : Int) ≤ (s.length : Int) := by omega
    have HV := Lib.hid (hasP_short (r := s.drop a) (p := p) (by rw [List.length_drop]; omega))
    go_enter Tryd.func83, Tryd.ntmps83
    go_wp2_with fail
    go_ret
    exact ⟨ret_bool (by rw [HV.out]), rfl⟩
end Go.Proofs.YtpbmamcmmogidaaDoor.Tm

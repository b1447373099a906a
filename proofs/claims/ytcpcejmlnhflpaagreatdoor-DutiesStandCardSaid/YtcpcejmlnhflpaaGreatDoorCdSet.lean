/- A calendar's set of days off, as the walk keeps it. -/
import Derived.Test.YtcpcejmlnhflpaaGreatDoorCd
import Derived.Test.YtcpcejmlnhflpaaGreatDoorMapSet
namespace Go.Proofs.YtcpcejmlnhflpaaGreatDoor.CdM
open Go.RowKit Mem CdP MapSet
theorem zeroB (w : World) : (zeroValue 4).run Tryz.prog w = .ok (.bool false) w := by kernel_rfl
theorem int_law : Go.Maps.Keyed Tryz.prog 3 := Go.Maps.int_keyed Tryz.underlying3
theorem int_key (a : Int) (h : (Lit.int .i64 a).wf = true) : keyOf Tryz.prog 3 (.int .i64 a) = some (.int .i64 a) := by
  unfold keyOf mapKey
  simp [Tryz.underlying3, h]
/-- the days off are the keys -/
def FreeM (w : World) (b n : Nat) (hol : List Int) : Prop := SetM Tryz.prog 3 4 w b n (fun v => ∃ x ∈ hol, v = .int .i64 x)
theorem FreeM.look {w : World} {b n : Nat} {hol : List Int} (h : FreeM w b n hol) (d : Int) (hd : (Lit.int .i64 d).wf = true) :
    (Instr.lookup 258 (.map (some b)) (.int .i64 d) false).run Tryz.prog w = .ok (.bool (hol.contains d)) w := by
  obtain ⟨c, hrun, hc⟩ := SetM.lookup h int_law Tryz.underlying258 Tryz.underlying4 (zeroB w) (int_key d hd)
  have e : c = hol.contains d := by
    rw [Bool.eq_iff_iff, hc, List.contains_iff_mem]
    exact ⟨fun ⟨x, hx, hv⟩ => by cases hv; exact hx, fun hx => ⟨d, hx, rfl⟩⟩
  rw [hrun, e]
end Go.Proofs.YtcpcejmlnhflpaaGreatDoor.CdM

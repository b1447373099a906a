/- The law CasesEnd answers true for every input: the card, around the contract of CasesEndCon. -/
import Derived.Test.YtjfiodknjchngaaDoorCards
import Derived.Test.YtjfiodknjchngaaDoorTie
import Derived.Test.YtjfiodknjchngaaDoorCasesEndCon
import Derived.WalkKit
import Derived.ProofKit
import Derived.OpenShut
import Derived.Deep.DeepHandedRow
import Derived.Deep.DeepWitnessRowRef
import Derived.LaidHandle
import Derived.Lib.LaidTab
namespace Go.Proofs.YtjfiodknjchngaaDoor.CasesEnd
open Go.ChangeShapes Go.WideShapes Go.ChangeAt Go.RowKit

theorem own : ownKnob Tryd.prog.godebug = Option.none := by kernel_rfl
def wargs : Array Value := #[.pointer none, .int .i64 0, .slice none 0 0]
/-- A world for the witness: the settled one, the listed variables holding what they start with. -/
noncomputable def low : Nat := (World.holding Tryd.prog default ⟨#[], #[], []⟩).heap.size
noncomputable def laidWorld (os : Os) : World :=
  let w0 := World.holding Tryd.prog os ⟨#[.cells #[.string ⟨#[115, 116, 97, 116, 117, 116, 101, 58, 32, 98, 111, 117, 110, 100]⟩] 246, .cells #[.string ⟨#[115, 116, 97, 116, 117, 116, 101, 58, 32, 100, 97, 121]⟩] 246, .cells #[.string ⟨#[115, 116, 97, 116, 117, 116, 101, 58, 32, 110, 97, 109, 101]⟩] 246, .cells #[.string ⟨#[115, 116, 97, 116, 117, 116, 101, 58, 32, 111, 114, 100, 101, 114]⟩] 246, .cells #[.string ⟨#[115, 116, 97, 116, 117, 116, 101, 58, 32, 107, 105, 110, 100]⟩] 246, .cells #[.string ⟨#[115, 116, 97, 116, 117, 116, 101, 58, 32, 115, 116, 97, 103, 101]⟩] 246], #[], []⟩
  { w0 with heap := ((((((w0.heap).modify 0 fun
      | .cells _ t frozen => .cells #[.iface 227 (.pointer (some ⟨low + 0, 0, none⟩))] t frozen
      | o => o).modify 1 fun
      | .cells _ t frozen => .cells #[.iface 227 (.pointer (some ⟨low + 1, 0, none⟩))] t frozen
      | o => o).modify 4 fun
      | .cells _ t frozen => .cells #[.iface 227 (.pointer (some ⟨low + 2, 0, none⟩))] t frozen
      | o => o).modify 5 fun
      | .cells _ t frozen => .cells #[.iface 227 (.pointer (some ⟨low + 3, 0, none⟩))] t frozen
      | o => o).modify 3 fun
      | .cells _ t frozen => .cells #[.iface 227 (.pointer (some ⟨low + 4, 0, none⟩))] t frozen
      | o => o).modify 2 fun
      | .cells _ t frozen => .cells #[.iface 227 (.pointer (some ⟨low + 5, 0, none⟩))] t frozen
      | o => o }
theorem laid_met (os : Os) : laidMetH Tryd.prog Rows.casesEndRow.laid ((laidWorld os).forCall (fun _ _ => 0) ⟨#[], wargs, []⟩).memory :=
  laidMetH_of_parts (laidMet_of_run' 8 (by kernel_rfl) (by kernel_rfl)) (by kernel_rfl)

theorem reads (os : Os) {H : Type} (enc : TypeId × Value → H) : ∃ places, DataW.whole enc Tryd.prog ((laidWorld os).forCall (fun _ _ => 0) ⟨#[], wargs, []⟩).memory Tryd.f4.params.toList Rows.casesEndSpec.vars false wargs.toList 8 = some ([.nil, .lit (.int .i64 0), .nil], [], places) :=
  ⟨[], by kernel_rfl⟩

set_option maxRecDepth 100000 in
theorem lifted (os : Os) (started : os.Started) (H : Type) (enc : TypeId × Value → H) (F : Stop.Interp) :
    ReturnsInHanded {} Tryd.checked os 4 .any ((OpenSpec.ofChange Rows.casesEndSpec).preRow enc Tryd.prog Tryd.f4 Rows.casesEndRow.domain false Rows.casesEndRow.laid) (((OpenSpec.ofChange Rows.casesEndSpec).at F).post enc Tryd.prog Tryd.f4 false true false false) := by
  obtain ⟨places, hx⟩ := reads os enc
  refine returnsInHanded_of_row (C := Tryd.checked) (s := (OpenSpec.ofChange Rows.casesEndSpec)) own started (by kernel_rfl) Tryd.func4
    (witness_row_atRef (enc := enc) (C := Tryd.checked) false (laidWorld os) wargs rfl (by kernel_rfl) (by kernel_rfl) (by kernel_rfl)
      (OpenSpec.preRow_of_cond 8 hx (by kernel_rfl) (fun k hk => by cases hk) (by kernel_rfl) (laid_met os))) ?_
  intro W base args ds gs before hval hW _ hcond hsize hL _ _
  exact contract H enc W base args ds gs before hval hW hL

theorem said : Rows.CasesEndSaid :=
  OpenClaim.holds_of_cond 4 Tryd.f4 rfl rfl rfl rfl rfl rfl rfl ⟨rfl, rfl, rfl, rfl, rfl⟩ rfl rfl rfl rfl rfl (by kernel_rfl) Tryd.func4 (by kernel_rfl)
    (of_decide_eq_true (by kernel_rfl)) (by unfold Func.isWrapper; first | (rw [if_pos (by decide +kernel)]; kernel_rfl) | (rw [if_neg (by decide +kernel)]; exact ⟨rfl, rfl⟩))
    (fun os started H enc _ F => by rw [OpenClaim.pre_eq_preRow]; exact lifted os started H enc F)

/-- No parameter wants a stand-in; the program's own looks are as the card has them. -/
theorem plain (f : FuncId) (fn : Func) (hf : Tryd.pinned.checked.prog.funcNamed "statute/statutelaw5.CasesEnd" = some f) (hfn : Tryd.pinned.checked.prog.funcs[f]? = some fn) :
    true = Tryd.pinned.checked.prog.looks [] ∧ ∀ (j : Nat) t, fn.params[j]? = some t → Tryd.pinned.checked.prog.wantsStandIn t = false := by
  obtain rfl : f = 4 := Option.some.inj ((show Tryd.prog.funcNamed "statute/statutelaw5.CasesEnd" = some 4 by kernel_rfl).symm.trans hf) |>.symm
  obtain rfl : fn = Tryd.f4 := (Option.some.inj (Tryd.func4.symm.trans hfn)).symm
  refine ⟨by kernel_rfl, fun j t ht => ?_⟩
  rw [Tryd.params4] at ht
  have hm := Array.mem_of_getElem? ht
  revert hm
  exact (show ∀ t ∈ (#[49, 3, 50] : Array TypeId), Tryd.prog.wantsStandIn t = false from by
    intro t ht
    simp only [List.mem_toArray, List.mem_cons, List.not_mem_nil, or_false] at ht
    repeat (first | (obtain rfl := ht; kernel_rfl) | (rcases ht with rfl | ht; (· kernel_rfl)))) t

/-- ████ THE CARD ████ -/
theorem card : Rows.CasesEndCardSaid :=
  Claim7.holds_tied_plain_at .later [] _ _ _ _ said (fun _ h => by cases h) (by kernel_rfl) (fun _ h => by cases h) casesEnd_row_tie rfl ⟨rfl, rfl⟩ (by kernel_rfl) rfl plain (by kernel_rfl)
#print axioms card
end Go.Proofs.YtjfiodknjchngaaDoor.CasesEnd

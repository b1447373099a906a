/- The law LedgerKeeps answers true for every input: the card, around the contract of LedgerKeepsCon. -/
import Derived.Test.YtdnhfcphmbhloaaGreatDoorCards
import Derived.Test.YtdnhfcphmbhloaaGreatDoorTie
import Derived.Test.YtdnhfcphmbhloaaGreatDoorLedgerKeepsCon
import Derived.WalkKit
import Derived.ProofKit
import Derived.OpenShut
import Derived.Deep.DeepHandedRow
import Derived.Deep.DeepWitnessRowRef
import Derived.LaidHandle
import Derived.Lib.LaidTab
namespace Go.Proofs.YtdnhfcphmbhloaaGreatDoor.LedgerKeeps
open Go.ChangeShapes Go.WideShapes Go.ChangeAt Go.RowKit

theorem own : ownKnob Tryz.prog.godebug = Option.none := by kernel_rfl
def wargs : Array Value := #[.slice none 0 0, .string ⟨#[]⟩, .int .i64 0]
/-- A world for the witness: the settled one, the listed variables holding what they start with. -/
noncomputable def low : Nat := (World.holding Tryz.prog default ⟨#[], #[], []⟩).heap.size
noncomputable def laidWorld (os : Os) : World :=
  let w0 := World.holding Tryz.prog os ⟨#[.cells #[.string ⟨#[115, 116, 97, 116, 117, 116, 101, 58, 32, 116, 101, 120, 116]⟩] 322, .cells #[.string ⟨#[115, 116, 97, 116, 117, 116, 101, 58, 32, 98, 111, 117, 110, 100]⟩] 322, .cells #[.string ⟨#[115, 116, 97, 116, 117, 116, 101, 58, 32, 97, 109, 111, 117, 110, 116]⟩] 322, .cells #[.string ⟨#[115, 116, 97, 116, 117, 116, 101, 58, 32, 100, 97, 121]⟩] 322, .cells #[.string ⟨#[115, 116, 97, 116, 117, 116, 101, 58, 32, 112, 97, 116, 104]⟩] 322, .cells #[.string ⟨#[115, 116, 97, 116, 117, 116, 101, 58, 32, 119, 111, 114, 100, 115]⟩] 322, .cells #[.string ⟨#[115, 116, 97, 116, 117, 116, 101, 58, 32, 110, 97, 109, 101]⟩] 322, .cells #[.string ⟨#[115, 116, 97, 116, 117, 116, 101, 58, 32, 111, 114, 100, 101, 114]⟩] 322, .cells #[.string ⟨#[115, 116, 97, 116, 117, 116, 101, 58, 32, 107, 105, 110, 100]⟩] 322, .cells #[.string ⟨#[115, 116, 97, 116, 117, 116, 101, 58, 32, 101, 120, 112, 108, 97, 110, 97, 116, 105, 111, 110]⟩] 322, .cells #[.string ⟨#[115, 116, 97, 116, 117, 116, 101, 58, 32, 115, 116, 97, 103, 101]⟩] 322], #[], []⟩
  { w0 with heap := ((((((((((((((w0.heap).modify 2 fun
      | .cells _ t frozen => .cells #[.iface 320 (.pointer (some ⟨low + 0, 0, none⟩))] t frozen
      | o => o).modify 0 fun
      | .cells _ t frozen => .cells #[.iface 320 (.pointer (some ⟨low + 1, 0, none⟩))] t frozen
      | o => o).modify 4 fun
      | .cells _ t frozen => .cells #[.iface 320 (.pointer (some ⟨low + 2, 0, none⟩))] t frozen
      | o => o).modify 1 fun
      | .cells _ t frozen => .cells #[.iface 320 (.pointer (some ⟨low + 3, 0, none⟩))] t frozen
      | o => o).modify 6 fun
      | .cells _ t frozen => .cells #[.iface 320 (.pointer (some ⟨low + 4, 0, none⟩))] t frozen
      | o => o).modify 7 fun
      | .cells _ t frozen => .cells #[.iface 320 (.pointer (some ⟨low + 5, 0, none⟩))] t frozen
      | o => o).modify 3 fun
      | .cells _ t frozen => .cells #[.iface 320 (.pointer (some ⟨low + 6, 0, none⟩))] t frozen
      | o => o).modify 5 fun
      | .cells _ t frozen => .cells #[.iface 320 (.pointer (some ⟨low + 7, 0, none⟩))] t frozen
      | o => o).modify 8 fun
      | .cells _ t frozen => .cells #[.iface 320 (.pointer (some ⟨low + 8, 0, none⟩))] t frozen
      | o => o).modify 9 fun
      | .cells _ t frozen => .cells #[.iface 320 (.pointer (some ⟨low + 9, 0, none⟩))] t frozen
      | o => o).modify 10 fun
      | .cells _ t frozen => .cells #[.iface 320 (.pointer (some ⟨low + 10, 0, none⟩))] t frozen
      | o => o).modify 11 fun
      | .cells _ t frozen => .cells #[.iface 244 (.agg #[.pointer (some ⟨20, 32, none⟩)])] t frozen
      | o => o).modify 14 fun
      | .cells _ t frozen => .cells #[.int .u8 128, .int .u8 191, .int .u8 160, .int .u8 191, .int .u8 128, .int .u8 159, .int .u8 144, .int .u8 191, .int .u8 128, .int .u8 143, .int .u8 0, .int .u8 0, .int .u8 0, .int .u8 0, .int .u8 0, .int .u8 0, .int .u8 0, .int .u8 0, .int .u8 0, .int .u8 0, .int .u8 0, .int .u8 0, .int .u8 0, .int .u8 0, .int .u8 0, .int .u8 0, .int .u8 0, .int .u8 0, .int .u8 0, .int .u8 0, .int .u8 0, .int .u8 0] t frozen
      | o => o).modify 13 fun
      | .cells _ t frozen => .cells (Go.Pinned.utf8FirstZ.map fun (z : Nat) => Value.int .u8 (z : Int)).toArray t frozen
      | o => o }
theorem laid_met (os : Os) : laidMetH Tryz.prog Rows.ledgerKeepsRow.laid ((laidWorld os).forCall (fun _ _ => 0) ⟨#[], wargs, []⟩).memory :=
  laidMetH_of_parts (laidMet_of_run' 8 (by kernel_rfl) (by kernel_rfl)) (by kernel_rfl)

theorem reads (os : Os) {H : Type} (enc : TypeId × Value → H) : ∃ places, DataW.whole enc Tryz.prog ((laidWorld os).forCall (fun _ _ => 0) ⟨#[], wargs, []⟩).memory Tryz.f3.params.toList Rows.ledgerKeepsSpec.vars false wargs.toList 8 = some ([.nil, .lit (.string []), .lit (.int .i64 0)], [], places) :=
  ⟨[], by kernel_rfl⟩

set_option maxRecDepth 100000 in
theorem lifted (os : Os) (started : os.Started) (H : Type) (enc : TypeId × Value → H) (F : Stop.Interp) :
    ReturnsInHanded {} Tryz.checked os 3 .any ((OpenSpec.ofChange Rows.ledgerKeepsSpec).preRow enc Tryz.prog Tryz.f3 Rows.ledgerKeepsRow.domain false Rows.ledgerKeepsRow.laid) (((OpenSpec.ofChange Rows.ledgerKeepsSpec).at F).post enc Tryz.prog Tryz.f3 false true false false) := by
  obtain ⟨places, hx⟩ := reads os enc
  refine returnsInHanded_of_row (C := Tryz.checked) (s := (OpenSpec.ofChange Rows.ledgerKeepsSpec)) own started (by kernel_rfl) Tryz.func3
    (witness_row_atRef (enc := enc) (C := Tryz.checked) false (laidWorld os) wargs rfl (by kernel_rfl) (by kernel_rfl) (by kernel_rfl)
      (OpenSpec.preRow_of_cond 8 hx (by kernel_rfl) (fun k hk => by cases hk) (by kernel_rfl) (laid_met os))) ?_
  intro W base args ds gs before hval hW _ hcond hsize hL _ _
  exact contract H enc W base args ds gs before hval hW hL

theorem said : Rows.LedgerKeepsSaid :=
  OpenClaim.holds_of_cond 3 Tryz.f3 rfl rfl rfl rfl rfl rfl rfl ⟨rfl, rfl, rfl, rfl, rfl⟩ rfl rfl rfl rfl rfl (by kernel_rfl) Tryz.func3 (by kernel_rfl)
    (of_decide_eq_true (by kernel_rfl)) (by unfold Func.isWrapper; first | (rw [if_pos (by decide +kernel)]; kernel_rfl) | (rw [if_neg (by decide +kernel)]; exact ⟨rfl, rfl⟩))
    (fun os started H enc _ F => by rw [OpenClaim.pre_eq_preRow]; exact lifted os started H enc F)

/-- No parameter wants a stand-in; the program's own looks are as the card has them. -/
theorem plain (f : FuncId) (fn : Func) (hf : Tryz.pinned.checked.prog.funcNamed "statute/statutelaw5.LedgerKeeps" = some f) (hfn : Tryz.pinned.checked.prog.funcs[f]? = some fn) :
    true = Tryz.pinned.checked.prog.looks [] ∧ ∀ (j : Nat) t, fn.params[j]? = some t → Tryz.pinned.checked.prog.wantsStandIn t = false := by
  obtain rfl : f = 3 := Option.some.inj ((show Tryz.prog.funcNamed "statute/statutelaw5.LedgerKeeps" = some 3 by kernel_rfl).symm.trans hf) |>.symm
  obtain rfl : fn = Tryz.f3 := (Option.some.inj (Tryz.func3.symm.trans hfn)).symm
  refine ⟨by kernel_rfl, fun j t ht => ?_⟩
  rw [Tryz.params3] at ht
  have hm := Array.mem_of_getElem? ht
  revert hm
  exact (show ∀ t ∈ (#[22, 9, 3] : Array TypeId), Tryz.prog.wantsStandIn t = false from by
    intro t ht
    simp only [List.mem_toArray, List.mem_cons, List.not_mem_nil, or_false] at ht
    repeat (first | (obtain rfl := ht; kernel_rfl) | (rcases ht with rfl | ht; (· kernel_rfl)))) t

/-- ████ THE CARD ████ -/
theorem card : Rows.LedgerKeepsCardSaid :=
  Claim7.holds_tied_plain_at .later [] _ _ _ _ said (fun _ h => by cases h) (by kernel_rfl) (fun _ h => by cases h) ledgerKeeps_row_tie rfl ⟨rfl, rfl⟩ (by kernel_rfl) rfl plain (by kernel_rfl)
#print axioms card
end Go.Proofs.YtdnhfcphmbhloaaGreatDoor.LedgerKeeps

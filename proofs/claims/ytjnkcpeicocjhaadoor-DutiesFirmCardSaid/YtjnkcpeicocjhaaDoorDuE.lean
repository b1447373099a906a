/- Whether two duties are the same. -/
import Derived.Test.YtjnkcpeicocjhaaDoorDuS
import Derived.Laws.StructEq
namespace Go.Proofs.YtjnkcpeicocjhaaDoor.Dut
open Go.RowKit Mem Nest Sol App CdP CdM Solve Err

def dtEq (x y : Dt) : Bool := x.name == y.name && (x.who == y.who && (x.fr == y.fr && (x.till == y.till && (x.els == y.els && (x.n == y.n && (x.u == y.u && x.r == y.r))))))
theorem dtEq_iff (x y : Dt) : dtEq x y = true ↔ x = y := by
  obtain ⟨a, b, c, d, e, f, g, h⟩ := x
  obtain ⟨a', b', c', d', e', f', g', h'⟩ := y
  simp [dtEq]
set_option maxHeartbeats 2000000 in
theorem duty_eql (nm wh : List UInt8) (fr tl : Int) (el : List UInt8) (tn tu tr : Int) (nm' wh' : List UInt8) (fr' tl' : Int) (el' : List UInt8) (tn' tu' tr' : Int) (w : World) :
    (binOp .eql 38 (.agg #[.string ⟨nm.toArray⟩, .string ⟨wh.toArray⟩, .int .i64 fr, .int .i64 tl, .string ⟨el.toArray⟩, .int .i64 tn, .int .i64 tu, .int .i64 tr]) (.agg #[.string ⟨nm'.toArray⟩, .string ⟨wh'.toArray⟩, .int .i64 fr', .int .i64 tl', .string ⟨el'.toArray⟩, .int .i64 tn', .int .i64 tu', .int .i64 tr'])).run Tryd.prog w = .ok (.bool (dtEq ⟨nm, wh, fr, tl, el, tn, tu, tr⟩ ⟨nm', wh', fr', tl', el', tn', tu', tr'⟩)) w := by
  have u3 := Tryd.underlying3
  have a3 := Tryd.isAgg3
  have z3 := Tryd.sizeOf3
  have u9 := Tryd.underlying9
  have a9 := Tryd.isAgg9
  have z9 := Tryd.sizeOf9
  have uT := Tryd.underlying36
  have aT := Tryd.isAgg36
  have zT := Tryd.sizeOf36
  have hS : Tryd.prog.underlying 38 = some (.struct (Tryd.prog.fieldsOf 38)) := by kernel_rfl
  have hp : Tryd.prog.stoodInHeld 38 = false := by kernel_rfl
  rw [run_eql_struct, show (10000 : Nat) = 9999 + 1 from rfl, run_equalIn_agg w 9999 38 _ _ hS hp]
  simp only [Program.fieldsOf, Tryd.underlying38]
  have hS2 : Tryd.prog.underlying 36 = some (.struct (Tryd.prog.fieldsOf 36)) := by kernel_rfl
  have hp2 : Tryd.prog.stoodInHeld 36 = false := by kernel_rfl
  unfold dtEq
  go_simp
  repeat' split
  all_goals simp [*]
theorem duty_guard (op : BinOp) (a b : Operand) (x y : Array Value) (w : World) : (eqGuard op 38 a b (.agg x) (.agg y)).run Tryd.prog w = .ok () w := run_eqGuard_agg w op _ a b x y (by kernel_rfl)
end Go.Proofs.YtjnkcpeicocjhaaDoor.Dut

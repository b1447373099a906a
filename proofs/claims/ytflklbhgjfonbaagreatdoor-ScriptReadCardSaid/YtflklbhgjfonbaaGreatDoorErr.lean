/- Errors: the package-level sentinels as they are laid; errors.Is and errors.As at sentinels, at api.Fault and at nil. errors.As with a *api.Fault for its target: at nil, at a sentinel (no), at an api.Fault (yes: the target is set). plain.Code: the number of an error, and its place: nil, a sentinel, an api.Fault around a sentinel. -/
import Derived.Test.YtflklbhgjfonbaaGreatDoorProg
import Derived.WalkKit
import Derived.WalkSpells
import Derived.WalkSmall
import Derived.LaidEql
import Derived.Stop.Asserts
import Derived.RowKitTokens
import Derived.LaidLaws
import Derived.Lib.Hide
import Derived.BigQuiet
import Derived.Deep.QuietTactic
namespace Go.Proofs.YtflklbhgjfonbaaGreatDoor.Err
open Go.RowKit Go.Extern.Stop Go.Stop Go.Extern

theorem isTypeOf (v : Value) (w : World) : (Extern.ReflectliteType.typeOf #[.iface 195 v]).run Tryz.prog w = .ok (.iface 153 (.agg #[.pointer (some ⟨20, 195, none⟩)])) w := by kernel_rfl
/-- the model's entry for (reflectlite.rtype).Comparable, under a name -/
def cmpF : TypeId → Sem Value := fun t => do Rtype.noPackHeld "Comparable" t; pure (.bool (← typeInfo t).comparable)
theorem isComparable (w : World) : ((Extern.ReflectliteType.method cmpF) #[.agg #[.pointer (some ⟨20, 195, none⟩)]]).run Tryz.prog w = .ok (.bool true) w := by kernel_rfl
theorem isMethodComparable (v : Value) (w : World) : (Go.method 338 153 v "Comparable").run Tryz.prog w = .ok (174, v) w := by kernel_rfl
theorem isComp : (Tryz.prog.info? 195).map (·.comparable) = some true := by kernel_rfl
theorem isSize : (Tryz.prog.info? 197).map (·.size) = some 1 := by kernel_rfl
theorem noIsE (v : Value) (xT : TypeId) (w : World) : (Instr.typeAssert (.iface 195 v) xT 164 true).run Tryz.prog w = .ok (.tuple #[.nilIface, .bool false]) w := run_typeAssert_lacksB Tryz.underlying164 (by kernel_rfl) (by kernel_rfl) v xT w
theorem noUnwrapE (v : Value) (xT : TypeId) (w : World) : (Instr.typeAssert (.iface 195 v) xT 160 true).run Tryz.prog w = .ok (.tuple #[.nilIface, .bool false]) w := run_typeAssert_lacksB Tryz.underlying160 (by kernel_rfl) (by kernel_rfl) v xT w
theorem noUnwrapsE (v : Value) (xT : TypeId) (w : World) : (Instr.typeAssert (.iface 195 v) xT 162 true).run Tryz.prog w = .ok (.tuple #[.nilIface, .bool false]) w := run_typeAssert_lacksB Tryz.underlying162 (by kernel_rfl) (by kernel_rfl) v xT w
theorem noIsF (v : Value) (xT : TypeId) (w : World) : (Instr.typeAssert (.iface 47 v) xT 164 true).run Tryz.prog w = .ok (.tuple #[.nilIface, .bool false]) w := run_typeAssert_lacksB Tryz.underlying164 (by kernel_rfl) (by kernel_rfl) v xT w
theorem hasUnwrapF (v : Value) (xT : TypeId) (w : World) : (Instr.typeAssert (.iface 47 v) xT 160 true).run Tryz.prog w = .ok (.tuple #[.iface 47 v, .bool true]) w := run_typeAssert_hasB Tryz.underlying160 (by kernel_rfl) v xT w
theorem methodUnwrap (v : Value) (w : World) : (Go.method 338 47 v "Unwrap").run Tryz.prog w = .ok (167, v) w := by kernel_rfl

/-- errors.Is(x, x), x a pointer to an errors.errorString. -/
theorem is_same (a : Addr) (w : World) :
    Calls Tryz.prog 60 #[.iface 195 (.pointer (some a)), .iface 195 (.pointer (some a))] w fun e w' => e = .returned (.bool true) ∧ w = w' := by
  obtain ⟨i, hi, hcmp⟩ := Option.map_eq_some_iff.1 isComp
  obtain ⟨j, hj, hjs⟩ := Option.map_eq_some_iff.1 isSize
  have h8 := @run_callFunc_extern Tryz.prog 88 _ Extern.ReflectliteType.typeOf Tryz.func88 (by kernel_rfl) (by kernel_rfl) (by kernel_rfl) (by kernel_rfl)
  have h32 := @run_callFunc_extern Tryz.prog 174 _ (Extern.ReflectliteType.method cmpF) Tryz.func174 (by kernel_rfl) (by kernel_rfl) (by kernel_rfl) (by kernel_rfl)
  have tT := isTypeOf
  have cT := isComparable
  have mR := isMethodComparable
  have heq := run_eql_iface_ptr_same (P := Tryz.prog) w a Tryz.underlying28 Tryz.underlying195 hi hcmp hj
  go_enter Tryz.func60, Tryz.ntmps60
  go_wp2
  refine wp_loop_rounds 1 ?_
  rw [rounds_succ]
  go_wp2
  go_ret
  exact ⟨rfl, rfl⟩
/-- errors.Is(x, y), two different pointers to errors.errorString: neither has Is nor Unwrap: false. -/
theorem is_other (a b : Addr) (ca cb : Array Value) (ta tb : TypeId) (w : World) (hne : a ≠ b) (ha : w.heap[a.block]? = some (.cells ca ta (0, 0))) (hb : w.heap[b.block]? = some (.cells cb tb (0, 0))) :
    Calls Tryz.prog 60 #[.iface 195 (.pointer (some a)), .iface 195 (.pointer (some b))] w fun e w' => e = .returned (.bool false) ∧ w = w' := by
  obtain ⟨i, hi, hcmp⟩ := Option.map_eq_some_iff.1 isComp
  obtain ⟨j, hj, hjs⟩ := Option.map_eq_some_iff.1 isSize
  have h8 := @run_callFunc_extern Tryz.prog 88 _ Extern.ReflectliteType.typeOf Tryz.func88 (by kernel_rfl) (by kernel_rfl) (by kernel_rfl) (by kernel_rfl)
  have h32 := @run_callFunc_extern Tryz.prog 174 _ (Extern.ReflectliteType.method cmpF) Tryz.func174 (by kernel_rfl) (by kernel_rfl) (by kernel_rfl) (by kernel_rfl)
  have tT := isTypeOf
  have cT := isComparable
  have mR := isMethodComparable
  have nE := noIsE
  have uE := noUnwrapE
  have vE := noUnwrapsE
  have heq := run_eql_iface_ptr_other (P := Tryz.prog) w Tryz.underlying28 Tryz.underlying195 hi hcmp hj (by rw [hjs]; decide) hne ha hb
  clear ha hb hne
  go_enter Tryz.func60, Tryz.ntmps60
  go_wp2
  refine wp_loop_rounds 1 ?_
  rw [rounds_succ]
  go_wp2
  go_ret
  exact ⟨rfl, rfl⟩
/-- errors.Is(f, x), f an api.Fault that holds x itself. -/
theorem is_fault_same (pb po : Nat) (b : Addr) (w : World) (h1 : w.cell? ⟨pb, po + 1, none⟩ = some (.iface 195 (.pointer (some b)))) :
    Calls Tryz.prog 60 #[.iface 47 (.pointer (some ⟨pb, po, none⟩)), .iface 195 (.pointer (some b))] w fun e w' => e = .returned (.bool true) ∧ w = w' := by
  obtain ⟨i, hi, hcmp⟩ := Option.map_eq_some_iff.1 isComp
  obtain ⟨j, hj, hjs⟩ := Option.map_eq_some_iff.1 isSize
  have h8 := @run_callFunc_extern Tryz.prog 88 _ Extern.ReflectliteType.typeOf Tryz.func88 (by kernel_rfl) (by kernel_rfl) (by kernel_rfl) (by kernel_rfl)
  have h32 := @run_callFunc_extern Tryz.prog 174 _ (Extern.ReflectliteType.method cmpF) Tryz.func174 (by kernel_rfl) (by kernel_rfl) (by kernel_rfl) (by kernel_rfl)
  have tT := isTypeOf
  have cT := isComparable
  have mR := isMethodComparable
  have nW := noIsF
  have uW := hasUnwrapF
  have mU := methodUnwrap
  have heq := run_eql_iface_ptr_same (P := Tryz.prog) w b Tryz.underlying28 Tryz.underlying195 hi hcmp hj
  have hty := run_eql_iface_types (P := Tryz.prog) 47 195 (.pointer (some ⟨pb, po, none⟩)) (.pointer (some b)) Tryz.underlying28 (by decide) w
  go_enter Tryz.func60, Tryz.ntmps60
  go_wp2
  refine wp_loop_rounds 2 ?_
  rw [rounds_succ]
  go_wp2
  rw [rounds_succ]
  go_wp2
  go_ret
  exact ⟨rfl, rfl⟩
/-- errors.Is(f, x), f an api.Fault that holds another one. -/
theorem is_fault_other (pb po : Nat) (b a : Addr) (ca cb : Array Value) (ta tb : TypeId) (w : World) (h1 : w.cell? ⟨pb, po + 1, none⟩ = some (.iface 195 (.pointer (some a)))) (hne : a ≠ b) (ha : w.heap[a.block]? = some (.cells ca ta (0, 0))) (hb : w.heap[b.block]? = some (.cells cb tb (0, 0))) :
    Calls Tryz.prog 60 #[.iface 47 (.pointer (some ⟨pb, po, none⟩)), .iface 195 (.pointer (some b))] w fun e w' => e = .returned (.bool false) ∧ w = w' := by
  obtain ⟨i, hi, hcmp⟩ := Option.map_eq_some_iff.1 isComp
  obtain ⟨j, hj, hjs⟩ := Option.map_eq_some_iff.1 isSize
  have h8 := @run_callFunc_extern Tryz.prog 88 _ Extern.ReflectliteType.typeOf Tryz.func88 (by kernel_rfl) (by kernel_rfl) (by kernel_rfl) (by kernel_rfl)
  have h32 := @run_callFunc_extern Tryz.prog 174 _ (Extern.ReflectliteType.method cmpF) Tryz.func174 (by kernel_rfl) (by kernel_rfl) (by kernel_rfl) (by kernel_rfl)
  have tT := isTypeOf
  have cT := isComparable
  have mR := isMethodComparable
  have nE := noIsE
  have uE := noUnwrapE
  have vE := noUnwrapsE
  have nW := noIsF
  have uW := hasUnwrapF
  have mU := methodUnwrap
  have heq := run_eql_iface_ptr_other (P := Tryz.prog) w Tryz.underlying28 Tryz.underlying195 hi hcmp hj (by rw [hjs]; decide) hne ha hb
  have hty := run_eql_iface_types (P := Tryz.prog) 47 195 (.pointer (some ⟨pb, po, none⟩)) (.pointer (some b)) Tryz.underlying28 (by decide) w
  clear ha hb hne
  go_enter Tryz.func60, Tryz.ntmps60
  go_wp2
  refine wp_loop_rounds 2 ?_
  rw [rounds_succ]
  go_wp2
  rw [rounds_succ]
  go_wp2
  go_ret
  exact ⟨rfl, rfl⟩
end Go.Proofs.YtflklbhgjfonbaaGreatDoor.Err
namespace Go.Proofs.YtflklbhgjfonbaaGreatDoor.Err
open Go.RowKit Go.Extern.Stop Go.Stop Go.Extern
theorem valueOf27 (t : Addr) (w : World) : (ReflectliteValue.unpack (.iface 109 (.pointer (some t)))).run Tryz.prog w
    = .ok (.agg #[.pointer (some ⟨20, 109, none⟩), .pointer (some ⟨w.heap.size, 0, none⟩), .int .u64 150]) (w.alloc (.cells #[.pointer (some t)] 109)) := by kernel_rfl
theorem type27 (a : Addr) (w : World) : (ReflectliteValue.methodAny (ReflectliteValue.valueError "reflectlite.Value.Type" 0) (fun t _ _ _ => ReflectliteType.toType t) #[.agg #[.pointer (some ⟨20, 109, none⟩), .pointer (some a), .int .u64 150]]).run Tryz.prog w
    = .ok (.iface 153 (.agg #[.pointer (some ⟨20, 109, none⟩)])) w := by kernel_rfl
theorem methodKind (h : Value) (w : World) : (Go.method 338 153 (.agg #[h]) "Kind").run Tryz.prog w = .ok (163, h) w := by kernel_rfl
theorem kind27 (w : World) : ((ReflectliteType.abiMethod fun t => (fun a : Nat => Value.int IntKind.u8 (a : Int)) <$> Rtype.kind t) #[.pointer (some ⟨20, 109, none⟩)]).run Tryz.prog w = .ok (.int .u8 22) w := by kernel_rfl
theorem kind25 (w : World) : ((ReflectliteType.abiMethod fun t => (fun a : Nat => Value.int IntKind.u8 (a : Int)) <$> Rtype.kind t) #[.pointer (some ⟨20, 47, none⟩)]).run Tryz.prog w = .ok (.int .u8 22) w := by kernel_rfl

/-! ### THE ENTRIES THAT READ OR WRITE MEMORY: laws with a premise on the cell (after Derived/Lib/ReflectliteSlice.lean's manner: each unfolding a lemma of its own, by rfl) -/
theorem rlm (z : Sem Value) (f : TypeId → Addr → Nat → Nat → Sem Value) (v : Value) :
    ReflectliteValue.method z f #[v] = (do match ← ReflectliteValue.parts v with | none => z | some (t, a, fl) => f t a fl (fl % 32)) := rfl
theorem parts27 (a : Addr) (w : World) : (ReflectliteValue.parts (.agg #[.pointer (some ⟨20, 109, none⟩), .pointer (some a), .int .u64 150])).run Tryz.prog w = .ok (some (109, a, 150)) w := by kernel_rfl
/-- (Value).IsNil at the Value of a **p.E that is not nil. -/
theorem isNil27 (a p : Addr) (W : World) (ha : W.cell? a = some (.pointer (some p))) :
    (ReflectliteValue.method (ReflectliteValue.valueError "reflectlite.Value.IsNil" 0) ReflectliteValue.isNil #[.agg #[.pointer (some ⟨20, 109, none⟩), .pointer (some a), .int .u64 150]]).run Tryz.prog W = .ok (.bool false) W := by
  rw [rlm]
  simp only [Sem.run_bind, parts27, Result.andThen]
  simp [ReflectliteValue.isNil, loadVar, isAgg, underlying, Tryz.underlying109, ha, Result.andThen]

theorem methodElem (h : Value) (w : World) : (Go.method 338 153 (.agg #[h]) "Elem").run Tryz.prog w = .ok (175, .agg #[h]) w := by kernel_rfl
theorem methodImplements (h : Value) (w : World) : (Go.method 338 153 (.agg #[h]) "Implements").run Tryz.prog w = .ok (176, .agg #[h]) w := by kernel_rfl
theorem methodAssignableTo (h : Value) (w : World) : (Go.method 338 153 (.agg #[h]) "AssignableTo").run Tryz.prog w = .ok (173, .agg #[h]) w := by kernel_rfl
theorem elem27 (w : World) : (ReflectliteType.method ReflectliteType.elem #[.agg #[.pointer (some ⟨20, 109, none⟩)]]).run Tryz.prog w = .ok (.iface 153 (.agg #[.pointer (some ⟨20, 47, none⟩)])) w := by kernel_rfl
theorem implements25 (w : World) : (ReflectliteType.relation "Implements" ReflectliteType.implements_ #[.agg #[.pointer (some ⟨20, 47, none⟩)], .iface 153 (.agg #[.pointer (some ⟨20, 28, none⟩)])]).run Tryz.prog w = .ok (.bool true) w := by kernel_rfl
theorem typeOf25 (v : Value) (w : World) : (ReflectliteType.typeOf #[.iface 47 v]).run Tryz.prog w = .ok (.iface 153 (.agg #[.pointer (some ⟨20, 47, none⟩)])) w := by kernel_rfl
theorem assignable25 (w : World) : (ReflectliteType.relation "AssignableTo" ReflectliteType.assignableTo #[.agg #[.pointer (some ⟨20, 47, none⟩)], .iface 153 (.agg #[.pointer (some ⟨20, 47, none⟩)])]).run Tryz.prog w = .ok (.bool true) w := by kernel_rfl
theorem valueOf25 (e : Addr) (w : World) : (ReflectliteValue.unpack (.iface 47 (.pointer (some e)))).run Tryz.prog w
    = .ok (.agg #[.pointer (some ⟨20, 47, none⟩), .pointer (some ⟨w.heap.size, 0, none⟩), .int .u64 150]) (w.alloc (.cells #[.pointer (some e)] 47)) := by kernel_rfl

theorem elemOf27 (w : World) : (Rtype.elem? 109).run Tryz.prog w = .ok (some 47) w := by kernel_rfl
theorem mk25 (p : Addr) (w : World) : (ReflectliteValue.mk 47 p ReflectliteValue.flagAddr).run Tryz.prog w = .ok (.agg #[.pointer (some ⟨20, 47, none⟩), .pointer (some p), .int .u64 406]) w := by kernel_rfl
/-- (Value).Elem at the Value of a **p.E that is not nil: the Value of the *p.E variable that it points to, addressable. -/
theorem elemV27 (a p : Addr) (W : World) (ha : W.cell? a = some (.pointer (some p))) :
    (ReflectliteValue.method (ReflectliteValue.valueError "reflectlite.Value.Elem" 0) ReflectliteValue.elem #[.agg #[.pointer (some ⟨20, 109, none⟩), .pointer (some a), .int .u64 150]]).run Tryz.prog W
      = .ok (.agg #[.pointer (some ⟨20, 47, none⟩), .pointer (some p), .int .u64 406]) W := by
  rw [rlm]
  simp only [Sem.run_bind, parts27, Result.andThen]
  simp [ReflectliteValue.elem, loadVar, isAgg, underlying, Tryz.underlying109, ha, Result.andThen, elemOf27, mk25]
theorem rls (v x : Value) : ReflectliteValue.set #[v, x] = (do
    let (some (dst, a, fl), some (src, b, _)) := (← ReflectliteValue.parts v, ← ReflectliteValue.parts x)
      | unsupported (.noEntry "extern/(internal/reflectlite.Value).Set.zeroValue")
    if fl / ReflectliteValue.flagAddr % 2 == 0 then unsupported (.noEntry "extern/(internal/reflectlite.Value).Set.unaddressable")
    let val ← loadVar src b
    if ← Rtype.directlyAssignable dst src then storeVar dst a val
    else if ← Rtype.implements dst src then
      if (← Rtype.kind src) == 20 then
        match val with
        | .nilIface => unsupported (.noEntry "extern/reflectlite: a nil value of one interface type handed on as a value of another")
        | _ => storeVar dst a val
      else storeVar dst a (.iface src val)
    else panicString ("reflectlite.Set: value of type " ++ (← Rtype.spelt src) ++ " is not assignable to type " ++ (← Rtype.spelt dst))
    pure (.tuple #[])) := rfl
theorem parts25a (a : Addr) (w : World) : (ReflectliteValue.parts (.agg #[.pointer (some ⟨20, 47, none⟩), .pointer (some a), .int .u64 406])).run Tryz.prog w = .ok (some (47, a, 406)) w := by kernel_rfl
theorem parts25 (a : Addr) (w : World) : (ReflectliteValue.parts (.agg #[.pointer (some ⟨20, 47, none⟩), .pointer (some a), .int .u64 150])).run Tryz.prog w = .ok (some (47, a, 150)) w := by kernel_rfl
theorem direct25 (w : World) : (Rtype.directlyAssignable 47 47).run Tryz.prog w = .ok true w := by kernel_rfl
theorem size25 (w : World) : (sizeOf 47).run Tryz.prog w = .ok 1 w := by kernel_rfl
/-- (Value).Set: the *p.E variable at 'ta' gets what the Value's own variable 'b' holds. -/
theorem set25 (ta b e : Addr) (old : Value) (W : World) (hb : W.cell? b = some (.pointer (some e))) (ht : W.cell? ta = some old) (hf : W.frozen? ta = false) :
    (ReflectliteValue.set #[.agg #[.pointer (some ⟨20, 47, none⟩), .pointer (some ta), .int .u64 406], .agg #[.pointer (some ⟨20, 47, none⟩), .pointer (some b), .int .u64 150]]).run Tryz.prog W
      = .ok (.tuple #[]) (W.setCell ta (.pointer (some e))) := by
  rw [rls]
  simp only [Sem.run_bind, parts25a, parts25, Result.andThen]
  simp [ReflectliteValue.flagAddr, loadVar, isAgg, underlying, Tryz.underlying47, hb, Result.andThen, direct25, storeVar, Value.cells, storeCells, Addr.add]
  rw [run_store Tryz.prog W ta _ _ (by rfl)]
  simp [ht, hf]

set_option maxHeartbeats 4000000 in
theorem as_hit (e t : Addr) (old : Value) (w : World) (hg : w.cell? ⟨11, 0, none⟩ = some (.iface 153 (.agg #[.pointer (some ⟨20, 28, none⟩)]))) (ht0 : w.cell? t = some old) (hf0 : w.frozen? t = false) :
    Calls Tryz.prog 59 #[.iface 47 (.pointer (some e)), .iface 109 (.pointer (some t))] w fun ev w' => ev = .returned (.bool true) ∧ w' = ((((w.alloc (.cells #[.pointer (some t)] 109)).alloc (.cells #[.pointer (some ⟨20, 109, none⟩), .pointer (some ⟨w.heap.size, 0, none⟩), .int .u64 150] 133)).alloc (.cells #[.pointer (some ⟨20, 109, none⟩), .pointer (some ⟨w.heap.size, 0, none⟩), .int .u64 150] 133)).alloc (.cells #[.pointer (some e)] 47)).setCell t (.pointer (some e)) := by
  have h6 := @run_callFunc_extern Tryz.prog 84 _ (fun args => ReflectliteValue.unpack (args.getD 0 (.tuple #[]))) Tryz.func84 (by kernel_rfl) (by kernel_rfl) (by kernel_rfl) (by kernel_rfl)
  have h7 := @run_callFunc_extern Tryz.prog 85 _ (ReflectliteValue.methodAny (ReflectliteValue.valueError "reflectlite.Value.Type" 0) (fun t _ _ _ => ReflectliteType.toType t)) Tryz.func85 (by kernel_rfl) (by kernel_rfl) (by kernel_rfl) (by kernel_rfl)
  have h8 := @run_callFunc_extern Tryz.prog 86 _ (ReflectliteValue.method (ReflectliteValue.valueError "reflectlite.Value.IsNil" 0) ReflectliteValue.isNil) Tryz.func86 (by kernel_rfl) (by kernel_rfl) (by kernel_rfl) (by kernel_rfl)
  have h27 := @run_callFunc_extern Tryz.prog 163 _ (ReflectliteType.abiMethod fun t => do pure (.int .u8 (← Rtype.kind t))) Tryz.func163 (by kernel_rfl) (by kernel_rfl) (by kernel_rfl) (by kernel_rfl)
  have h37 := @run_callFunc_extern Tryz.prog 175 _ (ReflectliteType.method ReflectliteType.elem) Tryz.func175 (by kernel_rfl) (by kernel_rfl) (by kernel_rfl) (by kernel_rfl)
  have h38 := @run_callFunc_extern Tryz.prog 176 _ (ReflectliteType.relation "Implements" ReflectliteType.implements_) Tryz.func176 (by kernel_rfl) (by kernel_rfl) (by kernel_rfl) (by kernel_rfl)
  have h10 := @run_callFunc_extern Tryz.prog 88 _ ReflectliteType.typeOf Tryz.func88 (by kernel_rfl) (by kernel_rfl) (by kernel_rfl) (by kernel_rfl)
  have h35 := @run_callFunc_extern Tryz.prog 173 _ (ReflectliteType.relation "AssignableTo" ReflectliteType.assignableTo) Tryz.func173 (by kernel_rfl) (by kernel_rfl) (by kernel_rfl) (by kernel_rfl)
  have h11 := @run_callFunc_extern Tryz.prog 108 _ (ReflectliteValue.method (ReflectliteValue.valueError "reflectlite.Value.Elem" 0) ReflectliteValue.elem) Tryz.func108 (by kernel_rfl) (by kernel_rfl) (by kernel_rfl) (by kernel_rfl)
  have h12 := @run_callFunc_extern Tryz.prog 109 _ ReflectliteValue.set Tryz.func109 (by kernel_rfl) (by kernel_rfl) (by kernel_rfl) (by kernel_rfl)
  have tO := typeOf25
  have mA := methodAssignableTo
  have a25 := assignable25
  have v25 := valueOf25
  have f6 := valueOf27
  have f7 := type27
  have mK := methodKind
  have mE := methodElem
  have mI := methodImplements
  have k27 := kind27
  have k25 := kind25
  have e27 := elem27
  have i25 := implements25
  have n8 := isNil27 ⟨w.heap.size, 0, none⟩ t ((w.alloc (.cells #[.pointer (some t)] 109)).alloc (.cells #[.pointer (some ⟨20, 109, none⟩), .pointer (some ⟨w.heap.size, 0, none⟩), .int .u64 150] 133)) (by simp)
  have hlt : 11 < w.heap.size := by
    rcases Nat.lt_or_ge 11 w.heap.size with h | h
    · exact h
    · simp [World.cell?, Array.getElem?_eq_none h] at hg
  have hg2 : ((w.alloc (.cells #[.pointer (some t)] 109)).alloc (.cells #[.pointer (some ⟨20, 109, none⟩), .pointer (some ⟨w.heap.size, 0, none⟩), .int .u64 150] 133)).cell? ⟨11, 0, none⟩ = some (.iface 153 (.agg #[.pointer (some ⟨20, 28, none⟩)])) := by
    rw [World.cell?_alloc_lt _ _ ⟨11, 0, none⟩ (by simp; omega), World.cell?_alloc_lt _ _ ⟨11, 0, none⟩ hlt]; exact hg
  have htl : t.block < w.heap.size := by
    rcases Nat.lt_or_ge t.block w.heap.size with h | h
    · exact h
    · simp [World.cell?, Array.getElem?_eq_none h] at ht0
  have el := elemV27 ⟨w.heap.size, 0, none⟩ t (((w.alloc (.cells #[.pointer (some t)] 109)).alloc (.cells #[.pointer (some ⟨20, 109, none⟩), .pointer (some ⟨w.heap.size, 0, none⟩), .int .u64 150] 133)).alloc (.cells #[.pointer (some ⟨20, 109, none⟩), .pointer (some ⟨w.heap.size, 0, none⟩), .int .u64 150] 133)) (by rw [World.cell?_alloc_lt _ _ ⟨w.heap.size, 0, none⟩ (by simp; omega)]; simp)
  have st := set25 t ⟨w.heap.size + 1 + 1 + 1, 0, none⟩ e old ((((w.alloc (.cells #[.pointer (some t)] 109)).alloc (.cells #[.pointer (some ⟨20, 109, none⟩), .pointer (some ⟨w.heap.size, 0, none⟩), .int .u64 150] 133)).alloc (.cells #[.pointer (some ⟨20, 109, none⟩), .pointer (some ⟨w.heap.size, 0, none⟩), .int .u64 150] 133)).alloc (.cells #[.pointer (some e)] 47))
    (by rw [World.cell?_alloc_at _ _ _ _ (by simp)]; rfl)
    (by rw [World.cell?_alloc_lt _ _ t (by simp; omega), World.cell?_alloc_lt _ _ t (by simp; omega), World.cell?_alloc_lt _ _ t (by simp; omega), World.cell?_alloc_lt _ _ t htl]; exact ht0)
    (by rw [World.frozen?_alloc_old _ _ t (by simp; omega), World.frozen?_alloc_old _ _ t (by simp; omega), World.frozen?_alloc_old _ _ t (by simp; omega), World.frozen?_alloc_old _ _ t (Nat.ne_of_lt htl)]; exact hf0)
  go_enter Tryz.func59, Tryz.ntmps59
  go_wp2
  refine wp_loop_rounds 1 ?_
  rw [rounds_succ]
  go_wp2
  go_ret
  exact ⟨rfl, rfl⟩
theorem assignableE (w : World) : (ReflectliteType.relation "AssignableTo" ReflectliteType.assignableTo #[.agg #[.pointer (some ⟨20, 195, none⟩)], .iface 153 (.agg #[.pointer (some ⟨20, 47, none⟩)])]).run Tryz.prog w = .ok (.bool false) w := by kernel_rfl
theorem noAsE (v : Value) (xT : TypeId) (w : World) : (Instr.typeAssert (.iface 195 v) xT 157 true).run Tryz.prog w = .ok (.tuple #[.nilIface, .bool false]) w := run_typeAssert_lacksB Tryz.underlying157 (by kernel_rfl) (by kernel_rfl) v xT w
set_option maxHeartbeats 4000000 in
theorem as_sent (e t : Addr) (w : World) (hg : w.cell? ⟨11, 0, none⟩ = some (.iface 153 (.agg #[.pointer (some ⟨20, 28, none⟩)]))) :
    Calls Tryz.prog 59 #[.iface 195 (.pointer (some e)), .iface 109 (.pointer (some t))] w fun ev w' => ev = .returned (.bool false) ∧ Below w.heap.size w w' := by
  have h6 := @run_callFunc_extern Tryz.prog 84 _ (fun args => ReflectliteValue.unpack (args.getD 0 (.tuple #[]))) Tryz.func84 (by kernel_rfl) (by kernel_rfl) (by kernel_rfl) (by kernel_rfl)
  have h7 := @run_callFunc_extern Tryz.prog 85 _ (ReflectliteValue.methodAny (ReflectliteValue.valueError "reflectlite.Value.Type" 0) (fun t _ _ _ => ReflectliteType.toType t)) Tryz.func85 (by kernel_rfl) (by kernel_rfl) (by kernel_rfl) (by kernel_rfl)
  have h8 := @run_callFunc_extern Tryz.prog 86 _ (ReflectliteValue.method (ReflectliteValue.valueError "reflectlite.Value.IsNil" 0) ReflectliteValue.isNil) Tryz.func86 (by kernel_rfl) (by kernel_rfl) (by kernel_rfl) (by kernel_rfl)
  have h27 := @run_callFunc_extern Tryz.prog 163 _ (ReflectliteType.abiMethod fun t => do pure (.int .u8 (← Rtype.kind t))) Tryz.func163 (by kernel_rfl) (by kernel_rfl) (by kernel_rfl) (by kernel_rfl)
  have h37 := @run_callFunc_extern Tryz.prog 175 _ (ReflectliteType.method ReflectliteType.elem) Tryz.func175 (by kernel_rfl) (by kernel_rfl) (by kernel_rfl) (by kernel_rfl)
  have h38 := @run_callFunc_extern Tryz.prog 176 _ (ReflectliteType.relation "Implements" ReflectliteType.implements_) Tryz.func176 (by kernel_rfl) (by kernel_rfl) (by kernel_rfl) (by kernel_rfl)
  have h10 := @run_callFunc_extern Tryz.prog 88 _ ReflectliteType.typeOf Tryz.func88 (by kernel_rfl) (by kernel_rfl) (by kernel_rfl) (by kernel_rfl)
  have h35 := @run_callFunc_extern Tryz.prog 173 _ (ReflectliteType.relation "AssignableTo" ReflectliteType.assignableTo) Tryz.func173 (by kernel_rfl) (by kernel_rfl) (by kernel_rfl) (by kernel_rfl)
  have h11 := @run_callFunc_extern Tryz.prog 108 _ (ReflectliteValue.method (ReflectliteValue.valueError "reflectlite.Value.Elem" 0) ReflectliteValue.elem) Tryz.func108 (by kernel_rfl) (by kernel_rfl) (by kernel_rfl) (by kernel_rfl)
  have h12 := @run_callFunc_extern Tryz.prog 109 _ ReflectliteValue.set Tryz.func109 (by kernel_rfl) (by kernel_rfl) (by kernel_rfl) (by kernel_rfl)
  have tO := isTypeOf
  have mA := methodAssignableTo
  have a25 := assignableE
  have nA := noAsE
  have uE := noUnwrapE
  have vE := noUnwrapsE
  have f6 := valueOf27
  have f7 := type27
  have mK := methodKind
  have mE := methodElem
  have mI := methodImplements
  have k27 := kind27
  have k25 := kind25
  have e27 := elem27
  have i25 := implements25
  have n8 := isNil27 ⟨w.heap.size, 0, none⟩ t ((w.alloc (.cells #[.pointer (some t)] 109)).alloc (.cells #[.pointer (some ⟨20, 109, none⟩), .pointer (some ⟨w.heap.size, 0, none⟩), .int .u64 150] 133)) (by simp)
  have hlt : 11 < w.heap.size := by
    rcases Nat.lt_or_ge 11 w.heap.size with h | h
    · exact h
    · simp [World.cell?, Array.getElem?_eq_none h] at hg
  have hg2 : ((w.alloc (.cells #[.pointer (some t)] 109)).alloc (.cells #[.pointer (some ⟨20, 109, none⟩), .pointer (some ⟨w.heap.size, 0, none⟩), .int .u64 150] 133)).cell? ⟨11, 0, none⟩ = some (.iface 153 (.agg #[.pointer (some ⟨20, 28, none⟩)])) := by
    rw [World.cell?_alloc_lt _ _ ⟨11, 0, none⟩ (by simp; omega), World.cell?_alloc_lt _ _ ⟨11, 0, none⟩ hlt]; exact hg
  go_enter Tryz.func59, Tryz.ntmps59
  go_wp2
  refine wp_loop_rounds 1 ?_
  rw [rounds_succ]
  go_wp2
  go_ret
  exact ⟨rfl, by repeat (first | exact Below.refl _ _ | (refine Below.alloc ?_ (by simp <;> omega) _) | apply Below.drew)⟩
end Go.Proofs.YtflklbhgjfonbaaGreatDoor.Err
namespace Go.Proofs.YtflklbhgjfonbaaGreatDoor.Err
open Go.RowKit

/-- the value of a sentinel that lies at a -/
def sentV (a : Addr) : Value := .iface 195 (.pointer (some a))
/-- The eleven sentinels are laid: sentinel k's text lies at A k; the errors package's handle of the type error is laid, too. -/
structure Errs (w : World) (A : Nat → Addr) : Prop where
  v0 : w.cell? ⟨1, 0, none⟩ = some (sentV (A 0))
  v1 : w.cell? ⟨0, 0, none⟩ = some (sentV (A 1))
  v2 : w.cell? ⟨3, 0, none⟩ = some (sentV (A 2))
  v3 : w.cell? ⟨4, 0, none⟩ = some (sentV (A 3))
  v4 : w.cell? ⟨5, 0, none⟩ = some (sentV (A 4))
  v5 : w.cell? ⟨6, 0, none⟩ = some (sentV (A 5))
  v6 : w.cell? ⟨2, 0, none⟩ = some (sentV (A 6))
  v7 : w.cell? ⟨7, 0, none⟩ = some (sentV (A 7))
  v8 : w.cell? ⟨8, 0, none⟩ = some (sentV (A 8))
  v9 : w.cell? ⟨9, 0, none⟩ = some (sentV (A 9))
  v10 : w.cell? ⟨10, 0, none⟩ = some (sentV (A 10))
  blk : ∀ k, k < 11 → ∃ c t, w.heap[(A k).block]? = some (.cells c t (0, 0))
  ne : ∀ i j, i < 11 → j < 11 → i ≠ j → A i ≠ A j
  typ : w.cell? ⟨11, 0, none⟩ = some (.iface 153 (.agg #[.pointer (some ⟨20, 28, none⟩)]))

theorem lt_of_cell {w : World} {a : Addr} {v : Value} (h : w.cell? a = some v) : a.block < w.heap.size := by
  rcases Nat.lt_or_ge a.block w.heap.size with h' | h'
  · exact h'
  · simp [World.cell?, Array.getElem?_eq_none h'] at h
theorem cell_keep {B : Nat} {w w' : World} (h : Below B w w') {a : Addr} {v : Value} (ha : a.block < B) (hc : w.cell? a = some v) : w'.cell? a = some v := by
  rw [h.cell ha]; exact hc
theorem cell_below {w w' : World} (h : Below w.heap.size w w') {a : Addr} {v : Value} (hc : w.cell? a = some v) : w'.cell? a = some v :=
  cell_keep h (lt_of_cell hc) hc
theorem lt_of_block {w : World} {b : Nat} {o : Obj} (h : w.heap[b]? = some o) : b < w.heap.size := by
  rcases Nat.lt_or_ge b w.heap.size with h' | h'
  · exact h'
  · simp [Array.getElem?_eq_none h'] at h
theorem Errs.below {w w' : World} {A : Nat → Addr} (h : Errs w A) (hb : Below w.heap.size w w') : Errs w' A where
  v0 := cell_below hb h.v0
  v1 := cell_below hb h.v1
  v2 := cell_below hb h.v2
  v3 := cell_below hb h.v3
  v4 := cell_below hb h.v4
  v5 := cell_below hb h.v5
  v6 := cell_below hb h.v6
  v7 := cell_below hb h.v7
  v8 := cell_below hb h.v8
  v9 := cell_below hb h.v9
  v10 := cell_below hb h.v10
  blk := fun k hk => by
    obtain ⟨c, t, hc⟩ := h.blk k hk
    exact ⟨c, t, by rw [hb.block _ (lt_of_block hc)]; exact hc⟩
  ne := h.ne
  typ := cell_below hb h.typ
theorem Errs.drewN {w : World} {A : Nat → Addr} (h : Errs w A) (n : Nat) : Errs (w.drewN n) A := h.below (below_drewN (Below.refl _ _) n)

/-- The table that Code makes, by its index. -/
def tab (A : Nat → Addr) : Array Value := #[sentV (A 0), sentV (A 1), sentV (A 2), sentV (A 3), sentV (A 4), sentV (A 5), sentV (A 6), sentV (A 7), sentV (A 8), sentV (A 9), sentV (A 10)]
theorem tab_at (A : Nat → Addr) (k : Nat) (hk : k < 11) : (tab A)[k]? = some (sentV (A k)) := by
  have : k = 0 ∨ k = 1 ∨ k = 2 ∨ k = 3 ∨ k = 4 ∨ k = 5 ∨ k = 6 ∨ k = 7 ∨ k = 8 ∨ k = 9 ∨ k = 10 := by omega
  rcases this with rfl | rfl | rfl | rfl | rfl | rfl | rfl | rfl | rfl | rfl | rfl <;> rfl

theorem code_nil (w : World) : Calls Tryz.prog 29 #[.nilIface] w fun e w' => e = .returned (.tuple #[.int .i64 0, .int .i64 (-1)]) ∧ w = w' := by
  go_enter Tryz.func29, Tryz.ntmps29
  go_wp2
  go_ret2
  exact ⟨rfl, rfl⟩
set_option maxHeartbeats 400000 in
theorem code_sent (c : Nat) (hc : c < 11) (A : Nat → Addr) (w : World) (hE : Errs w A) :
    Calls Tryz.prog 29 #[sentV (A c)] w fun e w' => e = .returned (.tuple #[.int .i64 ((c : Int) + 1), .int .i64 (-1)]) ∧ Below w.heap.size w w' := by
  have HE := Lib.hid hE
  clear hE
  unfold sentV
  go_enter Tryz.func29, Tryz.ntmps29
  go_wp2_with fail
  refine (as_sent _ _ _ (cell_below ((Below.refl _ _).alloc (Nat.le_refl _) _) HE.out.typ)).mono ?_
  rintro e w1 ⟨rfl, hb1⟩
  have hb : Below w.heap.size w w1 := ((Below.refl _ _).alloc (Nat.le_refl _) _).trans (hb1.mono (by simp))
  have E1 := HE.out.below hb
  have V0 := E1.v0
  have V1 := E1.v1
  have V2 := E1.v2
  have V3 := E1.v3
  have V4 := E1.v4
  have V5 := E1.v5
  have V6 := E1.v6
  have V7 := E1.v7
  have V8 := E1.v8
  have V9 := E1.v9
  have V10 := E1.v10
  have E1' := Lib.hid E1
  have hb' := Lib.hid hb
  clear E1 hb hb1 HE
  unfold sentV at V0 V1 V2 V3 V4 V5 V6 V7 V8 V9 V10
  go_wp2_with fail
  have hcell : ∀ k, k < 11 → (w1.alloc (.cells #[.iface 195 (.pointer (some (A 0))), .iface 195 (.pointer (some (A 1))), .iface 195 (.pointer (some (A 2))), .iface 195 (.pointer (some (A 3))), .iface 195 (.pointer (some (A 4))), .iface 195 (.pointer (some (A 5))), .iface 195 (.pointer (some (A 6))), .iface 195 (.pointer (some (A 7))), .iface 195 (.pointer (some (A 8))), .iface 195 (.pointer (some (A 9))), .iface 195 (.pointer (some (A 10)))] 28)).cell? ⟨w1.heap.size, k, none⟩ = some (.iface 195 (.pointer (some (A k)))) := by
    intro k hk
    rw [World.cell?_alloc_at _ _ _ _ (by simp)]
    exact tab_at A k hk
  have hb2 := hb'.out.trans (((Below.refl w1.heap.size w1).alloc (Nat.le_refl _) (.cells #[.iface 195 (.pointer (some (A 0))), .iface 195 (.pointer (some (A 1))), .iface 195 (.pointer (some (A 2))), .iface 195 (.pointer (some (A 3))), .iface 195 (.pointer (some (A 4))), .iface 195 (.pointer (some (A 5))), .iface 195 (.pointer (some (A 6))), .iface 195 (.pointer (some (A 7))), .iface 195 (.pointer (some (A 8))), .iface 195 (.pointer (some (A 9))), .iface 195 (.pointer (some (A 10)))] 28)).mono hb'.out.size)
  have E2 := Lib.hid (E1'.out.below ((Below.refl w1.heap.size w1).alloc (Nat.le_refl _) (.cells #[.iface 195 (.pointer (some (A 0))), .iface 195 (.pointer (some (A 1))), .iface 195 (.pointer (some (A 2))), .iface 195 (.pointer (some (A 3))), .iface 195 (.pointer (some (A 4))), .iface 195 (.pointer (some (A 5))), .iface 195 (.pointer (some (A 6))), .iface 195 (.pointer (some (A 7))), .iface 195 (.pointer (some (A 8))), .iface 195 (.pointer (some (A 9))), .iface 195 (.pointer (some (A 10)))] 28)))
  have HC := Lib.hid hcell
  have HB := Lib.hid hb2
  clear hcell hb2 V0 V1 V2 V3 V4 V5 V6 V7 V8 V9 V10
  generalize w1.alloc (.cells #[.iface 195 (.pointer (some (A 0))), .iface 195 (.pointer (some (A 1))), .iface 195 (.pointer (some (A 2))), .iface 195 (.pointer (some (A 3))), .iface 195 (.pointer (some (A 4))), .iface 195 (.pointer (some (A 5))), .iface 195 (.pointer (some (A 6))), .iface 195 (.pointer (some (A 7))), .iface 195 (.pointer (some (A 8))), .iface 195 (.pointer (some (A 9))), .iface 195 (.pointer (some (A 10)))] 28) = w2 at *
  go_loop [3, 29] (fun s i => ∃ k : Nat, k ≤ c ∧ i = .int .i64 k ∧ s = .int .i64 (-1)) (fun _ i => c + 1 - (intOf i).toNat)
  case atStart => exact ⟨0, Nat.zero_le _, rfl, rfl⟩
  case round =>
    obtain ⟨k, hk, rfl, rfl⟩ := hrel
    have hlt : k < 11 := by omega
    have hck := HC.out k hlt
    by_cases heq : k = c
    · subst heq
      go_wp2_with (go_at_call 60; refine (is_same _ _).mono ?_; rintro e w' ⟨rfl, rfl⟩)
      go_ret2
      exact ⟨rfl, HB.out⟩
    · obtain ⟨ca, ta, hba⟩ := E2.out.blk c hc
      obtain ⟨cb, tb, hbb⟩ := E2.out.blk k hlt
      have hne := E2.out.ne c k hc hlt (Ne.symm heq)
      have Ha := Lib.hid hba
      have Hb := Lib.hid hbb
      have Hn := Lib.hid hne
      have Hk := Lib.hid heq
      clear hba hbb hne heq
      go_wp2_with (go_at_call 60; refine (is_other _ _ _ _ _ _ _ Hn.out Ha.out Hb.out).mono ?_; rintro e w' ⟨rfl, rfl⟩)
      go_round
      case rel => exact ⟨k + 1, by have := Hk.out; omega, by go_num, rfl⟩
      case measure => simp [intOf]; omega
theorem as_fault (e : Addr) (w : World) (hg : w.cell? ⟨11, 0, none⟩ = some (.iface 153 (.agg #[.pointer (some ⟨20, 28, none⟩)]))) :
    Calls Tryz.prog 59 #[.iface 47 (.pointer (some e)), .iface 109 (.pointer (some ⟨w.heap.size, 0, none⟩))] (w.alloc (.cells #[.pointer none] 47)) fun ev w' => ev = .returned (.bool true) ∧ Below w.heap.size w w' ∧ w.heap.size < w'.heap.size ∧ w'.cell? ⟨w.heap.size, 0, none⟩ = some (.pointer (some e)) := by
  refine (as_hit e ⟨w.heap.size, 0, none⟩ (.pointer none) (w.alloc (.cells #[.pointer none] 47)) (cell_below ((Below.refl _ _).alloc (Nat.le_refl _) _) hg) (by simp) (by simp)).mono ?_
  rintro ev w' ⟨rfl, rfl⟩
  refine ⟨rfl, ?_, ?_, ?_⟩
  · refine Below.setCell (p := ⟨w.heap.size, 0, none⟩) ?_ (show w.heap.size ≤ w.heap.size from Nat.le_refl _) _
    repeat (first | exact Below.refl _ _ | (refine Below.alloc ?_ (by simp <;> omega) _))
  · simp [World.setCell]
    omega
  · refine World.cell?_setCell_same _ _ _ (u := .pointer none) ?_
    rw [World.cell?_alloc_lt _ _ _ (by simp; omega), World.cell?_alloc_lt _ _ _ (by simp; omega), World.cell?_alloc_lt _ _ _ (by simp; omega), World.cell?_alloc_lt _ _ _ (by simp)]
    simp
set_option maxHeartbeats 400000 in
theorem code_fault (c : Nat) (hc : c < 11) (A : Nat → Addr) (pb po : Nat) (n : Int) (w : World) (hE : Errs w A) (hat : w.cell? ⟨pb, po, none⟩ = some (.int .i64 n)) (herr : w.cell? ⟨pb, po + 1, none⟩ = some (sentV (A c))) :
    Calls Tryz.prog 29 #[.iface 47 (.pointer (some ⟨pb, po, none⟩))] w fun e w' => e = .returned (.tuple #[.int .i64 ((c : Int) + 1), .int .i64 n]) ∧ Below w.heap.size w w' := by
  have HE := Lib.hid hE
  have Hat := Lib.hid hat
  have Herr := Lib.hid herr
  clear hE hat herr
  go_enter Tryz.func29, Tryz.ntmps29
  go_wp2_with fail
  refine (as_fault _ _ HE.out.typ).mono ?_
  rintro e w1 ⟨rfl, hb, _, ht⟩
  have hw := cell_below hb Hat.out
  have hfe := cell_below hb Herr.out
  unfold sentV at hfe
  have E1 := HE.out.below hb
  have V0 := E1.v0
  have V1 := E1.v1
  have V2 := E1.v2
  have V3 := E1.v3
  have V4 := E1.v4
  have V5 := E1.v5
  have V6 := E1.v6
  have V7 := E1.v7
  have V8 := E1.v8
  have V9 := E1.v9
  have V10 := E1.v10
  have E1' := Lib.hid E1
  have hb' := Lib.hid hb
  clear E1 hb HE
  unfold sentV at V0 V1 V2 V3 V4 V5 V6 V7 V8 V9 V10
  go_wp2_with fail
  have hcell : ∀ k, k < 11 → (w1.alloc (.cells #[.iface 195 (.pointer (some (A 0))), .iface 195 (.pointer (some (A 1))), .iface 195 (.pointer (some (A 2))), .iface 195 (.pointer (some (A 3))), .iface 195 (.pointer (some (A 4))), .iface 195 (.pointer (some (A 5))), .iface 195 (.pointer (some (A 6))), .iface 195 (.pointer (some (A 7))), .iface 195 (.pointer (some (A 8))), .iface 195 (.pointer (some (A 9))), .iface 195 (.pointer (some (A 10)))] 28)).cell? ⟨w1.heap.size, k, none⟩ = some (.iface 195 (.pointer (some (A k)))) := by
    intro k hk
    rw [World.cell?_alloc_at _ _ _ _ (by simp)]
    exact tab_at A k hk
  have hb2 := hb'.out.trans (((Below.refl w1.heap.size w1).alloc (Nat.le_refl _) (.cells #[.iface 195 (.pointer (some (A 0))), .iface 195 (.pointer (some (A 1))), .iface 195 (.pointer (some (A 2))), .iface 195 (.pointer (some (A 3))), .iface 195 (.pointer (some (A 4))), .iface 195 (.pointer (some (A 5))), .iface 195 (.pointer (some (A 6))), .iface 195 (.pointer (some (A 7))), .iface 195 (.pointer (some (A 8))), .iface 195 (.pointer (some (A 9))), .iface 195 (.pointer (some (A 10)))] 28)).mono hb'.out.size)
  have E2 := Lib.hid (E1'.out.below ((Below.refl w1.heap.size w1).alloc (Nat.le_refl _) (.cells #[.iface 195 (.pointer (some (A 0))), .iface 195 (.pointer (some (A 1))), .iface 195 (.pointer (some (A 2))), .iface 195 (.pointer (some (A 3))), .iface 195 (.pointer (some (A 4))), .iface 195 (.pointer (some (A 5))), .iface 195 (.pointer (some (A 6))), .iface 195 (.pointer (some (A 7))), .iface 195 (.pointer (some (A 8))), .iface 195 (.pointer (some (A 9))), .iface 195 (.pointer (some (A 10)))] 28)))
  have HC := Lib.hid hcell
  have HB := Lib.hid hb2
  have hfe2 := cell_below ((Below.refl w1.heap.size w1).alloc (Nat.le_refl _) (.cells #[.iface 195 (.pointer (some (A 0))), .iface 195 (.pointer (some (A 1))), .iface 195 (.pointer (some (A 2))), .iface 195 (.pointer (some (A 3))), .iface 195 (.pointer (some (A 4))), .iface 195 (.pointer (some (A 5))), .iface 195 (.pointer (some (A 6))), .iface 195 (.pointer (some (A 7))), .iface 195 (.pointer (some (A 8))), .iface 195 (.pointer (some (A 9))), .iface 195 (.pointer (some (A 10)))] 28)) hfe
  clear hcell hb2 hfe hw ht V0 V1 V2 V3 V4 V5 V6 V7 V8 V9 V10
  generalize w1.alloc (.cells #[.iface 195 (.pointer (some (A 0))), .iface 195 (.pointer (some (A 1))), .iface 195 (.pointer (some (A 2))), .iface 195 (.pointer (some (A 3))), .iface 195 (.pointer (some (A 4))), .iface 195 (.pointer (some (A 5))), .iface 195 (.pointer (some (A 6))), .iface 195 (.pointer (some (A 7))), .iface 195 (.pointer (some (A 8))), .iface 195 (.pointer (some (A 9))), .iface 195 (.pointer (some (A 10)))] 28) = w2 at *
  go_loop [3, 29] (fun s i => ∃ k : Nat, k ≤ c ∧ i = .int .i64 k ∧ s = .int .i64 n) (fun _ i => c + 1 - (intOf i).toNat)
  case atStart => exact ⟨0, Nat.zero_le _, rfl, rfl⟩
  case round =>
    obtain ⟨k, hk, rfl, rfl⟩ := hrel
    have hlt : k < 11 := by omega
    have hck := HC.out k hlt
    by_cases heq : k = c
    · subst heq
      go_wp2_with (go_at_call 60; refine (is_fault_same _ _ _ _ hfe2).mono ?_; rintro e w' ⟨rfl, rfl⟩)
      go_ret2
      exact ⟨rfl, HB.out⟩
    · obtain ⟨ca, ta, hba⟩ := E2.out.blk c hc
      obtain ⟨cb, tb, hbb⟩ := E2.out.blk k hlt
      have hne := E2.out.ne c k hc hlt (Ne.symm heq)
      have Ha := Lib.hid hba
      have Hb := Lib.hid hbb
      have Hn := Lib.hid hne
      have Hk := Lib.hid heq
      clear hba hbb hne heq
      go_wp2_with (go_at_call 60; refine (is_fault_other _ _ _ _ _ _ _ _ _ hfe2 Hn.out Ha.out Hb.out).mono ?_; rintro e w' ⟨rfl, rfl⟩)
      go_round
      case rel => exact ⟨k + 1, by have := Hk.out; omega, by go_num, rfl⟩
      case measure => simp [intOf]; omega
end Go.Proofs.YtflklbhgjfonbaaGreatDoor.Err

/- Facts: what is kept of what was learnt early, in plain lists; the last turn, day by day; whether two facts are the same. -/
import Derived.Test.YtnchlnfenebomaaGreatDoorFkK2
import Derived.Laws.StructEq
namespace Go.Proofs.YtnchlnfenebomaaGreatDoor.Fk
open Go.RowKit Mem Nest Err App Go.Sort

theorem code_low {n : Nat} (h : n < 500) (x : Fa) : codeF n x = codeF 0 x := by
  unfold codeF
  rw [if_neg (show ¬ 500 ≤ n by omega), if_neg (show ¬ 500 ≤ 0 by omega)]
theorem keep_filter : ∀ (n : Nat) (l : List Fa), l.length = n → n ≤ 500 → keepF l = l.filter fun x => decide (codeF 0 x = 0)
  | 0, l, h, _ => by
    obtain rfl := List.length_eq_zero_iff.1 h
    simp [keepF]
  | n + 1, l, h, hn => by
    obtain ⟨t, x, rfl⟩ : ∃ t x, l = t ++ [x] := by
      rcases List.eq_nil_or_concat l with e | ⟨t, x, e⟩
      · subst e; simp at h
      · exact ⟨t, x, by rw [e, List.concat_eq_append]⟩
    have ht : t.length = n := by simpa using h
    have ih := keep_filter n t ht (by omega)
    have hk : (keepF t).length < 500 := by
      rw [ih]
      have := List.length_filter_le (fun x : Fa => decide (codeF 0 x = 0)) t
      omega
    rw [keep_snoc, code_low hk, List.filter_append, ← ih]
    by_cases hc : codeF 0 x = 0
    · rw [if_pos hc]
      simp [hc]
    · rw [if_neg hc]
      simp [hc]
def earlyF (kn : Int) (l : List Fa) : List Fa := l.filter fun x => decide (x.learnt ≤ kn)
theorem keep_early {l : List Fa} (h : l.length ≤ 400) (kn : Int) : keepF (earlyF kn l) = earlyF kn (keepF l) := by
  have h1 := List.length_filter_le (fun x : Fa => decide (x.learnt ≤ kn)) l
  rw [keep_filter _ l rfl (by omega), keep_filter _ (earlyF kn l) rfl (by unfold earlyF; omega)]
  unfold earlyF
  rw [List.filter_filter, List.filter_filter]
  exact List.filter_congr fun x _ => Bool.and_comm _ _
theorem early_take {kn : Int} {l : List Fa} {i : Nat} (h : i < l.length) : earlyF kn (l.take (i + 1)) = earlyF kn (l.take i) ++ (if l[i].learnt ≤ kn then [l[i]] else []) := by
  unfold earlyF
  rw [List.take_succ_eq_append_getElem h, List.filter_append]
  by_cases hc : l[i].learnt ≤ kn
  · rw [if_pos hc]; simp [hc]
  · rw [if_neg hc]; simp [hc]
theorem last_take {ts : List Int} {on : Int} {i : Nat} (h : i < ts.length) : lastF (ts.take (i + 1)) on = if ts[i] ≤ on then ts[i] else lastF (ts.take i) on := by
  unfold lastF
  rw [List.take_succ_eq_append_getElem h, List.foldl_append]
  rfl
set_option maxHeartbeats 2000000 in
theorem fact_neq_self (a : Int) (b : List UInt8) (c d e f g : Int) (w : World) :
    (binOp .neq 102 (.agg #[.int .i64 a, .string ⟨b.toArray⟩, .int .i64 c, .int .i64 d, .int .i64 e, .int .i64 f, .int .i64 g]) (.agg #[.int .i64 a, .string ⟨b.toArray⟩, .int .i64 c, .int .i64 d, .int .i64 e, .int .i64 f, .int .i64 g])).run Tryz.prog w = .ok (.bool false) w := by
  have u3 := Tryz.underlying3
  have a3 := Tryz.isAgg3
  have z3 := Tryz.sizeOf3
  have u9 := Tryz.underlying9
  have a9 := Tryz.isAgg9
  have z9 := Tryz.sizeOf9
  have hS : Tryz.prog.underlying 102 = some (.struct (Tryz.prog.fieldsOf 102)) := by kernel_rfl
  have hp : Tryz.prog.stoodInHeld 102 = false := by kernel_rfl
  rw [run_neq_struct, show (10000 : Nat) = 9999 + 1 from rfl, run_equalIn_agg w 9999 102 _ _ hS hp]
  simp only [Program.fieldsOf, Tryz.underlying102]
  go_simp
theorem fact_guard (op : BinOp) (a b : Operand) (x y : Array Value) (w : World) : (eqGuard op 102 a b (.agg x) (.agg y)).run Tryz.prog w = .ok () w := run_eqGuard_agg w op _ a b x y (by kernel_rfl)
end Go.Proofs.YtnchlnfenebomaaGreatDoor.Fk

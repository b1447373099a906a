/- Whether two lists of states of duties are the same: slices.Equal, and the document's SameStates. (printed by gen_dse.py) Lists of states of duties, compared: slices.Equal, the document's SameStates, the law's sameStates. (printed by gen_dsf.py) The next day on which something becomes another: the program's Next. DutiesStand: States with a calendar, codes, what Next says of all days. -/
import Derived.Test.YtcpcejmlnhflpaaGreatDoorDsV
import Derived.Test.YtcpcejmlnhflpaaGreatDoorDuS
import Derived.Laws.StructEq
import Derived.Test.YtcpcejmlnhflpaaGreatDoorDsR
import Derived.Deep.RegionHeld3
import Derived.Test.YtcpcejmlnhflpaaGreatDoorSrt
import Derived.Test.YtcpcejmlnhflpaaGreatDoorCdBoth
import Derived.Lib.OwnKind
import Derived.Test.YtcpcejmlnhflpaaGreatDoorDuW
import Derived.Test.YtcpcejmlnhflpaaGreatDoorDayWorksMain
import Derived.Test.YtcpcejmlnhflpaaGreatDoorCoded5
namespace Go.Proofs.YtcpcejmlnhflpaaGreatDoor.Dut
open Go.RowKit Mem Nest Sol App CdP CdM Solve Err

def roEq (x y : Ro) : Bool := dtEq x.d y.d && (x.st == y.st && (x.day == y.day && x.of == y.of))
theorem roEq_iff (x y : Ro) : roEq x y = true ↔ x = y := by
  obtain ⟨a, b, c, d⟩ := x
  obtain ⟨a', b', c', d'⟩ := y
  unfold roEq
  simp [dtEq_iff]
set_option maxHeartbeats 8000000 in
theorem pro_neq (x y : Ro) (w : World) :
    (binOp .neq 130 (.agg #[.string ⟨x.d.name.toArray⟩, .string ⟨x.d.who.toArray⟩, .int .i64 x.d.fr, .int .i64 x.d.till, .string ⟨x.d.els.toArray⟩, .int .i64 x.d.n, .int .i64 x.d.u, .int .i64 x.d.r, .int .i64 x.st, .int .i64 x.day, .int .i64 x.of]) (.agg #[.string ⟨y.d.name.toArray⟩, .string ⟨y.d.who.toArray⟩, .int .i64 y.d.fr, .int .i64 y.d.till, .string ⟨y.d.els.toArray⟩, .int .i64 y.d.n, .int .i64 y.d.u, .int .i64 y.d.r, .int .i64 y.st, .int .i64 y.day, .int .i64 y.of])).run Tryz.prog w = .ok (.bool (!roEq x y)) w := by
  have u3 := Tryz.underlying3
  have a3 := Tryz.isAgg3
  have z3 := Tryz.sizeOf3
  have u9 := Tryz.underlying9
  have a9 := Tryz.isAgg9
  have z9 := Tryz.sizeOf9
  have uD := Tryz.underlying128
  have aD := Tryz.isAgg128
  have zD := Tryz.sizeOf128
  have uT := Tryz.underlying126
  have aT := Tryz.isAgg126
  have zT := Tryz.sizeOf126
  have hS : Tryz.prog.underlying 130 = some (.struct (Tryz.prog.fieldsOf 130)) := by kernel_rfl
  have hp : Tryz.prog.stoodInHeld 130 = false := by kernel_rfl
  have hS1 : Tryz.prog.underlying 128 = some (.struct (Tryz.prog.fieldsOf 128)) := by kernel_rfl
  have hp1 : Tryz.prog.stoodInHeld 128 = false := by kernel_rfl
  have hS2 : Tryz.prog.underlying 126 = some (.struct (Tryz.prog.fieldsOf 126)) := by kernel_rfl
  have hp2 : Tryz.prog.stoodInHeld 126 = false := by kernel_rfl
  rw [run_neq_struct, show (10000 : Nat) = 9999 + 1 from rfl, run_equalIn_agg w 9999 130 _ _ hS hp]
  simp only [Program.fieldsOf, Tryz.underlying130]
  unfold roEq dtEq
  go_simp
  repeat' split
  all_goals simp [*]
theorem pro_guard (op : BinOp) (a b : Operand) (x y : Array Value) (w : World) : (eqGuard op 130 a b (.agg x) (.agg y)).run Tryz.prog w = .ok () w := run_eqGuard_agg w op _ a b x y (by kernel_rfl)
set_option maxHeartbeats 8000000 in
theorem rro_neq (x y : Ro) (w : World) :
    (binOp .neq 150 (.agg #[.string ⟨x.d.name.toArray⟩, .string ⟨x.d.who.toArray⟩, .int .i64 x.d.fr, .int .i64 x.d.till, .string ⟨x.d.els.toArray⟩, .int .i64 x.d.n, .int .i64 x.d.u, .int .i64 x.d.r, .int .i64 x.st, .int .i64 x.day, .int .i64 x.of]) (.agg #[.string ⟨y.d.name.toArray⟩, .string ⟨y.d.who.toArray⟩, .int .i64 y.d.fr, .int .i64 y.d.till, .string ⟨y.d.els.toArray⟩, .int .i64 y.d.n, .int .i64 y.d.u, .int .i64 y.d.r, .int .i64 y.st, .int .i64 y.day, .int .i64 y.of])).run Tryz.prog w = .ok (.bool (!roEq x y)) w := by
  have u3 := Tryz.underlying3
  have a3 := Tryz.isAgg3
  have z3 := Tryz.sizeOf3
  have u9 := Tryz.underlying9
  have a9 := Tryz.isAgg9
  have z9 := Tryz.sizeOf9
  have uD := Tryz.underlying133
  have aD := Tryz.isAgg133
  have zD := Tryz.sizeOf133
  have uT := Tryz.underlying131
  have aT := Tryz.isAgg131
  have zT := Tryz.sizeOf131
  have hS : Tryz.prog.underlying 150 = some (.struct (Tryz.prog.fieldsOf 150)) := by kernel_rfl
  have hp : Tryz.prog.stoodInHeld 150 = false := by kernel_rfl
  have hS1 : Tryz.prog.underlying 133 = some (.struct (Tryz.prog.fieldsOf 133)) := by kernel_rfl
  have hp1 : Tryz.prog.stoodInHeld 133 = false := by kernel_rfl
  have hS2 : Tryz.prog.underlying 131 = some (.struct (Tryz.prog.fieldsOf 131)) := by kernel_rfl
  have hp2 : Tryz.prog.stoodInHeld 131 = false := by kernel_rfl
  rw [run_neq_struct, show (10000 : Nat) = 9999 + 1 from rfl, run_equalIn_agg w 9999 150 _ _ hS hp]
  simp only [Program.fieldsOf, Tryz.underlying150]
  unfold roEq dtEq
  go_simp
  repeat' split
  all_goals simp [*]
theorem rro_guard (op : BinOp) (a b : Operand) (x y : Array Value) (w : World) : (eqGuard op 150 a b (.agg x) (.agg y)).run Tryz.prog w = .ok () w := run_eqGuard_agg w op _ a b x y (by kernel_rfl)
end Go.Proofs.YtcpcejmlnhflpaaGreatDoor.Dut
namespace Go.Proofs.YtcpcejmlnhflpaaGreatDoor.Dut
open Go.RowKit Mem Nest Sol App CdP CdM Solve Err

instance (x y : Ro) : Decidable (x = y) := decidable_of_iff (roEq x y = true) (roEq_iff x y)
def EqPost (P Q : List Ro) (w : World) (e : Ending) (w' : World) : Prop := e = .returned (.bool (decide (P = Q))) ∧ Below w.heap.size w w'
theorem ro_rows {w : World} {A : Option Addr} {l : List Ro} (h : Rd w A (l.flatMap roCells)) {k : Nat} (hk : k < l.length) : ∃ b o, A = some ⟨b, o, none⟩ ∧ RoAt w b (o + k * 11) l[k] := ro_at h hk
theorem take_ne {P Q : List Ro} {i : Nat} (h1 : i < P.length) (h2 : i < Q.length) (h : P[i] ≠ Q[i]) : decide (P = Q) = false := by
  rw [decide_eq_false_iff_not]
  intro e
  subst e
  exact h rfl
theorem take_eq {P Q : List Ro} {i : Nat} (h1 : i < P.length) (h2 : i < Q.length) (ht : P.take i = Q.take i) (h : P[i] = Q[i]) : P.take (i + 1) = Q.take (i + 1) := by rw [List.take_succ_eq_append_getElem h1, List.take_succ_eq_append_getElem h2, ht, h]
set_option maxRecDepth 100000 in
set_option maxHeartbeats 8000000 in
theorem pequal_any (P Q : List Ro) (hl : P.length ≤ 100000) (A B : Option Addr) (ca cb : Nat) (w : World) (hP : Rd w A (P.flatMap roCells)) (hQ : Rd w B (Q.flatMap roCells)) :
    Calls Tryz.prog 63 #[.slice A P.length ca, .slice B Q.length cb] w (EqPost P Q w) := by
  have HP := Lib.hid hP
  have HQ := Lib.hid hQ
  clear hP hQ
  go_enter Tryz.func63, Tryz.ntmps63
  by_cases hlen : P.length = Q.length
  · have hq : ((P.length : Int) == (Q.length : Int)) = true := by simp [hlen]
    have hqb : ((P.length : Int) != (Q.length : Int)) = false := by simp [hlen]
    have HL := Lib.hid hlen
    clear hlen
    go_wp2_with fail
    go_loopw [13] (fun t5 wr => ∃ i : Nat, t5 = .int .i64 i ∧ i ≤ P.length ∧ Hid (Below w.heap.size w wr) ∧ Hid (P.take i = Q.take i)) (fun t5 _ => P.length - (intOf t5).toNat)
    case atStart => exact ⟨0, rfl, Nat.zero_le _, Below.refl _ _, rfl⟩
    case round =>
      obtain ⟨i, rfl, hi, HB, HT⟩ := hrel
      by_cases hlt : i < P.length
      · have hltc : (i : Int) < (P.length : Int) := by omega
        have hlt2 : i < Q.length := by have := HL.out; omega
        have hltc2 : (i : Int) < (Q.length : Int) := by omega
        obtain ⟨b, o, rfl, hx⟩ := ro_rows (HP.out.ext HB.out) hlt
        obtain ⟨b2, o2, rfl, hy⟩ := ro_rows (HQ.out.ext HB.out) hlt2
        have HTS := Lib.hid (take_eq hlt hlt2 HT.out)
        have HNE := Lib.hid (take_ne hlt hlt2)
        generalize P[i]'hlt = x at hx HTS HNE
        generalize Q[i]'hlt2 = y at hy HTS HNE
        have p0 := hx.d.c0
        have p1 := hx.d.c1
        have p2 := hx.d.c2
        have p3 := hx.d.c3
        have p4 := hx.d.c4
        have p5 := hx.d.c5
        have p6 := hx.d.c6
        have p7 := hx.d.c7
        have p8 := hx.c8
        have p9 := hx.c9
        have p10 := hx.c10
        have q0 := hy.d.c0
        have q1 := hy.d.c1
        have q2 := hy.d.c2
        have q3 := hy.d.c3
        have q4 := hy.d.c4
        have q5 := hy.d.c5
        have q6 := hy.d.c6
        have q7 := hy.d.c7
        have q8 := hy.c8
        have q9 := hy.c9
        have q10 := hy.c10
        clear hx hy
        have hge := pro_guard
        obtain ⟨r, hr⟩ : ∃ r, r = roEq x y := ⟨_, rfl⟩
        have hqe : ∀ w, Sem.run Tryz.prog (binOp .neq 130 (.agg #[.string ⟨x.d.name.toArray⟩, .string ⟨x.d.who.toArray⟩, .int .i64 x.d.fr, .int .i64 x.d.till, .string ⟨x.d.els.toArray⟩, .int .i64 x.d.n, .int .i64 x.d.u, .int .i64 x.d.r, .int .i64 x.st, .int .i64 x.day, .int .i64 x.of]) (.agg #[.string ⟨y.d.name.toArray⟩, .string ⟨y.d.who.toArray⟩, .int .i64 y.d.fr, .int .i64 y.d.till, .string ⟨y.d.els.toArray⟩, .int .i64 y.d.n, .int .i64 y.d.u, .int .i64 y.d.r, .int .i64 y.st, .int .i64 y.day, .int .i64 y.of])) w = .ok (.bool (!r)) w := fun w => by rw [hr]; exact pro_neq x y w
        have HQe := Lib.hid (show r = true ↔ x = y by rw [hr]; exact roEq_iff _ _)
        clear hr
        have hdr := ext_drewN wr 1
        cases r
        · have HK := Lib.hid (HNE.out (fun h => by have := HQe.out.2 h; cases this))
          clear HTS HNE HQe
          simp only [Bool.not_false] at hqe
          go_wp2_with fail
          go_region_held3 (fun w' => w'.cell? ⟨b, o + i * 11, none⟩ = some (.string ⟨x.d.name.toArray⟩) ∧ w'.cell? ⟨b, o + i * 11 + 1, none⟩ = some (.string ⟨x.d.who.toArray⟩) ∧ w'.cell? ⟨b, o + i * 11 + 2, none⟩ = some (.int .i64 x.d.fr) ∧ w'.cell? ⟨b, o + i * 11 + 3, none⟩ = some (.int .i64 x.d.till) ∧ w'.cell? ⟨b, o + i * 11 + 4, none⟩ = some (.string ⟨x.d.els.toArray⟩) ∧ w'.cell? ⟨b, o + i * 11 + 5, none⟩ = some (.int .i64 x.d.n) ∧ w'.cell? ⟨b, o + i * 11 + 6, none⟩ = some (.int .i64 x.d.u) ∧ w'.cell? ⟨b, o + i * 11 + 7, none⟩ = some (.int .i64 x.d.r) ∧ w'.cell? ⟨b, o + i * 11 + 8, none⟩ = some (.int .i64 x.st) ∧ w'.cell? ⟨b, o + i * 11 + 9, none⟩ = some (.int .i64 x.day) ∧ w'.cell? ⟨b, o + i * 11 + 10, none⟩ = some (.int .i64 x.of) ∧ w'.cell? ⟨b2, o2 + i * 11, none⟩ = some (.string ⟨y.d.name.toArray⟩) ∧ w'.cell? ⟨b2, o2 + i * 11 + 1, none⟩ = some (.string ⟨y.d.who.toArray⟩) ∧ w'.cell? ⟨b2, o2 + i * 11 + 2, none⟩ = some (.int .i64 y.d.fr) ∧ w'.cell? ⟨b2, o2 + i * 11 + 3, none⟩ = some (.int .i64 y.d.till) ∧ w'.cell? ⟨b2, o2 + i * 11 + 4, none⟩ = some (.string ⟨y.d.els.toArray⟩) ∧ w'.cell? ⟨b2, o2 + i * 11 + 5, none⟩ = some (.int .i64 y.d.n) ∧ w'.cell? ⟨b2, o2 + i * 11 + 6, none⟩ = some (.int .i64 y.d.u) ∧ w'.cell? ⟨b2, o2 + i * 11 + 7, none⟩ = some (.int .i64 y.d.r) ∧ w'.cell? ⟨b2, o2 + i * 11 + 8, none⟩ = some (.int .i64 y.st) ∧ w'.cell? ⟨b2, o2 + i * 11 + 9, none⟩ = some (.int .i64 y.day) ∧ w'.cell? ⟨b2, o2 + i * 11 + 10, none⟩ = some (.int .i64 y.of)) ((first | exact ⟨p0, p1, p2, p3, p4, p5, p6, p7, p8, p9, p10, q0, q1, q2, q3, q4, q5, q6, q7, q8, q9, q10⟩ | exact ⟨cell_ext hdr p0, cell_ext hdr p1, cell_ext hdr p2, cell_ext hdr p3, cell_ext hdr p4, cell_ext hdr p5, cell_ext hdr p6, cell_ext hdr p7, cell_ext hdr p8, cell_ext hdr p9, cell_ext hdr p10, cell_ext hdr q0, cell_ext hdr q1, cell_ext hdr q2, cell_ext hdr q3, cell_ext hdr q4, cell_ext hdr q5, cell_ext hdr q6, cell_ext hdr q7, cell_ext hdr q8, cell_ext hdr q9, cell_ext hdr q10⟩)) (fail)
          go_wp2_with fail
          go_ret
          exact ⟨by rw [HK.out]; rfl, ext_trans HB.out hdr⟩
        · have HK := Lib.hid (HTS.out (HQe.out.1 rfl))
          clear HTS HNE HQe
          simp only [Bool.not_true] at hqe
          go_wp2_with fail
          go_region_held3 (fun w' => w'.cell? ⟨b, o + i * 11, none⟩ = some (.string ⟨x.d.name.toArray⟩) ∧ w'.cell? ⟨b, o + i * 11 + 1, none⟩ = some (.string ⟨x.d.who.toArray⟩) ∧ w'.cell? ⟨b, o + i * 11 + 2, none⟩ = some (.int .i64 x.d.fr) ∧ w'.cell? ⟨b, o + i * 11 + 3, none⟩ = some (.int .i64 x.d.till) ∧ w'.cell? ⟨b, o + i * 11 + 4, none⟩ = some (.string ⟨x.d.els.toArray⟩) ∧ w'.cell? ⟨b, o + i * 11 + 5, none⟩ = some (.int .i64 x.d.n) ∧ w'.cell? ⟨b, o + i * 11 + 6, none⟩ = some (.int .i64 x.d.u) ∧ w'.cell? ⟨b, o + i * 11 + 7, none⟩ = some (.int .i64 x.d.r) ∧ w'.cell? ⟨b, o + i * 11 + 8, none⟩ = some (.int .i64 x.st) ∧ w'.cell? ⟨b, o + i * 11 + 9, none⟩ = some (.int .i64 x.day) ∧ w'.cell? ⟨b, o + i * 11 + 10, none⟩ = some (.int .i64 x.of) ∧ w'.cell? ⟨b2, o2 + i * 11, none⟩ = some (.string ⟨y.d.name.toArray⟩) ∧ w'.cell? ⟨b2, o2 + i * 11 + 1, none⟩ = some (.string ⟨y.d.who.toArray⟩) ∧ w'.cell? ⟨b2, o2 + i * 11 + 2, none⟩ = some (.int .i64 y.d.fr) ∧ w'.cell? ⟨b2, o2 + i * 11 + 3, none⟩ = some (.int .i64 y.d.till) ∧ w'.cell? ⟨b2, o2 + i * 11 + 4, none⟩ = some (.string ⟨y.d.els.toArray⟩) ∧ w'.cell? ⟨b2, o2 + i * 11 + 5, none⟩ = some (.int .i64 y.d.n) ∧ w'.cell? ⟨b2, o2 + i * 11 + 6, none⟩ = some (.int .i64 y.d.u) ∧ w'.cell? ⟨b2, o2 + i * 11 + 7, none⟩ = some (.int .i64 y.d.r) ∧ w'.cell? ⟨b2, o2 + i * 11 + 8, none⟩ = some (.int .i64 y.st) ∧ w'.cell? ⟨b2, o2 + i * 11 + 9, none⟩ = some (.int .i64 y.day) ∧ w'.cell? ⟨b2, o2 + i * 11 + 10, none⟩ = some (.int .i64 y.of)) ((first | exact ⟨p0, p1, p2, p3, p4, p5, p6, p7, p8, p9, p10, q0, q1, q2, q3, q4, q5, q6, q7, q8, q9, q10⟩ | exact ⟨cell_ext hdr p0, cell_ext hdr p1, cell_ext hdr p2, cell_ext hdr p3, cell_ext hdr p4, cell_ext hdr p5, cell_ext hdr p6, cell_ext hdr p7, cell_ext hdr p8, cell_ext hdr p9, cell_ext hdr p10, cell_ext hdr q0, cell_ext hdr q1, cell_ext hdr q2, cell_ext hdr q3, cell_ext hdr q4, cell_ext hdr q5, cell_ext hdr q6, cell_ext hdr q7, cell_ext hdr q8, cell_ext hdr q9, cell_ext hdr q10⟩)) (fail)
          go_wp2_with fail
          go_roundw
          case rel => exact ⟨i + 1, by go_num, by omega, ext_trans HB.out hdr, HK.out⟩
          case measure => simp [intOf]; omega
      · obtain rfl : P.length = i := by omega
        have hlc : ¬ (P.length : Int) < (P.length : Int) := by omega
        have HK := Lib.hid (show decide (P = Q) = true by rw [decide_eq_true_iff]; have h := HT.out; rw [List.take_length, HL.out, List.take_length] at h; exact h)
        go_wp2_with fail
        go_ret
        exact ⟨by rw [HK.out]; rfl, HB.out⟩
  · have hq : ((P.length : Int) == (Q.length : Int)) = false := by simp; omega
    have hqb : ((P.length : Int) != (Q.length : Int)) = true := by simp; omega
    have HN := Lib.hid (show decide (P = Q) = false by rw [decide_eq_false_iff_not]; intro e; exact hlen (by rw [e]))
    clear hlen
    go_wp2_with fail
    go_ret
    exact ⟨by rw [HN.out]; rfl, Below.refl _ _⟩
set_option maxRecDepth 100000 in
set_option maxHeartbeats 8000000 in
theorem rsame_any (P Q : List Ro) (hl : P.length ≤ 100000) (A B : Option Addr) (ca cb : Nat) (w : World) (hP : Rd w A (P.flatMap roCells)) (hQ : Rd w B (Q.flatMap roCells)) :
    Calls Tryz.prog 27 #[.slice A P.length ca, .slice B Q.length cb] w (EqPost P Q w) := by
  have HP := Lib.hid hP
  have HQ := Lib.hid hQ
  clear hP hQ
  go_enter Tryz.func27, Tryz.ntmps27
  by_cases hlen : P.length = Q.length
  · have hq : ((P.length : Int) == (Q.length : Int)) = true := by simp [hlen]
    have hqb : ((P.length : Int) != (Q.length : Int)) = false := by simp [hlen]
    have HL := Lib.hid hlen
    clear hlen
    go_wp2_with fail
    go_loopw [5] (fun t5 wr => ∃ i : Nat, t5 = .int .i64 i ∧ i ≤ P.length ∧ Hid (Below w.heap.size w wr) ∧ Hid (P.take i = Q.take i)) (fun t5 _ => P.length - (intOf t5).toNat)
    case atStart => exact ⟨0, rfl, Nat.zero_le _, Below.refl _ _, rfl⟩
    case round =>
      obtain ⟨i, rfl, hi, HB, HT⟩ := hrel
      by_cases hlt : i < P.length
      · have hltc : (i : Int) < (P.length : Int) := by omega
        have hlt2 : i < Q.length := by have := HL.out; omega
        have hltc2 : (i : Int) < (Q.length : Int) := by omega
        obtain ⟨b, o, rfl, hx⟩ := ro_rows (HP.out.ext HB.out) hlt
        obtain ⟨b2, o2, rfl, hy⟩ := ro_rows (HQ.out.ext HB.out) hlt2
        have HTS := Lib.hid (take_eq hlt hlt2 HT.out)
        have HNE := Lib.hid (take_ne hlt hlt2)
        generalize P[i]'hlt = x at hx HTS HNE
        generalize Q[i]'hlt2 = y at hy HTS HNE
        have p0 := hx.d.c0
        have p1 := hx.d.c1
        have p2 := hx.d.c2
        have p3 := hx.d.c3
        have p4 := hx.d.c4
        have p5 := hx.d.c5
        have p6 := hx.d.c6
        have p7 := hx.d.c7
        have p8 := hx.c8
        have p9 := hx.c9
        have p10 := hx.c10
        have q0 := hy.d.c0
        have q1 := hy.d.c1
        have q2 := hy.d.c2
        have q3 := hy.d.c3
        have q4 := hy.d.c4
        have q5 := hy.d.c5
        have q6 := hy.d.c6
        have q7 := hy.d.c7
        have q8 := hy.c8
        have q9 := hy.c9
        have q10 := hy.c10
        clear hx hy
        have hge := rro_guard
        obtain ⟨r, hr⟩ : ∃ r, r = roEq x y := ⟨_, rfl⟩
        have hqe : ∀ w, Sem.run Tryz.prog (binOp .neq 150 (.agg #[.string ⟨x.d.name.toArray⟩, .string ⟨x.d.who.toArray⟩, .int .i64 x.d.fr, .int .i64 x.d.till, .string ⟨x.d.els.toArray⟩, .int .i64 x.d.n, .int .i64 x.d.u, .int .i64 x.d.r, .int .i64 x.st, .int .i64 x.day, .int .i64 x.of]) (.agg #[.string ⟨y.d.name.toArray⟩, .string ⟨y.d.who.toArray⟩, .int .i64 y.d.fr, .int .i64 y.d.till, .string ⟨y.d.els.toArray⟩, .int .i64 y.d.n, .int .i64 y.d.u, .int .i64 y.d.r, .int .i64 y.st, .int .i64 y.day, .int .i64 y.of])) w = .ok (.bool (!r)) w := fun w => by rw [hr]; exact rro_neq x y w
        have HQe := Lib.hid (show r = true ↔ x = y by rw [hr]; exact roEq_iff _ _)
        clear hr
        have hdr := ext_drewN wr 1
        cases r
        · have HK := Lib.hid (HNE.out (fun h => by have := HQe.out.2 h; cases this))
          clear HTS HNE HQe
          simp only [Bool.not_false] at hqe
          go_wp2_with fail
          go_region_held3 (fun w' => w'.cell? ⟨b, o + i * 11, none⟩ = some (.string ⟨x.d.name.toArray⟩) ∧ w'.cell? ⟨b, o + i * 11 + 1, none⟩ = some (.string ⟨x.d.who.toArray⟩) ∧ w'.cell? ⟨b, o + i * 11 + 2, none⟩ = some (.int .i64 x.d.fr) ∧ w'.cell? ⟨b, o + i * 11 + 3, none⟩ = some (.int .i64 x.d.till) ∧ w'.cell? ⟨b, o + i * 11 + 4, none⟩ = some (.string ⟨x.d.els.toArray⟩) ∧ w'.cell? ⟨b, o + i * 11 + 5, none⟩ = some (.int .i64 x.d.n) ∧ w'.cell? ⟨b, o + i * 11 + 6, none⟩ = some (.int .i64 x.d.u) ∧ w'.cell? ⟨b, o + i * 11 + 7, none⟩ = some (.int .i64 x.d.r) ∧ w'.cell? ⟨b, o + i * 11 + 8, none⟩ = some (.int .i64 x.st) ∧ w'.cell? ⟨b, o + i * 11 + 9, none⟩ = some (.int .i64 x.day) ∧ w'.cell? ⟨b, o + i * 11 + 10, none⟩ = some (.int .i64 x.of) ∧ w'.cell? ⟨b2, o2 + i * 11, none⟩ = some (.string ⟨y.d.name.toArray⟩) ∧ w'.cell? ⟨b2, o2 + i * 11 + 1, none⟩ = some (.string ⟨y.d.who.toArray⟩) ∧ w'.cell? ⟨b2, o2 + i * 11 + 2, none⟩ = some (.int .i64 y.d.fr) ∧ w'.cell? ⟨b2, o2 + i * 11 + 3, none⟩ = some (.int .i64 y.d.till) ∧ w'.cell? ⟨b2, o2 + i * 11 + 4, none⟩ = some (.string ⟨y.d.els.toArray⟩) ∧ w'.cell? ⟨b2, o2 + i * 11 + 5, none⟩ = some (.int .i64 y.d.n) ∧ w'.cell? ⟨b2, o2 + i * 11 + 6, none⟩ = some (.int .i64 y.d.u) ∧ w'.cell? ⟨b2, o2 + i * 11 + 7, none⟩ = some (.int .i64 y.d.r) ∧ w'.cell? ⟨b2, o2 + i * 11 + 8, none⟩ = some (.int .i64 y.st) ∧ w'.cell? ⟨b2, o2 + i * 11 + 9, none⟩ = some (.int .i64 y.day) ∧ w'.cell? ⟨b2, o2 + i * 11 + 10, none⟩ = some (.int .i64 y.of)) ((first | exact ⟨p0, p1, p2, p3, p4, p5, p6, p7, p8, p9, p10, q0, q1, q2, q3, q4, q5, q6, q7, q8, q9, q10⟩ | exact ⟨cell_ext hdr p0, cell_ext hdr p1, cell_ext hdr p2, cell_ext hdr p3, cell_ext hdr p4, cell_ext hdr p5, cell_ext hdr p6, cell_ext hdr p7, cell_ext hdr p8, cell_ext hdr p9, cell_ext hdr p10, cell_ext hdr q0, cell_ext hdr q1, cell_ext hdr q2, cell_ext hdr q3, cell_ext hdr q4, cell_ext hdr q5, cell_ext hdr q6, cell_ext hdr q7, cell_ext hdr q8, cell_ext hdr q9, cell_ext hdr q10⟩)) (fail)
          go_wp2_with fail
          go_ret
          exact ⟨by rw [HK.out]; rfl, ext_trans HB.out hdr⟩
        · have HK := Lib.hid (HTS.out (HQe.out.1 rfl))
          clear HTS HNE HQe
          simp only [Bool.not_true] at hqe
          go_wp2_with fail
          go_region_held3 (fun w' => w'.cell? ⟨b, o + i * 11, none⟩ = some (.string ⟨x.d.name.toArray⟩) ∧ w'.cell? ⟨b, o + i * 11 + 1, none⟩ = some (.string ⟨x.d.who.toArray⟩) ∧ w'.cell? ⟨b, o + i * 11 + 2, none⟩ = some (.int .i64 x.d.fr) ∧ w'.cell? ⟨b, o + i * 11 + 3, none⟩ = some (.int .i64 x.d.till) ∧ w'.cell? ⟨b, o + i * 11 + 4, none⟩ = some (.string ⟨x.d.els.toArray⟩) ∧ w'.cell? ⟨b, o + i * 11 + 5, none⟩ = some (.int .i64 x.d.n) ∧ w'.cell? ⟨b, o + i * 11 + 6, none⟩ = some (.int .i64 x.d.u) ∧ w'.cell? ⟨b, o + i * 11 + 7, none⟩ = some (.int .i64 x.d.r) ∧ w'.cell? ⟨b, o + i * 11 + 8, none⟩ = some (.int .i64 x.st) ∧ w'.cell? ⟨b, o + i * 11 + 9, none⟩ = some (.int .i64 x.day) ∧ w'.cell? ⟨b, o + i * 11 + 10, none⟩ = some (.int .i64 x.of) ∧ w'.cell? ⟨b2, o2 + i * 11, none⟩ = some (.string ⟨y.d.name.toArray⟩) ∧ w'.cell? ⟨b2, o2 + i * 11 + 1, none⟩ = some (.string ⟨y.d.who.toArray⟩) ∧ w'.cell? ⟨b2, o2 + i * 11 + 2, none⟩ = some (.int .i64 y.d.fr) ∧ w'.cell? ⟨b2, o2 + i * 11 + 3, none⟩ = some (.int .i64 y.d.till) ∧ w'.cell? ⟨b2, o2 + i * 11 + 4, none⟩ = some (.string ⟨y.d.els.toArray⟩) ∧ w'.cell? ⟨b2, o2 + i * 11 + 5, none⟩ = some (.int .i64 y.d.n) ∧ w'.cell? ⟨b2, o2 + i * 11 + 6, none⟩ = some (.int .i64 y.d.u) ∧ w'.cell? ⟨b2, o2 + i * 11 + 7, none⟩ = some (.int .i64 y.d.r) ∧ w'.cell? ⟨b2, o2 + i * 11 + 8, none⟩ = some (.int .i64 y.st) ∧ w'.cell? ⟨b2, o2 + i * 11 + 9, none⟩ = some (.int .i64 y.day) ∧ w'.cell? ⟨b2, o2 + i * 11 + 10, none⟩ = some (.int .i64 y.of)) ((first | exact ⟨p0, p1, p2, p3, p4, p5, p6, p7, p8, p9, p10, q0, q1, q2, q3, q4, q5, q6, q7, q8, q9, q10⟩ | exact ⟨cell_ext hdr p0, cell_ext hdr p1, cell_ext hdr p2, cell_ext hdr p3, cell_ext hdr p4, cell_ext hdr p5, cell_ext hdr p6, cell_ext hdr p7, cell_ext hdr p8, cell_ext hdr p9, cell_ext hdr p10, cell_ext hdr q0, cell_ext hdr q1, cell_ext hdr q2, cell_ext hdr q3, cell_ext hdr q4, cell_ext hdr q5, cell_ext hdr q6, cell_ext hdr q7, cell_ext hdr q8, cell_ext hdr q9, cell_ext hdr q10⟩)) (fail)
          go_wp2_with fail
          go_roundw
          case rel => exact ⟨i + 1, by go_num, by omega, ext_trans HB.out hdr, HK.out⟩
          case measure => simp [intOf]; omega
      · obtain rfl : P.length = i := by omega
        have hlc : ¬ (P.length : Int) < (P.length : Int) := by omega
        have HK := Lib.hid (show decide (P = Q) = true by rw [decide_eq_true_iff]; have h := HT.out; rw [List.take_length, HL.out, List.take_length] at h; exact h)
        go_wp2_with fail
        go_ret
        exact ⟨by rw [HK.out]; rfl, HB.out⟩
  · have hq : ((P.length : Int) == (Q.length : Int)) = false := by simp; omega
    have hqb : ((P.length : Int) != (Q.length : Int)) = true := by simp; omega
    have HN := Lib.hid (show decide (P = Q) = false by rw [decide_eq_false_iff_not]; intro e; exact hlen (by rw [e]))
    clear hlen
    go_wp2_with fail
    go_ret
    exact ⟨by rw [HN.out]; rfl, Below.refl _ _⟩
theorem duty_neq_self (x : Dt) (w : World) : (binOp .neq 128 (.agg #[.string ⟨x.name.toArray⟩, .string ⟨x.who.toArray⟩, .int .i64 x.fr, .int .i64 x.till, .string ⟨x.els.toArray⟩, .int .i64 x.n, .int .i64 x.u, .int .i64 x.r]) (.agg #[.string ⟨x.name.toArray⟩, .string ⟨x.who.toArray⟩, .int .i64 x.fr, .int .i64 x.till, .string ⟨x.els.toArray⟩, .int .i64 x.n, .int .i64 x.u, .int .i64 x.r])).run Tryz.prog w = .ok (.bool false) w := by
  have h := duty_eql x.name x.who x.fr x.till x.els x.n x.u x.r x.name x.who x.fr x.till x.els x.n x.u x.r w
  rw [run_eql_struct] at h
  rw [run_neq_struct]
  rw [show dtEq ⟨x.name, x.who, x.fr, x.till, x.els, x.n, x.u, x.r⟩ ⟨x.name, x.who, x.fr, x.till, x.els, x.n, x.u, x.r⟩ = true from (dtEq_iff _ _).2 rfl] at h
  generalize (Op.equalIn 10000 128 (.agg #[.string ⟨x.name.toArray⟩, .string ⟨x.who.toArray⟩, .int .i64 x.fr, .int .i64 x.till, .string ⟨x.els.toArray⟩, .int .i64 x.n, .int .i64 x.u, .int .i64 x.r]) (.agg #[.string ⟨x.name.toArray⟩, .string ⟨x.who.toArray⟩, .int .i64 x.fr, .int .i64 x.till, .string ⟨x.els.toArray⟩, .int .i64 x.n, .int .i64 x.u, .int .i64 x.r])).run Tryz.prog w = r at h
  cases r with
  | ok x w' =>
    simp only [Result.andThen_ok, Result.ok.injEq, Value.bool.injEq] at h
    obtain ⟨rfl, rfl⟩ := h
    rfl
  | _ => simp [Result.andThen] at h
set_option maxRecDepth 100000 in
set_option maxHeartbeats 8000000 in
theorem lsame_any (P : List Ro) (hl : P.length ≤ 100000) (A B : Option Addr) (ca cb : Nat) (w : World) (hP : Rd w A (P.flatMap roCells)) (hQ : Rd w B (P.flatMap roCells)) :
    Calls Tryz.prog 26 #[.slice A P.length ca, .slice B P.length cb] w (fun e w' => e = .returned (.bool true) ∧ Below w.heap.size w w') := by
  have HP := Lib.hid hP
  have HQ := Lib.hid hQ
  clear hP hQ
  go_enter Tryz.func26, Tryz.ntmps26
  have hqb : ((P.length : Int) != (P.length : Int)) = false := by simp
  go_wp2_with fail
  go_loopw [5] (fun t5 wr => ∃ i : Nat, t5 = .int .i64 i ∧ i ≤ P.length ∧ Hid (Below w.heap.size w wr)) (fun t5 _ => P.length - (intOf t5).toNat)
  case atStart => exact ⟨0, rfl, Nat.zero_le _, Below.refl _ _⟩
  case round =>
    obtain ⟨i, rfl, hi, HB⟩ := hrel
    by_cases hlt : i < P.length
    · have hltc : (i : Int) < (P.length : Int) := by omega
      obtain ⟨b, o, rfl, hx⟩ := ro_rows (HP.out.ext HB.out) hlt
      obtain ⟨b2, o2, rfl, hy⟩ := ro_rows (HQ.out.ext HB.out) hlt
      generalize P[i]'hlt = x at hx hy
      have p0 := hx.d.c0
      have p1 := hx.d.c1
      have p2 := hx.d.c2
      have p3 := hx.d.c3
      have p4 := hx.d.c4
      have p5 := hx.d.c5
      have p6 := hx.d.c6
      have p7 := hx.d.c7
      have p8 := hx.c8
      have p9 := hx.c9
      have p10 := hx.c10
      have q0 := hy.d.c0
      have q1 := hy.d.c1
      have q2 := hy.d.c2
      have q3 := hy.d.c3
      have q4 := hy.d.c4
      have q5 := hy.d.c5
      have q6 := hy.d.c6
      have q7 := hy.d.c7
      have q8 := hy.c8
      have q9 := hy.c9
      have q10 := hy.c10
      clear hx hy
      have hge := duty_guard
      have hqe : ∀ w, Sem.run Tryz.prog (binOp .neq 128 (.agg #[.string ⟨x.d.name.toArray⟩, .string ⟨x.d.who.toArray⟩, .int .i64 x.d.fr, .int .i64 x.d.till, .string ⟨x.d.els.toArray⟩, .int .i64 x.d.n, .int .i64 x.d.u, .int .i64 x.d.r]) (.agg #[.string ⟨x.d.name.toArray⟩, .string ⟨x.d.who.toArray⟩, .int .i64 x.d.fr, .int .i64 x.d.till, .string ⟨x.d.els.toArray⟩, .int .i64 x.d.n, .int .i64 x.d.u, .int .i64 x.d.r])) w = .ok (.bool false) w := fun w => duty_neq_self x.d w
      have qs : (x.st != x.st) = false := by simp
      have qd : (x.day != x.day) = false := by simp
      have qo : (x.of != x.of) = false := by simp
      have hdr := ext_drewN wr 1
      go_wp2_with fail
      go_region_held3 (fun w' => w'.cell? ⟨b, o + i * 11, none⟩ = some (.string ⟨x.d.name.toArray⟩) ∧ w'.cell? ⟨b, o + i * 11 + 1, none⟩ = some (.string ⟨x.d.who.toArray⟩) ∧ w'.cell? ⟨b, o + i * 11 + 2, none⟩ = some (.int .i64 x.d.fr) ∧ w'.cell? ⟨b, o + i * 11 + 3, none⟩ = some (.int .i64 x.d.till) ∧ w'.cell? ⟨b, o + i * 11 + 4, none⟩ = some (.string ⟨x.d.els.toArray⟩) ∧ w'.cell? ⟨b, o + i * 11 + 5, none⟩ = some (.int .i64 x.d.n) ∧ w'.cell? ⟨b, o + i * 11 + 6, none⟩ = some (.int .i64 x.d.u) ∧ w'.cell? ⟨b, o + i * 11 + 7, none⟩ = some (.int .i64 x.d.r) ∧ w'.cell? ⟨b, o + i * 11 + 8, none⟩ = some (.int .i64 x.st) ∧ w'.cell? ⟨b, o + i * 11 + 9, none⟩ = some (.int .i64 x.day) ∧ w'.cell? ⟨b, o + i * 11 + 10, none⟩ = some (.int .i64 x.of) ∧ w'.cell? ⟨b2, o2 + i * 11, none⟩ = some (.string ⟨x.d.name.toArray⟩) ∧ w'.cell? ⟨b2, o2 + i * 11 + 1, none⟩ = some (.string ⟨x.d.who.toArray⟩) ∧ w'.cell? ⟨b2, o2 + i * 11 + 2, none⟩ = some (.int .i64 x.d.fr) ∧ w'.cell? ⟨b2, o2 + i * 11 + 3, none⟩ = some (.int .i64 x.d.till) ∧ w'.cell? ⟨b2, o2 + i * 11 + 4, none⟩ = some (.string ⟨x.d.els.toArray⟩) ∧ w'.cell? ⟨b2, o2 + i * 11 + 5, none⟩ = some (.int .i64 x.d.n) ∧ w'.cell? ⟨b2, o2 + i * 11 + 6, none⟩ = some (.int .i64 x.d.u) ∧ w'.cell? ⟨b2, o2 + i * 11 + 7, none⟩ = some (.int .i64 x.d.r) ∧ w'.cell? ⟨b2, o2 + i * 11 + 8, none⟩ = some (.int .i64 x.st) ∧ w'.cell? ⟨b2, o2 + i * 11 + 9, none⟩ = some (.int .i64 x.day) ∧ w'.cell? ⟨b2, o2 + i * 11 + 10, none⟩ = some (.int .i64 x.of)) ((first | exact ⟨cell_ext hdr p0, cell_ext hdr p1, cell_ext hdr p2, cell_ext hdr p3, cell_ext hdr p4, cell_ext hdr p5, cell_ext hdr p6, cell_ext hdr p7, cell_ext hdr p8, cell_ext hdr p9, cell_ext hdr p10, cell_ext hdr q0, cell_ext hdr q1, cell_ext hdr q2, cell_ext hdr q3, cell_ext hdr q4, cell_ext hdr q5, cell_ext hdr q6, cell_ext hdr q7, cell_ext hdr q8, cell_ext hdr q9, cell_ext hdr q10⟩ | exact ⟨cell_ext HBs.out p0, cell_ext HBs.out p1, cell_ext HBs.out p2, cell_ext HBs.out p3, cell_ext HBs.out p4, cell_ext HBs.out p5, cell_ext HBs.out p6, cell_ext HBs.out p7, cell_ext HBs.out p8, cell_ext HBs.out p9, cell_ext HBs.out p10, cell_ext HBs.out q0, cell_ext HBs.out q1, cell_ext HBs.out q2, cell_ext HBs.out q3, cell_ext HBs.out q4, cell_ext HBs.out q5, cell_ext HBs.out q6, cell_ext HBs.out q7, cell_ext HBs.out q8, cell_ext HBs.out q9, cell_ext HBs.out q10⟩))
        ((go_at_call 57; refine (duty_any x.d.name x.d.who x.d.fr x.d.till x.d.els x.d.n x.d.u x.d.r _).mono ?_; rintro e w9 ⟨rfl, hb9⟩; have HBs := Lib.hid (ext_trans hdr hb9); clear hb9))
      go_wp2_with fail
      go_roundw
      case rel => exact ⟨i + 1, by go_num, by omega, ext_trans HB.out HBs.out⟩
      case measure => simp [intOf]; omega
    · obtain rfl : P.length = i := by omega
      have hlc : ¬ (P.length : Int) < (P.length : Int) := by omega
      go_wp2_with fail
      go_ret
      exact ⟨rfl, HB.out⟩
end Go.Proofs.YtcpcejmlnhflpaaGreatDoor.Dut
namespace Go.Proofs.YtcpcejmlnhflpaaGreatDoor.Dut
open Go.RowKit Mem Nest Sol App CdP CdM Solve Err CdR Srt

theorem walk_good {c : Cd} {st d : Int} {n : Nat} {r : Option Int} (h : Walk c st d n r) : ∀ x, r = some x → 0 < n → Gd x := by
  induction h with
  | done d => intro x _ h; omega
  | out d n g => intro x h; cases h
  | off d n r g hw h ih => intro x hx _; exact ih x hx (by omega)
  | on d n r g hw h ih =>
    intro x hx _
    cases n with
    | zero => cases h; obtain rfl := Option.some.inj hx; exact g
    | succ n => exact ih x hx (by omega)
theorem due_good {c : Cd} {d n u how : Int} {o : Int × Int} (h : DueP c d n u how o) (h0 : o.2 = 0) : Gd o.1 := by
  rcases h with ⟨_, rfl⟩ | ⟨_, _, rfl⟩ | ⟨_, _, _, rfl⟩ | ⟨_, _, _, m, _, h⟩
  · cases h0
  · cases h0
  · cases h0
  · rcases h with ⟨_, rfl⟩ | ⟨_, _, h⟩
    · cases h0
    · rcases h with ⟨_, rfl⟩ | ⟨_, _, rfl⟩ | ⟨g, _, rfl⟩ | ⟨_, _, r, hw, rfl⟩ | ⟨_, _, r, hw, rfl⟩
      · cases h0
      · cases h0
      · exact g
      · cases r with
        | none => cases h0
        | some x => exact walk_good hw x rfl (by decide)
      · cases r with
        | none => cases h0
        | some x => exact walk_good hw x rfl (by decide)
def NextOk (c : Cd) (l : List Dt) (es : List Ev) (on n : Int) : Prop :=
  (n = 0 ∧ ∀ d ∈ daysN c l, on < d → Gd d → statesF c l (pastF es on) d = statesF c l es on) ∨
  (on < n ∧ Gd n ∧ statesF c l (pastF es on) n ≠ statesF c l es on ∧ ∀ d ∈ daysN c l, on < d → d < n → Gd d → statesF c l (pastF es on) d = statesF c l es on)
def NxPost (c : Cd) (l : List Dt) (es : List Ev) (on : Int) (A : Nat → Addr) (w : World) (e : Ending) (w' : World) : Prop :=
  (∃ n, e = .returned (.tuple #[.int .i64 n, errC A (codeV c l es on)]) ∧ (codeV c l es on ≠ 0 → n = 0) ∧ (codeV c l es on = 0 → NextOk c l es on n)) ∧ Below w.heap.size w w'
theorem days_take {c : Cd} {l : List Dt} {k : Nat} (h : k < l.length) : daysN c (l.take (k + 1)) = daysN c (l.take k) ++ dayOf c l[k] := by
  unfold daysN
  rw [List.take_succ_eq_append_getElem h, List.flatMap_append]
  simp
theorem day_len (c : Cd) (x : Dt) : (dayOf c x).length ≤ 3 := by
  unfold dayOf
  split <;> simp
theorem days_len (c : Cd) : ∀ l : List Dt, (daysN c l).length ≤ 3 * l.length
  | [] => by simp [daysN]
  | x :: l => by
    have h := days_len c l
    have h1 := day_len c x
    unfold daysN at h ⊢
    rw [List.flatMap_cons, List.length_append, List.length_cons]
    omega
/-- the days looked at so far -/
def Lk (c : Cd) (l : List Dt) (es : List Ev) (on : Int) (ds : List Int) (k : Nat) : Prop := ∀ j (h : j < ds.length), j < k → on < ds[j] → Gd ds[j] → statesF c l (pastF es on) ds[j] = statesF c l es on
theorem Lk.succ {c : Cd} {l : List Dt} {es : List Ev} {on : Int} {ds : List Int} {k : Nat} (h : Lk c l es on ds k) (hk : k < ds.length) (g : on < ds[k] → Gd ds[k] → statesF c l (pastF es on) ds[k] = statesF c l es on) : Lk c l es on ds (k + 1) := by
  intro j hj hjk
  by_cases e : j = k
  · subst e; exact g
  · exact h j hj (by omega)
theorem Lk.found {c : Cd} {l : List Dt} {es : List Ev} {on : Int} {k : Nat} (h : Lk c l es on (sortI (daysN c l)) k) (hk : k < (sortI (daysN c l)).length) (h1 : on < (sortI (daysN c l))[k]) (h2 : Gd (sortI (daysN c l))[k]) (h3 : statesF c l (pastF es on) (sortI (daysN c l))[k] ≠ statesF c l es on) : NextOk c l es on (sortI (daysN c l))[k] := by
  refine .inr ⟨h1, h2, h3, fun d hd a b g => ?_⟩
  obtain ⟨j, hj, rfl⟩ := List.getElem_of_mem ((sortI_mem (daysN c l) d).2 hd)
  refine h j hj ?_ a g
  by_cases e : j < k
  · exact e
  · by_cases e2 : j = k
    · subst e2; omega
    · have := sortI_le (daysN c l) (show k < j by omega) hj
      omega
theorem Lk.all {c : Cd} {l : List Dt} {es : List Ev} {on : Int} {k : Nat} (h : Lk c l es on (sortI (daysN c l)) k) (hk : (sortI (daysN c l)).length ≤ k) : NextOk c l es on 0 := by
  refine .inl ⟨rfl, fun d hd a g => ?_⟩
  obtain ⟨j, hj, rfl⟩ := List.getElem_of_mem ((sortI_mem (daysN c l) d).2 hd)
  exact h j hj (by omega) a g
theorem vok_at {l : List Dt} {on d : Int} (h : VOk l on l.length) (g : Gd d) : VOk l d l.length := ⟨g, h.2⟩
theorem ints_append (a b : List Int) : ints (a ++ b) = ints a ++ ints b := by simp [ints]
theorem blk_grown5 {w w' : World} {K base n : Nat} {T e : TypeId} {cs ys : List Value} {size : Nat} {v : Value} {o : Obj} (h : Blk w K T cs) (ho : w.ownsRow base e size v n ys) (hT : T ≠ e) (hg : (w.alloc o).grownBy w' v.ownBlock) : Blk w' K T cs := by
  have h2 : Blk (w.alloc o) K T cs := Sol.blk_ext h (ext_alloc w o)
  have hne : some K ≠ v.ownBlock := fun hk => by
    obtain ⟨c, fz, h3⟩ := Lib.ownsRow_kind ho K hk.symm
    unfold Blk at h
    rw [h] at h3
    simp only [Option.some.injEq, Obj.cells.injEq] at h3
    exact hT h3.2.1
  unfold Blk at h2 ⊢
  rw [hg.block K (Array.getElem?_eq_some_iff.1 h2).1 hne]
  exact h2
set_option maxRecDepth 100000 in
set_option maxHeartbeats 16000000 in
theorem next_any (l : List Dt) (hl : l.length ≤ 1000) (es : List Ev) (he : es.length ≤ 1000) (c : Cd) (ok : CdOk c) (cb co : Nat) (H : Option Addr) (hc : Nat) (on : Int) (A : Nat → Addr) (LA EA : Option Addr) (lc ec : Nat) (w : World)
    (hd : Rd w LA (l.flatMap dtCells)) (hv : Rd w EA (es.flatMap evCells)) (hC : CdA w cb co c H hc) (hE : E3 w A) :
    Calls Tryz.prog 22 #[.slice LA l.length lc, .slice EA es.length ec, .pointer (some ⟨cb, co, none⟩), .int .i64 on] w (NxPost c l es on A w) := by
  have bx := Blk.new w 3 [.int .i64 on]
  have hx1 := ext_alloc w (.cells (List.toArray [.int .i64 on]) 3)
  obtain ⟨W, hW⟩ : ∃ W, W = w.alloc (.cells (List.toArray [.int .i64 on]) 3) := ⟨_, rfl⟩
  obtain ⟨tb, htb⟩ : ∃ tb, tb = w.heap.size := ⟨_, rfl⟩
  rw [← hW] at bx hx1
  rw [← htb] at bx
  have HX := Lib.hid hx1
  have HD := Lib.hid (hd.ext hx1)
  have HV := Lib.hid (hv.ext hx1)
  have HC := Lib.hid (hC.ext hx1)
  have HE := Lib.hid (hE.below hx1)
  have HT := Lib.hid (bx.cell 0 rfl)
  have HOK := Lib.hid ok
  obtain ⟨i0, hi, hz0, hz1, hz2⟩ := info_parts CdM.int_info
  have HI := Lib.hid hi
  have HZ0 := Lib.hid hz0
  have HZ1 := Lib.hid hz1
  have HZ2 := Lib.hid hz2
  clear hd hv hC hE ok hi hz0 hz1 hz2 hx1 bx
  go_enter Tryz.func22, Tryz.ntmps22
  go_upto_region 3 with fail
  rw [show w.alloc (.cells (List.toArray [.int .i64 on]) 3) = W from hW.symm, ← htb]
  clear hW htb
  have t0 := HT.out
  go_wp2_with fail
  refine (dvalid_s l hl es he c HOK.out cb co H hc on A LA EA lc ec _ HD.out HV.out HC.out HE.out).mono ?_
  rintro e w1 ⟨rfl, hb1⟩
  have HB1 := Lib.hid (ext_trans HX.out hb1)
  have HBW := Lib.hid hb1
  clear hb1 t0
  by_cases hz : codeV c l es on = 0
  · have HCZ := Lib.hid hz
    obtain ⟨hl2, he2, hvo, heg, hdo⟩ := codeV_zero hz
    have HVO := Lib.hid hvo
    have HDO := Lib.hid hdo
    have t1 := cell_ext HBW.out HT.out
    have HT1 := Lib.hid t1
    rw [hz, errC_zero]
    clear hz hvo heg hdo
    go_wp2_with fail
    refine (cloneE_any es he EA ec _ (HV.out.ext HBW.out)).mono ?_
    rintro e w2 ⟨⟨v, rfl, ho⟩, hb2⟩
    have HO := Lib.hid ho
    have HB12 := Lib.hid hb2
    clear ho hb2
    go_wp2_with fail
    refine (delete_any es he v tb on w1 w2 HB12.out HO.out HT1.out).mono ?_
    rintro e w3 ⟨⟨PA, pc, rfl, hp⟩, hb3⟩
    have HP := Lib.hid hp
    have HB3 := Lib.hid (ext_trans HBW.out hb3)
    have HBt := Lib.hid (ext_trans HX.out HB3.out)
    have hpl := past_len es on
    have t3 := cell_ext HB3.out HT.out
    clear hp hb3 t1 HO HB12 HT1
    go_wp2_with fail
    refine (dstates_s l hl (pastF es on) (by omega) c HOK.out cb co H hc on A LA PA lc pc _ (HD.out.ext HB3.out) HP.out (HC.out.ext HB3.out) (HE.out.below HB3.out) HVO.out).mono ?_
    rintro e w4 ⟨SA, sc, rfl, hs, hb4⟩
    rw [states_now] at hs ⊢
    have HS := Lib.hid hs
    have HP := Lib.hid (HP.out.ext hb4)
    have HB4 := Lib.hid (ext_trans HB3.out hb4)
    clear hs hb4 t3
    go_wp2_with fail
    go_loopw [12, 42] (fun s12 s42 wr => ∃ k : Nat, s42 = .int .i64 k ∧ k ≤ l.length ∧ Hid (Below w4.heap.size w4 wr) ∧ Hid (wr.ownsRow w4.heap.size 3 1 s12 (daysN c (l.take k)).length (ints (daysN c (l.take k))))) (fun _ s42 _ => l.length - (intOf s42).toNat)
    case atStart => exact ⟨0, rfl, Nat.zero_le _, Below.refl _ _, World.ownsRow_nil _ _ _ _⟩
    case round =>
      obtain ⟨k, rfl, hk, HB, HO⟩ := hrel
      have HBr := Lib.hid (ext_trans HB4.out HB.out)
      by_cases hlt : k < l.length
      · have hcl : (k : Int) < (l.length : Int) := by omega
        obtain ⟨b, o, rfl, hd⟩ := dt_at (HD.out.ext HBr.out) hlt
        have HTK := Lib.hid (days_take (c := c) hlt)
        have hdl : (daysN c (l.take k)).length ≤ 3 * k := by
          have := days_len c (l.take k)
          rw [List.length_take] at this
          omega
        have hx : DOk l[k] := HVO.out.2 _ (by rw [List.take_length]; exact List.getElem_mem hlt)
        have HDx := Lib.hid (HDO.out _ (List.getElem_mem hlt))
        generalize daysN c (l.take k) = dk at HO HTK hdl
        generalize l[k] = x at hd HTK hx HDx
        obtain ⟨nm, wh, fr, tl, el, tn, tu, tr⟩ := x
        obtain ⟨c0, c1, c2, c3, c4, c5, c6, c7⟩ := hd
        simp only at c0 c1 c2 c3 c4 c5 c6 c7 HDx
        have ht1 : 1 ≤ tl := hx.2.1.1
        have ht2 : tl ≤ 3652059 := hx.2.1.2
        clear hx
        have hx1 := ext_alloc wr (.cells (List.toArray [.string ⟨nm.toArray⟩, .string ⟨wh.toArray⟩, .int .i64 fr, .int .i64 tl, .string ⟨el.toArray⟩, .int .i64 tn, .int .i64 tu, .int .i64 tr]) 128)
        have bx := Blk.new wr 128 [.string ⟨nm.toArray⟩, .string ⟨wh.toArray⟩, .int .i64 fr, .int .i64 tl, .string ⟨el.toArray⟩, .int .i64 tn, .int .i64 tu, .int .i64 tr]
        obtain ⟨V, hV⟩ : ∃ V, V = wr.alloc (.cells (List.toArray [.string ⟨nm.toArray⟩, .string ⟨wh.toArray⟩, .int .i64 fr, .int .i64 tl, .string ⟨el.toArray⟩, .int .i64 tn, .int .i64 tu, .int .i64 tr]) 128) := ⟨_, rfl⟩
        obtain ⟨K, hK⟩ : ∃ K, K = wr.heap.size := ⟨_, rfl⟩
        rw [← hV] at bx hx1
        rw [← hK] at bx
        go_upto_region 12 with fail
        rw [show wr.alloc (.cells (List.toArray [.string ⟨nm.toArray⟩, .string ⟨wh.toArray⟩, .int .i64 fr, .int .i64 tl, .string ⟨el.toArray⟩, .int .i64 tn, .int .i64 tu, .int .i64 tr]) 128) = V from hV.symm, ← hK]
        have HBV := Lib.hid (ext_trans HB.out hx1)
        have HOV := Lib.hid (own_ext HO.out hx1)
        have HKb := Lib.hid bx
        clear hV hK hx1 c0 c1 c2 c3 c4 c5 c6 c7
        have y2 := bx.cell 2 rfl
        have y3 := bx.cell 3 rfl
        clear bx
        cases el with
        | nil =>
          have HTL := Lib.hid (HTK.out.trans (by rw [show dayOf c ⟨nm, wh, fr, tl, [], tn, tu, tr⟩ = [fr, tl + 1] from rfl]))
          clear HTK HDx
          go_wp2_with (at_builtin; go_loud (refine wpList_append_own _ rfl _ _ _ rfl w4.heap.size 3 i0 _ 1 8 Tryz.underlying35 HI.out HZ0.out HZ1.out HZ2.out rfl (by omega) u12 dk.length _ rfl (World.ownsRow.alloc HOV.out _) ⟨V.heap.size, 0, none⟩ 2 2 [.int .i64 fr, .int .i64 (tl + 1)] rfl rfl (new_cells V [.int .i64 fr, .int .i64 (tl + 1)] _ _ rfl) (by intro u hu; simp only [List.mem_cons, List.not_mem_nil, or_false] at hu; rcases hu with rfl | rfl <;> rfl) (by simp only [maxLen]; omega) (by omega) (by have := HBV.out.size; simp; omega) ?_; intro v1 w5 hown hg _; have HO5 := Lib.hid hown; have HB5 := Lib.hid (Below.grown (ext_trans HBV.out (ext_alloc V _)) hg (by have := HBV.out.size; simp; omega) (fun g hg => (HOV.out.lt g hg).1)); have HK5 := Lib.hid (blk_grown5 HKb.out HOV.out (by decide) hg); have z3 := HK5.out.cell 3 rfl; have z4 := HK5.out.cell 4 rfl; have z5 := HK5.out.cell 5 rfl; have z6 := HK5.out.cell 6 rfl; have z7 := HK5.out.cell 7 rfl; clear hown hg))
          go_roundw
          case rel =>
            refine ⟨k + 1, by go_num, by omega, HB5.out, ?_⟩
            have ho := HO5.out
            show World.ownsRow _ _ _ _ _ _ _
            rw [HTL.out, List.length_append, ints_append]
            exact ho
          case measure => simp [intOf] <;> omega
        | cons e0 er =>
          go_wp2_with (at_builtin; go_loud (refine wpList_append_own _ rfl _ _ _ rfl w4.heap.size 3 i0 _ 1 8 Tryz.underlying35 HI.out HZ0.out HZ1.out HZ2.out rfl (by omega) u12 dk.length _ rfl (World.ownsRow.alloc HOV.out _) ⟨V.heap.size, 0, none⟩ 2 2 [.int .i64 fr, .int .i64 (tl + 1)] rfl rfl (new_cells V [.int .i64 fr, .int .i64 (tl + 1)] _ _ rfl) (by intro u hu; simp only [List.mem_cons, List.not_mem_nil, or_false] at hu; rcases hu with rfl | rfl <;> rfl) (by simp only [maxLen]; omega) (by omega) (by have := HBV.out.size; simp; omega) ?_; intro v1 w5 hown hg _; have HO5 := Lib.hid hown; have HB5 := Lib.hid (Below.grown (ext_trans HBV.out (ext_alloc V _)) hg (by have := HBV.out.size; simp; omega) (fun g hg => (HOV.out.lt g hg).1)); have HK5 := Lib.hid (blk_grown5 HKb.out HOV.out (by decide) hg); have z3 := HK5.out.cell 3 rfl; have z4 := HK5.out.cell 4 rfl; have z5 := HK5.out.cell 5 rfl; have z6 := HK5.out.cell 6 rfl; have z7 := HK5.out.cell 7 rfl; clear hown hg))
          refine (pdue_any c HOK.out cb co H hc (tl + 1) tn tu tr A _ (HC.out.ext (ext_trans HB4.out HB5.out)) (HE.out.below (ext_trans HB4.out HB5.out))).mono ?_
          rintro e w6 ⟨⟨o1, o2⟩, hdu, rfl, hb6⟩
          have HDu := Lib.hid (due_eq (x := ⟨nm, wh, fr, tl, e0 :: er, tn, tu, tr⟩) hdu)
          have hz : o2 = 0 := by have h := HDx.out (by simp); rw [HDu.out] at h; exact h
          have hgd := due_good hdu hz
          have hg1 : 1 ≤ o1 := hgd.1
          have hg2 : o1 ≤ 3652059 := hgd.2
          subst hz
          have HTL := Lib.hid (HTK.out.trans (by rw [show dayOf c ⟨nm, wh, fr, tl, e0 :: er, tn, tu, tr⟩ = [fr, tl + 1] ++ [o1 + 1] by unfold dayOf; rw [if_neg (by simp), HDu.out]]))
          have HB6 := Lib.hid (ext_trans HB5.out hb6)
          have HO6 := Lib.hid (own_ext HO5.out hb6)
          rw [errC_zero]
          clear hdu hgd hb6 z3 z4 z5 z6 z7 HTK HDx HDu
          go_wp2_with (at_builtin; go_loud (refine wpList_append_own _ rfl _ _ _ rfl w4.heap.size 3 i0 _ 1 8 Tryz.underlying35 HI.out HZ0.out HZ1.out HZ2.out rfl (by omega) _ (dk.length + 2) _ rfl (World.ownsRow.alloc HO6.out _) ⟨w6.heap.size, 0, none⟩ 1 1 [.int .i64 (o1 + 1)] rfl rfl (new_cells w6 [.int .i64 (o1 + 1)] _ _ rfl) (by intro u hu; simp only [List.mem_cons, List.not_mem_nil, or_false] at hu; subst hu; rfl) (by simp only [maxLen]; omega) (by omega) (by have := HB6.out.size; simp; omega) ?_; intro v2 w7 hown hg _; have HO7 := Lib.hid hown; have HB7 := Lib.hid (Below.grown (ext_trans HB6.out (ext_alloc w6 _)) hg (by have := HB6.out.size; simp; omega) (fun g hg => (HO6.out.lt g hg).1)); clear hown hg))
          go_roundw
          case rel =>
            refine ⟨k + 1, by go_num, by omega, HB7.out, ?_⟩
            have ho := HO7.out
            show World.ownsRow _ _ _ _ _ _ _
            rw [HTL.out, List.length_append, ints_append]
            have e1 : ints ([fr, tl + 1] ++ [o1 + 1]) = [.int .i64 fr, .int .i64 (tl + 1)] ++ [.int .i64 (o1 + 1)] := rfl
            rw [e1, ← List.append_assoc]
            exact ho
          case measure => simp [intOf] <;> omega
      · have hcl : ¬ (k : Int) < (l.length : Int) := by omega
        obtain rfl : l.length = k := by omega
        rw [List.take_length] at HO
        have hdl := days_len c l
        obtain ⟨A5, c5, hv5, _⟩ := own_slice HO.out
        subst hv5
        go_wp2_with fail
        refine (sort_any w4.heap.size (daysN c l) (by omega) A5 c5 _ HO.out).mono ?_
        rintro e w5 ⟨rfl, ho5, hg5⟩
        have HB5 := Lib.hid (ext_trans HB4.out (grown_ext HB.out rfl HO.out hg5))
        have hb45 := grown_ext HB.out rfl HO.out hg5
        have HP5 := Lib.hid (HP.out.ext hb45)
        have HS5 := Lib.hid (HS.out.ext hb45)
        have HRd := Lib.hid (Rd.of_own ho5)
        clear hb45
        have hsl := sortI_len (daysN c l)
        have HLa := Lib.hid (fun (k : Nat) (hk : (sortI (daysN c l)).length ≤ k) (h : Lk c l es on (sortI (daysN c l)) k) => h.all hk)
        have HLf := Lib.hid (fun (k : Nat) (hk : k < (sortI (daysN c l)).length) (h : Lk c l es on (sortI (daysN c l)) k) => h.found hk)
        obtain ⟨ds, hds⟩ : ∃ ds, ds = sortI (daysN c l) := ⟨_, rfl⟩
        rw [← hds] at HRd hsl HLa HLf
        generalize (daysN c l).length = n at hsl hdl
        clear hds ho5 hg5 HO HB HBr hk hlt hcl
        go_wp2_with fail
        go_loopw [77] (fun s77 wr => ∃ k : Nat, s77 = .int .i64 k ∧ k ≤ n ∧ Hid (Below w5.heap.size w5 wr) ∧ Hid (Lk c l es on ds k)) (fun s77 _ => n - (intOf s77).toNat)
        case atStart => exact ⟨0, rfl, Nat.zero_le _, Below.refl _ _, fun j _ hj => by omega⟩
        case round =>
          obtain ⟨k, rfl, hk, HB, HL⟩ := hrel
          have HBr := Lib.hid (ext_trans HB5.out HB.out)
          by_cases hlt : k < n
          · have hcl : (k : Int) < (n : Int) := by omega
            have hlk : k < ds.length := by omega
            obtain ⟨xb, xo, rfl, r0⟩ := (HRd.out.ext HB.out).int hlk
            have HSu := Lib.hid (HL.out.succ hlk)
            have HFd := Lib.hid (HLf.out k hlk HL.out)
            generalize ds[k] = d at r0 HSu HFd
            have tt := cell_ext HBr.out HT.out
            by_cases hon : on < d
            · have HOn := Lib.hid hon
              go_wp2_with fail
              refine (day_any d _).mono ?_
              rintro e w' ⟨rfl, rfl⟩
              by_cases hg : Gd d
              · have HG := Lib.hid hg
                rw [decide_eq_true hg]
                clear hg
                go_wp2_with fail
                refine (dstates_s l hl (pastF es on) (by omega) c HOK.out cb co H hc d A LA PA lc pc _ (HD.out.ext HBr.out) (HP5.out.ext HB.out) (HC.out.ext HBr.out) (HE.out.below HBr.out) (vok_at HVO.out HG.out)).mono ?_
                rintro e w6 ⟨QA, qc, rfl, hq, hb6⟩
                have HQ := Lib.hid hq
                have HB6 := Lib.hid (ext_trans HB.out hb6)
                clear hq hb6
                go_wp2_with fail
                refine (pequal_any (statesF c l (pastF es on) d) (statesF c l es on) (by have := states_len c l (pastF es on) d; omega) QA SA qc sc _ HQ.out (HS5.out.ext HB6.out)).mono ?_
                rintro e w7 ⟨rfl, hb7⟩
                have HB7 := Lib.hid (ext_trans HB6.out hb7)
                clear hb7 HQ
                by_cases hq : statesF c l (pastF es on) d = statesF c l es on
                · have HK := Lib.hid (HSu.out fun _ _ => hq)
                  rw [decide_eq_true hq]
                  clear hq HSu HFd
                  go_wp2_with fail
                  go_roundw
                  case rel => exact ⟨k + 1, by go_num, by omega, HB7.out, HK.out⟩
                  case measure => simp [intOf]; omega
                · have HK := Lib.hid (HFd.out HOn.out HG.out hq)
                  rw [decide_eq_false hq]
                  clear hq HSu HFd
                  go_wp2_with fail
                  go_ret2
                  exact ⟨⟨d, by rw [HCZ.out]; rfl, fun h => absurd HCZ.out h, fun _ => HK.out⟩, ext_trans HX.out (ext_trans HB5.out HB7.out)⟩
              · have HG := Lib.hid hg
                have HK := Lib.hid (HSu.out fun _ g => absurd g HG.out)
                rw [decide_eq_false hg]
                clear hg HSu HFd
                go_wp2_with fail
                go_roundw
                case rel => exact ⟨k + 1, by go_num, by omega, HB.out, HK.out⟩
                case measure => simp [intOf]; omega
            · have HK := Lib.hid (HSu.out fun h => absurd h hon)
              clear HSu HFd
              go_wp2_with fail
              go_roundw
              case rel => exact ⟨k + 1, by go_num, by omega, HB.out, HK.out⟩
              case measure => simp [intOf]; omega
          · have hcl : ¬ (k : Int) < (n : Int) := by omega
            have HK := Lib.hid (HLa.out k (by omega) HL.out)
            go_wp2_with fail
            go_ret2
            exact ⟨⟨0, by rw [HCZ.out]; rfl, fun _ => rfl, fun _ => HK.out⟩, ext_trans HX.out HBr.out⟩
  · have HZ := Lib.hid hz
    obtain ⟨ea, hea⟩ : ∃ ea, ea = A (codeV c l es on - 1).toNat := ⟨_, rfl⟩
    have hx : errC A (codeV c l es on) = errV ea := by unfold errC; rw [if_neg hz, hea]
    have HXx := Lib.hid hx
    rw [hx]
    unfold errV
    clear hx hea hz
    go_wp2_with fail
    go_ret2
    exact ⟨⟨0, by rw [HXx.out]; rfl, fun _ => rfl, fun h => absurd h HZ.out⟩, HB1.out⟩
end Go.Proofs.YtcpcejmlnhflpaaGreatDoor.Dut
namespace Go.Proofs.YtcpcejmlnhflpaaGreatDoor.Dut
open Go.RowKit Mem Nest Sol App CdP CdM Solve Err DayWorks

def S2Post (c : Cd) (l : List Dt) (es : List Ev) (on : Int) (A : Nat → Addr) (w : World) (e : Ending) (w' : World) : Prop :=
  (∃ B n cc, e = .returned (.tuple #[.slice B n cc, errC A (codeV c l es on)]) ∧ (codeV c l es on ≠ 0 → n = 0) ∧ (codeV c l es on = 0 → n = (statesF c l es on).length ∧ Rd w' B ((statesF c l es on).flatMap roCells))) ∧ Below w.heap.size w w'
set_option maxRecDepth 100000 in
set_option maxHeartbeats 4000000 in
theorem states2_any (l : List Dt) (hl : l.length ≤ 1000) (es : List Ev) (he : es.length ≤ 1000) (c : Cd) (ok : CdOk c) (cb co : Nat) (H : Option Addr) (hc : Nat) (on : Int) (A : Nat → Addr) (LA EA : Option Addr) (lc ec : Nat) (w : World)
    (hd : Rd w LA (l.flatMap dtCells)) (hv : Rd w EA (es.flatMap evCells)) (hC : CdA w cb co c H hc) (hE : E3 w A) :
    Calls Tryz.prog 19 #[.slice LA l.length lc, .slice EA es.length ec, .pointer (some ⟨cb, co, none⟩), .int .i64 on] w (S2Post c l es on A w) := by
  have HD := Lib.hid hd
  have HV := Lib.hid hv
  have HC := Lib.hid hC
  have HE := Lib.hid hE
  have HOK := Lib.hid ok
  clear hd hv hC hE ok
  go_enter Tryz.func19, Tryz.ntmps19
  go_wp2_with fail
  refine (dvalid_s l hl es he c HOK.out cb co H hc on A LA EA lc ec _ HD.out HV.out HC.out HE.out).mono ?_
  rintro e w1 ⟨rfl, hb1⟩
  have HB1 := Lib.hid hb1
  clear hb1
  by_cases hz : codeV c l es on = 0
  · have HCZ := Lib.hid hz
    obtain ⟨_, _, hvo, _, _⟩ := codeV_zero hz
    have HVO := Lib.hid hvo
    rw [hz, errC_zero]
    clear hz hvo
    go_wp2_with fail
    refine (dstates_s l hl es he c HOK.out cb co H hc on A LA EA lc ec _ (HD.out.ext HB1.out) (HV.out.ext HB1.out) (HC.out.ext HB1.out) (HE.out.below HB1.out) HVO.out).mono ?_
    rintro e w2 ⟨SA, sc, rfl, hs, hb2⟩
    have HS := Lib.hid hs
    have HB2 := Lib.hid (ext_trans HB1.out hb2)
    clear hs hb2
    go_wp2_with fail
    go_ret2
    exact ⟨⟨SA, _, sc, by rw [HCZ.out]; rfl, fun h => absurd HCZ.out h, fun _ => ⟨rfl, HS.out⟩⟩, HB2.out⟩
  · have HZ := Lib.hid hz
    obtain ⟨ea, hea⟩ : ∃ ea, ea = A (codeV c l es on - 1).toNat := ⟨_, rfl⟩
    have hx : errC A (codeV c l es on) = errV ea := by unfold errC; rw [if_neg hz, hea]
    have HXx := Lib.hid hx
    rw [hx]
    unfold errV
    clear hx hea hz
    go_wp2_with fail
    go_ret2
    exact ⟨⟨none, 0, 0, by rw [HXx.out]; rfl, fun _ => rfl, fun h => absurd h HZ.out⟩, HB1.out⟩
theorem coded5_same (A : Nat → Addr) (k : Int) (hk : CodeOk k) (w : World) (hE : Errs w A) :
    Calls Tryz.prog 24 #[errC A k, .int .i64 k] w fun e w' => e = .returned (.bool true) ∧ Below w.heap.size w w' := by
  rcases hk with rfl | rfl | rfl | rfl
  · exact (coded5_nil 0 w).mono fun e w' ⟨he, hw⟩ => ⟨by rw [he]; simp, hw ▸ Below.refl _ _⟩
  · exact (coded5_sent 1 (by omega) 2 A w hE).mono fun e w' ⟨he, hw⟩ => ⟨by rw [he]; simp, hw⟩
  · exact (coded5_sent 3 (by omega) 4 A w hE).mono fun e w' ⟨he, hw⟩ => ⟨by rw [he]; simp, hw⟩
  · exact (coded5_sent 8 (by omega) 9 A w hE).mono fun e w' ⟨he, hw⟩ => ⟨by rw [he]; simp, hw⟩
theorem due_code (c : Cd) (x : Dt) : CodeOk (dueF c x).2 := by
  by_cases h : ∃ o, DueP c (x.till + 1) x.n x.u x.r o
  · obtain ⟨o, ho⟩ := h
    rw [due_eq ho]
    exact ho.code
  · unfold dueF
    rw [dif_neg h]
    exact .inl rfl
theorem bad_code (c : Cd) : ∀ l : List Dt, CodeOk (firstBad c l)
  | [] => .inl rfl
  | x :: l => by
    unfold firstBad
    split
    · exact due_code c x
    · exact bad_code c l
theorem codeV_ok (c : Cd) (l : List Dt) (es : List Ev) (on : Int) : CodeOk (codeV c l es on) := by
  by_cases h1 : 200 < l.length ∨ 400 < es.length
  · rw [codeV_two h1]; exact .inr (.inl rfl)
  · by_cases h2 : VOk l on l.length ∧ EG es
    · rw [codeV_due h1 h2]; exact bad_code c l
    · rw [codeV_four h1 h2]; exact .inr (.inr (.inl rfl))
theorem next_zero {c : Cd} {l : List Dt} {es : List Ev} {on : Int} (h : NextOk c l es on 0) (hg : Gd on) {d : Int} (h1 : on ≤ d) (h2 : d ≤ 3652059) : statesF c l (pastF es on) d = statesF c l es on := by
  rcases h with ⟨_, h⟩ | ⟨h, _⟩
  · have := states_keep (c := c) (l := l) (es := es) (on := on) (m := 3652059) (fun t ht a b => h t ht a ⟨by have := hg.1; omega, b⟩) (d - on).toNat (by omega)
    rw [show on + ((d - on).toNat : Int) = d by omega] at this
    exact this
  · have := hg.1
    omega
theorem next_some {c : Cd} {l : List Dt} {es : List Ev} {on n : Int} (h : NextOk c l es on n) (hg : Gd on) (hn : n ≠ 0) : on < n ∧ n ≤ 3652059 ∧ statesF c l (pastF es on) (n - 1) = statesF c l es on ∧ statesF c l (pastF es on) n ≠ statesF c l es on := by
  rcases h with ⟨h, _⟩ | ⟨h1, h2, h3, h4⟩
  · exact absurd h hn
  · refine ⟨h1, h2.2, ?_, h3⟩
    have := states_keep (c := c) (l := l) (es := es) (on := on) (m := n - 1) (fun t ht a b => h4 t ht a (by omega) ⟨by have := hg.1; omega, by have := h2.2; omega⟩) (n - 1 - on).toNat (by omega)
    rw [show on + ((n - 1 - on).toNat : Int) = n - 1 by omega] at this
    exact this
theorem revent_info : (Tryz.prog.info? 78).map (fun i => (i.zero, i.size, i.bytes)) = some (some (.agg #[.int .i64 0, .string ⟨#[]⟩, .string ⟨#[]⟩, .bool false]), 4, 48) := by kernel_rfl
end Go.Proofs.YtcpcejmlnhflpaaGreatDoor.Dut

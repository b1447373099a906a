/- What the law of explanations' texts does itself: names that are words, steps laid anew, == of two steps, an error's number. -/
import Derived.Test.YtpbmamcmmogidaaDoorWtKd
import Derived.Laws.StructEq
import Derived.BigQuiet
import Derived.Deep.RegionHeld3
namespace Go.Proofs.YtpbmamcmmogidaaDoor.Wt
open Go.RowKit Mem Nest Bld Err Flt

def stEq (x y : St) : Bool := x.1 == y.1 && (x.2.1 == y.2.1 && x.2.2 == y.2.2)
theorem stEq_self (x : St) : stEq x x = true := by simp [stEq]
theorem st_eql (a b : Bool) (q : Int) (a' b' : Bool) (q' : Int) (w : World) : (binOp .eql 26 (.agg #[.bool a, .bool b, .int .i64 q]) (.agg #[.bool a', .bool b', .int .i64 q'])).run Tryd.prog w = .ok (.bool (stEq (a, b, q) (a', b', q'))) w := by
  have u4 := Tryd.underlying4
  have a4 := Tryd.isAgg4
  have z4 := Tryd.sizeOf4
  have u3 := Tryd.underlying3
  have a3 := Tryd.isAgg3
  have z3 := Tryd.sizeOf3
  have hS : Tryd.prog.underlying 26 = some (.struct (Tryd.prog.fieldsOf 26)) := by kernel_rfl
  have hp : Tryd.prog.stoodInHeld 26 = false := by kernel_rfl
  rw [run_eql_struct, show (10000 : Nat) = 9999 + 1 from rfl, run_equalIn_agg w 9999 26 _ _ hS hp]
  simp only [Program.fieldsOf, Tryd.underlying26]
  unfold stEq
  go_simp
  by_cases h1 : a = a' <;> by_cases h2 : b = b' <;> by_cases h3 : q = q' <;> simp [h1, h2, h3]
theorem st_neq_self (a b : Bool) (q : Int) (w : World) : (binOp .neq 26 (.agg #[.bool a, .bool b, .int .i64 q]) (.agg #[.bool a, .bool b, .int .i64 q])).run Tryd.prog w = .ok (.bool false) w := by
  have h := st_eql a b q a b q w
  rw [run_eql_struct] at h
  rw [run_neq_struct]
  rw [stEq_self] at h
  generalize (Op.equalIn 10000 26 (.agg #[.bool a, .bool b, .int .i64 q]) (.agg #[.bool a, .bool b, .int .i64 q])).run Tryd.prog w = r at h
  cases r with
  | ok x w' =>
    simp only [Result.andThen_ok, Result.ok.injEq, Value.bool.injEq] at h
    obtain ⟨rfl, rfl⟩ := h
    rfl
  | _ => simp [Result.andThen] at h
theorem st_guard (op : BinOp) (a b : Operand) (x y : Array Value) (w : World) : (eqGuard op 26 a b (.agg x) (.agg y)).run Tryd.prog w = .ok () w := run_eqGuard_agg w op _ a b x y (by kernel_rfl)
set_option maxHeartbeats 400000 in
theorem lstep_any (a b : Bool) (q : Int) (w : World) :
    Calls Tryd.prog 18 #[.agg #[.bool a, .bool b, .int .i64 q]] w fun e w' => e = .returned (.agg #[.bool a, .bool b, .int .i64 q]) ∧ Below w.heap.size w w' := by
  go_enter Tryd.func18, Tryd.ntmps18
  go_wp2_with fail
  refine bodyPost_ret (v := .agg #[.bool a, .bool b, .int .i64 q]) (by simp [results, Tryd.results18, go_sem]) rfl ⟨rfl, ext_trans (ext_alloc _ _) (ext_alloc _ _)⟩
def LStepsPost (l : List St) (w : World) (e : Ending) (w' : World) : Prop := ∃ (A : Option Addr) (c : Nat), e = .returned (.slice A l.length c) ∧ Rd w' A (l.flatMap spC) ∧ Below w.heap.size w w'
set_option maxHeartbeats 1000000 in
theorem lsteps_any (l : List St) (hl : l.length ≤ 200) (LA : Option Addr) (lc : Nat) (w : World) (h : Rd w LA (l.flatMap spC)) :
    Calls Tryd.prog 13 #[.slice LA l.length lc] w (LStepsPost l w) := by
  have H := Lib.hid h
  obtain ⟨i0, hi, hz0, hz1, hz2⟩ := info_parts step_info
  have HI := Lib.hid hi
  have HZ0 := Lib.hid hz0
  have HZ1 := Lib.hid hz1
  have HZ2 := Lib.hid hz2
  clear h hi hz0 hz1 hz2
  go_enter Tryd.func13, Tryd.ntmps13
  go_wp2_with fail
  go_loopw [3, 4] (fun t3 t4 wr => ∃ j : Nat, t4 = .int .i64 j ∧ j ≤ l.length ∧ Hid (Below w.heap.size w wr) ∧ Hid (wr.ownsRow w.heap.size 26 3 t3 j ((l.take j).flatMap spC))) (fun _ t4 _ => l.length - (intOf t4).toNat)
  case atStart => exact ⟨0, rfl, Nat.zero_le _, Below.refl _ _, World.ownsRow_nil _ _ _ _⟩
  case round =>
    obtain ⟨j, rfl, hj, HB, HO⟩ := hrel
    by_cases hlt : j < l.length
    · obtain ⟨b, o, rfl, r0, r1, r2⟩ := st_at (H.out.ext HB.out) hlt
      obtain ⟨x, hx⟩ : ∃ x, x = l[j] := ⟨_, rfl⟩
      rw [← hx] at r0 r1 r2
      have HX := Lib.hid hx
      clear hx
      obtain ⟨xa, xb, xq⟩ := x
      simp only at r0 r1 r2
      go_wp2_with fail
      refine (lstep_any xa xb xq _).mono ?_
      rintro e w1 ⟨rfl, hb⟩
      have HB1 := Lib.hid (ext_trans HB.out hb)
      have HO1 := Lib.hid (own_ext HO.out hb)
      clear hb r0 r1 r2
      go_wp2_with (at_builtin; refine wpList_append_own _ rfl _ _ _ rfl w.heap.size 26 i0 _ 3 16 Tryd.underlying27 HI.out HZ0.out HZ1.out HZ2.out rfl (by omega) u3 j _ rfl (World.ownsRow.alloc HO1.out _) ⟨w1.heap.size, 0, none⟩ 1 1 [.bool xa, .bool xb, .int .i64 xq] rfl rfl (new_cells w1 [.bool xa, .bool xb, .int .i64 xq] _ _ rfl) (by intro u hu; simp only [List.mem_cons, List.not_mem_nil, or_false] at hu; rcases hu with rfl | rfl | rfl <;> rfl) (by simp only [maxLen]; omega) (by omega) (Nat.le_trans HB1.out.size (by simp)) ?_; intro v1 w2 hown1 hg1 _; have HO2 := Lib.hid hown1; have HB2 := Lib.hid (grown_ext (HB1.out.trans ((ext_alloc w1 _).mono HB1.out.size)) rfl (World.ownsRow.alloc HO1.out _) hg1); clear hown1 hg1)
      go_roundw
      case rel =>
        refine ⟨j + 1, by go_num, by omega, HB2.out, ?_⟩
        have ho := HO2.out
        show World.ownsRow _ _ _ _ _ _ _
        rw [List.take_succ_eq_append_getElem hlt, List.flatMap_append, ← HX.out]
        simpa [spC] using ho
      case measure => simp [intOf]; omega
    · obtain rfl : l.length = j := by omega
      obtain ⟨A, c, rfl, _⟩ := own_slice HO.out
      go_wp2_with fail
      go_ret
      have h := Rd.of_own HO.out
      rw [List.take_length] at h
      exact ⟨A, c, rfl, h, HB.out⟩
theorem code_any {A : Nat → Addr} {w : World} {c a : Int} {v : Value} (h : PErr A w c a v) (hE : Errs w A) (ha : c = 0 → a = -1) :
    Calls Tryd.prog 17 #[v] w fun e w' => e = .returned (.tuple #[.int .i64 c, .int .i64 a]) ∧ Below w.heap.size w w' := by
  rcases h with ⟨rfl, rfl⟩ | ⟨k, hk, rfl, b, rfl, h1, h2⟩
  · rw [ha rfl]
    exact (code_nil w).mono fun _ _ ⟨h1, h2⟩ => ⟨h1, by rw [h2]; exact Below.refl _ _⟩
  · exact code_fault k hk A b 0 a w hE h1 h2
/-! ### Names that are words -/
def Ltr (c : UInt8) : Prop := (97 ≤ c ∧ c ≤ 122) ∨ (48 ≤ c ∧ c ≤ 57) ∨ c = 95
theorem ltr_of {c : UInt8} {n : Int} (hn : (c.toNat : Int) = n) (h : (97 ≤ n ∧ n ≤ 122) ∨ (48 ≤ n ∧ n ≤ 57) ∨ n = 95) : Ltr c := by
  rcases h with h | h | h
  · exact .inl ⟨UInt8.le_iff_toNat_le.2 (by simp; omega), UInt8.le_iff_toNat_le.2 (by simp; omega)⟩
  · exact .inr (.inl ⟨UInt8.le_iff_toNat_le.2 (by simp; omega), UInt8.le_iff_toNat_le.2 (by simp; omega)⟩)
  · exact .inr (.inr (UInt8.toNat.inj (by simp; omega)))
def WordyPost (N : List (List UInt8)) (w : World) (e : Ending) (w' : World) : Prop := ∃ b : Bool, e = .returned (.bool b) ∧ (b = true → Names N) ∧ Below w.heap.size w w'
theorem wordy_no {N : List (List UInt8)} {w w' : World} (h : Below w.heap.size w w') : WordyPost N w (.returned (.bool false)) w' := ⟨false, rfl, fun h => (by cases h), h⟩
set_option maxRecDepth 20000 in
set_option maxHeartbeats 4000000 in
theorem wordy_any (N : List (List UInt8)) (hNl : N.length ≤ 9223372036854775807) (hx : ∀ x ∈ N, x.length ≤ 9223372036854775807) (NA : Option Addr) (nc : Nat) (w : World) (hM : Rd w NA (N.map strV)) :
    Calls Tryd.prog 12 #[.slice NA N.length nc] w (WordyPost N w) := by
  have HM := Lib.hid hM
  have HX0 := Lib.hid hx
  clear hM hx
  go_enter Tryd.func12, Tryd.ntmps12
  go_wp2_with fail
  go_loopw [3] (fun t3 wr => ∃ i : Nat, t3 = .int .i64 i ∧ i ≤ N.length ∧ Hid (Below w.heap.size w wr) ∧ Hid (∀ k (h : k < N.length), k < i → WordN N[k]) ∧ Hid (∀ a b (ha : a < N.length) (hb : b < N.length), a < b → b < i → N[a] ≠ N[b])) (fun t3 _ => N.length - (intOf t3).toNat)
  case atStart => exact ⟨0, rfl, Nat.zero_le _, Below.refl _ _, fun k h hk => absurd hk (by omega), fun a b ha hb h1 h2 => absurd h2 (by omega)⟩
  case round =>
    obtain ⟨i, rfl, hi, HB, HW, HU⟩ := hrel
    obtain ⟨wo, rfl⟩ : ∃ wo, wo = wr := ⟨_, rfl⟩
    by_cases hlt : i < N.length
    · have hltc : (i : Int) < (N.length : Int) := by omega
      have HMo := Lib.hid (HM.out.ext HB.out)
      obtain ⟨nb, no, rfl, m0⟩ := name_at HMo.out hlt
      have hxl := HX0.out _ (List.getElem_mem hlt)
      obtain ⟨x, hx⟩ : ∃ x, x = N[i] := ⟨_, rfl⟩
      rw [← hx] at m0 hxl
      have HX := Lib.hid hx
      clear hx
      by_cases h0 : x.length = 0
      · have hz : ((x.length : Int) == 0) = true := by rw [beq_iff_eq]; omega
        clear h0
        go_wp2_with fail
        go_ret
        exact wordy_no HB.out
      · have hz : ((x.length : Int) == 0) = false := by rw [beq_eq_false_iff_ne]; omega
        have hlp : 0 < x.length := by omega
        by_cases h24 : 24 < x.length
        · have h24c : (24 : Int) < (x.length : Int) := by omega
          go_wp2_with fail
          go_ret
          exact wordy_no HB.out
        · have h24c : ¬ (24 : Int) < (x.length : Int) := by omega
          have hsz : 0 < (ByteArray.mk x.toArray).size := hlp
          have hlpc : (0 : Int) < (x.length : Int) := by omega
          obtain ⟨c, hc⟩ : ∃ c : Int, (((ByteArray.mk x.toArray)[0]'hsz).toNat : Int) = c := ⟨_, rfl⟩
          by_cases hc1 : c < 97
          · go_wp2_with fail
            go_ret
            exact wordy_no HB.out
          · by_cases hc2 : 122 < c
            · go_wp2_with fail
              go_ret
              exact wordy_no HB.out
            · go_wp2_with fail
              clear hc hc1 hc2 hsz
              go_loop [4] (fun t4 => ∃ k : Nat, t4 = .int .i64 k ∧ k ≤ x.length ∧ Hid (∀ j (h : j < x.length), j < k → Ltr x[j])) (fun t4 => x.length - (intOf t4).toNat)
              case atStart => exact ⟨0, rfl, Nat.zero_le _, fun j h hj => absurd hj (by omega)⟩
              case round =>
                obtain ⟨k, rfl, hk, HL⟩ := hrel
                by_cases hkl : k < x.length
                · have hkc : (k : Int) < (x.length : Int) := by omega
                  have hsz : k < (ByteArray.mk x.toArray).size := hkl
                  obtain ⟨c, hc⟩ : ∃ c : Int, (((ByteArray.mk x.toArray)[k]'hsz).toNat : Int) = c := ⟨_, rfl⟩
                  have HC := Lib.hid (fun h => ltr_of (c := x[k]) (n := c) hc h)
                  have key : ∀ hl : Ltr x[k], ∀ j (h : j < x.length), j < k + 1 → Ltr x[j] := fun hl j h hj => by
                    by_cases e : j = k
                    · subst e; exact hl
                    · exact HL.out j h (by omega)
                  have HK := Lib.hid key
                  clear key
                  by_cases h1 : 97 ≤ c
                  · by_cases h2 : c ≤ 122
                    · go_wp2_with fail
                      go_round
                      case rel => exact ⟨k + 1, by go_num, by omega, HK.out (HC.out (.inl ⟨h1, h2⟩))⟩
                      case measure => simp [intOf]; omega
                    · have h3 : 48 ≤ c := by omega
                      have h4 : ¬ c ≤ 57 := by omega
                      have h5 : (c == 95) = false := by rw [beq_eq_false_iff_ne]; omega
                      go_wp2_with fail
                      go_ret
                      exact wordy_no HB.out
                  · by_cases h3 : 48 ≤ c
                    · by_cases h4 : c ≤ 57
                      · go_wp2_with fail
                        go_round
                        case rel => exact ⟨k + 1, by go_num, by omega, HK.out (HC.out (.inr (.inl ⟨h3, h4⟩)))⟩
                        case measure => simp [intOf]; omega
                      · by_cases h6 : c = 95
                        · have h5 : (c == 95) = true := by simp [h6]
                          have H6 := Lib.hid h6
                          clear h6
                          go_wp2_with fail
                          go_round
                          case rel => exact ⟨k + 1, by go_num, by omega, HK.out (HC.out (.inr (.inr H6.out)))⟩
                          case measure => simp [intOf]; omega
                        · have h5 : (c == 95) = false := by simp [h6]
                          go_wp2_with fail
                          go_ret
                          exact wordy_no HB.out
                    · have h5 : (c == 95) = false := by rw [beq_eq_false_iff_ne]; omega
                      go_wp2_with fail
                      go_ret
                      exact wordy_no HB.out
                · obtain rfl : x.length = k := by omega
                  have hkc : ¬ (x.length : Int) < (x.length : Int) := by omega
                  have HWi := Lib.hid (show WordN x from ⟨fun e => by rw [e] at hlp; simp at hlp, by omega, fun c hc => by
                    obtain ⟨j, hj, e⟩ := List.getElem_of_mem hc
                    have := HL.out j hj hj
                    rw [e] at this
                    exact this⟩)
                  clear HL
                  go_wp2_with fail
                  go_loopw [7] (fun t7 wi => ∃ k : Nat, t7 = .int .i64 k ∧ k ≤ i ∧ Hid (Below wo.heap.size wo wi) ∧ Hid (∀ a (h : a < N.length), a < k → N[a] ≠ x)) (fun t7 _ => i - (intOf t7).toNat)
                  case atStart => exact ⟨0, rfl, Nat.zero_le _, Below.refl _ _, fun a h ha => absurd ha (by omega)⟩
                  case round =>
                    obtain ⟨k, rfl, hk, HBi, HD⟩ := hrel
                    have HBw := Lib.hid (HB.out.trans (HBi.out.mono HB.out.size))
                    by_cases hki : k < i
                    · have hkc : (k : Int) < (i : Int) := by omega
                      have hkn : k < N.length := by omega
                      have hknc : (k : Int) < (N.length : Int) := by omega
                      obtain ⟨b', o', e', y0⟩ := name_at (HMo.out.ext HBi.out) hkn
                      cases e'
                      have m1 := cell_ext HBi.out m0
                      obtain ⟨y, hy⟩ : ∃ y, y = N[k] := ⟨_, rfl⟩
                      rw [← hy] at y0
                      have HY := Lib.hid hy
                      clear hy
                      by_cases he : y = x
                      · subst he
                        go_wp2_with fail
                        go_quiet (fail)
                        go_wp2_with fail
                        go_ret
                        exact wordy_no (HBw.out.trans ((ext_drewN wr nq).mono HBw.out.size))
                      · have hb : (y == x) = false := by simpa using he
                        have HNE := Lib.hid he
                        clear he
                        go_wp2_with fail
                        go_quiet (fail)
                        go_wp2_with fail
                        go_roundw
                        case rel =>
                          refine ⟨k + 1, by go_num, by omega, HBi.out.trans ((ext_drewN wr nq).mono HBi.out.size), fun a h ha => ?_⟩
                          by_cases e : a = k
                          · subst e; rw [← HY.out]; exact HNE.out
                          · exact HD.out a h (by omega)
                        case measure => simp [intOf]; omega
                    · obtain rfl : i = k := by omega
                      have hkc : ¬ (i : Int) < (i : Int) := by omega
                      go_wp2_with fail
                      go_roundw
                      case rel =>
                        refine ⟨i + 1, by go_num, by omega, HBw.out, fun a h ha => ?_, fun a b ha hb h1 h2 => ?_⟩
                        · by_cases e : a = i
                          · subst e; rw [← HX.out]; exact HWi.out
                          · exact HW.out a h (by omega)
                        · by_cases e : b = i
                          · subst e; rw [← HX.out]; exact HD.out a ha h1
                          · exact HU.out a b ha hb h1 (by omega)
                      case measure => simp [intOf]; omega
    · obtain rfl : N.length = i := by omega
      have hlc : ¬ (N.length : Int) < (N.length : Int) := by omega
      by_cases h40 : N.length ≤ 40
      · have h40c : (N.length : Int) ≤ 40 := by omega
        have HF := Lib.hid (show Names N from ⟨h40, fun x hx => by
          obtain ⟨j, hj, e⟩ := List.getElem_of_mem hx
          have := HW.out j hj hj
          rw [e] at this
          exact this, fun a b ha hb e => by
          rcases Nat.lt_trichotomy a b with h | h | h
          · exact absurd e (HU.out a b ha hb h hb)
          · exact h
          · exact absurd e.symm (HU.out b a hb ha h ha)⟩)
        go_wp2_with fail
        go_ret
        exact ⟨true, rfl, fun _ => HF.out, HB.out⟩
      · have h40c : ¬ (N.length : Int) ≤ 40 := by omega
        go_wp2_with fail
        go_ret
        exact wordy_no HB.out
end Go.Proofs.YtpbmamcmmogidaaDoor.Wt

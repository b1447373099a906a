/- The document's Sum, against the plain answer. The document's Sum, to its end. -/
import Derived.Test.YtnchlnfenebomaaGreatDoorHdF
import Derived.Test.YtnchlnfenebomaaGreatDoorFkE
namespace Go.Proofs.YtnchlnfenebomaaGreatDoor.Hd
open Go.RowKit Mem Nest Fk Coin Err

/-- the document's look at a file -/
structure Lr (q : Ask) (fb lb : Nat) (who : Int) (w : World) : Prop where
  blk : Blk w lb 37 [.pointer (some ⟨fb, 0, none⟩), .int .i64 who, .int .i64 q.on, .int .i64 q.kn, .slice none 0 0, .slice none 0 0, .slice none 0 0, .int .i64 4]
theorem Lr.ext {q : Ask} {fb lb : Nat} {who : Int} {w w' : World} (h : Lr q fb lb who w) (hb : Below w.heap.size w w') : Lr q fb lb who w' := ⟨Sol.blk_ext h.blk hb⟩
structure Lf (q : Ask) (fb : Nat) (w : World) : Prop where
  fr : ∃ FA c, FR 100 w fb FA c q.l
theorem Lf.ext {q : Ask} {fb : Nat} {w w' : World} (h : Lf q fb w) (hb : Below w.heap.size w w') : Lf q fb w' := by
  obtain ⟨FA, c, hf⟩ := h
  exact ⟨FA, c, hf.ext hb⟩
def RPost (r : Int × Nat) (w : World) (e : Ending) (w' : World) : Prop := e = .returned (.tuple #[.int .i64 r.1, .int .i64 (r.2 : Int)]) ∧ Below w.heap.size w w'
theorem boxedR (w : World) (k s : List UInt8) (n : Int) (A : Option Addr) (c : Nat) (m : Nat) :
    ∃ W, W = w.alloc (.cells #[.string ⟨k.toArray⟩, .string ⟨s.toArray⟩, .int .i64 n, .slice A m c] 25) ∧ Below w.heap.size w W ∧ Blk W w.heap.size 25 [.string ⟨k.toArray⟩, .string ⟨s.toArray⟩, .int .i64 n, .slice A m c] :=
  ⟨_, rfl, ext_alloc w _, Blk.new w _ [_, _, _, _]⟩
theorem rgood_any (n : Int) (w : World) : Calls Tryz.prog 52 #[.int .i64 n] w (RPost (goodF n) w) := by
  have HG := Lib.hid (fun w => rsmall_any n w)
  by_cases h : coinB n = true
  · have HP := Lib.hid (show goodF n = (n, 0) by unfold goodF; rw [if_pos h])
    rw [h] at HG
    clear h
    go_enter Tryz.func52, Tryz.ntmps52
    go_wp2_with fail
    refine (HG.out _).mono ?_
    rintro e w' ⟨rfl, rfl⟩
    go_wp2_with fail
    go_ret2
    exact ⟨by rw [HP.out]; rfl, Below.refl _ _⟩
  · have HP := Lib.hid (show goodF n = (0, 3) by unfold goodF; rw [if_neg h])
    rw [Bool.not_eq_true] at h
    rw [h] at HG
    clear h
    go_enter Tryz.func52, Tryz.ntmps52
    go_wp2_with fail
    refine (HG.out _).mono ?_
    rintro e w' ⟨rfl, rfl⟩
    go_wp2_with fail
    go_ret2
    exact ⟨by rw [HP.out]; rfl, Below.refl _ _⟩
theorem among_nil (s : List UInt8) (w : World) : Calls Tryz.prog 50 #[.string ⟨s.toArray⟩, .slice none 0 0] w fun e w' => e = .returned (.int .i64 (-1)) ∧ w' = w := by
  go_enter Tryz.func50, Tryz.ntmps50
  go_wp2_with fail
  go_loop [5] (fun t5 => t5 = .int .i64 0) (fun t5 => (1 - intOf t5).toNat)
  case atStart => rfl
  case round =>
    obtain rfl := hrel
    go_wp2_with fail
    go_ret
    exact ⟨rfl, rfl⟩
theorem code_cases {r : Int × Nat} (h : OkS r) : r.2 = 0 ∨ (0 < r.2 ∧ r.1 = 0) := by
  rcases h.2 with e | ⟨e1, e | e⟩
  · exact .inl e
  · exact .inr ⟨by omega, e1⟩
  · exact .inr ⟨by omega, e1⟩
def IHR (q : Ask) (fb : Nat) (X : Nat → Prop) (d : Nat) : Prop := ∀ (x : Nd) (who : Int) (lb : Nat) (w : World), InW w X d x → Lr q fb lb who w → Lf q fb w → Calls Tryz.prog 14 #[.pointer (some ⟨lb, 0, none⟩), ndV x] w (RPost (evS d q x who) w)
set_option maxRecDepth 100000 in
set_option maxHeartbeats 8000000 in
theorem rsum_bad {q : Ask} (_ : Okq q) (fb lb : Nat) (who : Int) (X : Nat → Prop) (d : Nat) (k s : List UInt8) (n : Int) (A : Option Addr) (c : Nat) (l : List Nd) (m : Nat) (hml : l.length = m) (hm : kidsG k ≠ some (m : Int)) (w : World) (hN : InW w X (d + 1) (.mk k s n A c l)) (hLr : Lr q fb lb who w) (hLf : Lf q fb w) :
    Calls Tryz.prog 14 #[.pointer (some ⟨lb, 0, none⟩), .agg #[.string ⟨k.toArray⟩, .string ⟨s.toArray⟩, .int .i64 n, .slice A m c]] w (RPost (0, 9) w) := by
    have hlen : m ≤ 9223372036854775807 := by
      have h1 := hN.2.2.1.1
      have h2 := hN.2.2.1.2.1
      unfold maxLen at h2
      omega
    have HMw := Lib.hid hm
    clear hm hml
    have HWd := Lib.hid (fun w => rword_any s hN.2.2.1.2.2.2 w)
    obtain ⟨bw, hbw⟩ : ∃ bw, wordB s = bw := ⟨_, rfl⟩
    rw [hbw] at HWd
    have HBw := Lib.hid hbw
    clear hbw
    have HN := Lib.hid hN
    have HLr0 := Lib.hid hLr
    have HLf0 := Lib.hid hLf
    obtain ⟨W, hW, hx, hbn⟩ := boxedR w k s n A c (m)
    have HX := Lib.hid hx
    have HBn := Lib.hid hbn
    have HNW := Lib.hid (hN.ext hx)
    have HLr := Lib.hid (hLr.ext hx)
    have HLf := Lib.hid (hLf.ext hx)
    have m0 := hbn.cell 0 rfl
    have m1 := hbn.cell 1 rfl
    have m2 := hbn.cell 2 rfl
    have m3 := hbn.cell 3 rfl
    clear hN hLr hLf hx hbn
    go_enter Tryz.func14, Tryz.ntmps14
    go_upto_region 1 with fail
    rw [show w.alloc (.cells #[.string ⟨k.toArray⟩, .string ⟨s.toArray⟩, .int .i64 n, .slice A m c] 25) = W from hW.symm]
    clear hW
    go_wp2_with fail
    refine (HWd.out _).mono ?_
    rintro e w1 ⟨rfl, rfl⟩
    have HG := Lib.hid (fun w => rsmall_any n w)
    obtain ⟨bc, hbc⟩ : ∃ bc, coinB n = bc := ⟨_, rfl⟩
    rw [hbc] at HG
    clear hbc
    have hno : kidsG k ≠ some (m : Int) := HMw.out
    unfold kidsG at hno
    by_cases hd8 : k = kMin
    · rw [if_pos hd8] at hno
      have hk : k = [109, 105, 110] := hd8
      have hne : m ≠ 2 := fun e => hno (by rw [e]; rfl)
      have kc0 : (k == [110, 117, 109, 98, 101, 114]) = false := by rw [hk]; decide
      have kc1 : (k == [110, 97, 109, 101]) = false := by rw [hk]; decide
      have kc2 : (k == [99, 111, 117, 110, 116]) = false := by rw [hk]; decide
      have kc3 : (k == [116, 111, 116, 97, 108]) = false := by rw [hk]; decide
      have kc4 : (k == [42]) = false := by rw [hk]; decide
      have kc5 : (k == [43]) = false := by rw [hk]; decide
      have kc6 : (k == [45]) = false := by rw [hk]; decide
      have kc7 : (k == [109, 97, 120]) = false := by rw [hk]; decide
      have kc8 : (k == [109, 105, 110]) = true := by rw [hk]; decide
      have hm1 : ((m : Int) != 2) = true := by simpa using (show (m : Int) ≠ 2 by omega)
      have hm2 : ((m : Int) == 2) = false := by simpa using (show (m : Int) ≠ 2 by omega)
      clear hk hno hne hd8
      go_wp2_with fail
      go_ret2
      exact ⟨by rfl, HX.out⟩
    have kb8 : (k == [109, 105, 110]) = false := by simpa using (show k ≠ [109, 105, 110] from hd8)
    rw [if_neg hd8] at hno
    clear hd8
    by_cases hd7 : k = kMax
    · rw [if_pos hd7] at hno
      have hk : k = [109, 97, 120] := hd7
      have hne : m ≠ 2 := fun e => hno (by rw [e]; rfl)
      have kc0 : (k == [110, 117, 109, 98, 101, 114]) = false := by rw [hk]; decide
      have kc1 : (k == [110, 97, 109, 101]) = false := by rw [hk]; decide
      have kc2 : (k == [99, 111, 117, 110, 116]) = false := by rw [hk]; decide
      have kc3 : (k == [116, 111, 116, 97, 108]) = false := by rw [hk]; decide
      have kc4 : (k == [42]) = false := by rw [hk]; decide
      have kc5 : (k == [43]) = false := by rw [hk]; decide
      have kc6 : (k == [45]) = false := by rw [hk]; decide
      have kc7 : (k == [109, 97, 120]) = true := by rw [hk]; decide
      have kc8 : (k == [109, 105, 110]) = false := by rw [hk]; decide
      have hm1 : ((m : Int) != 2) = true := by simpa using (show (m : Int) ≠ 2 by omega)
      have hm2 : ((m : Int) == 2) = false := by simpa using (show (m : Int) ≠ 2 by omega)
      clear hk hno hne hd7 kb8
      go_wp2_with fail
      go_ret2
      exact ⟨by rfl, HX.out⟩
    have kb7 : (k == [109, 97, 120]) = false := by simpa using (show k ≠ [109, 97, 120] from hd7)
    rw [if_neg hd7] at hno
    clear hd7
    by_cases hd4 : k = [42]
    · rw [if_pos hd4] at hno
      have hk : k = [42] := hd4
      have hne : m ≠ 1 := fun e => hno (by rw [e]; rfl)
      have kc0 : (k == [110, 117, 109, 98, 101, 114]) = false := by rw [hk]; decide
      have kc1 : (k == [110, 97, 109, 101]) = false := by rw [hk]; decide
      have kc2 : (k == [99, 111, 117, 110, 116]) = false := by rw [hk]; decide
      have kc3 : (k == [116, 111, 116, 97, 108]) = false := by rw [hk]; decide
      have kc4 : (k == [42]) = true := by rw [hk]; decide
      have kc5 : (k == [43]) = false := by rw [hk]; decide
      have kc6 : (k == [45]) = false := by rw [hk]; decide
      have kc7 : (k == [109, 97, 120]) = false := by rw [hk]; decide
      have kc8 : (k == [109, 105, 110]) = false := by rw [hk]; decide
      have hm1 : ((m : Int) != 1) = true := by simpa using (show (m : Int) ≠ 1 by omega)
      have hm2 : ((m : Int) == 1) = false := by simpa using (show (m : Int) ≠ 1 by omega)
      clear hk hno hne hd4 kb8 kb7
      go_wp2_with fail
      go_ret2
      exact ⟨by rfl, HX.out⟩
    have kb4 : (k == [42]) = false := by simpa using (show k ≠ [42] from hd4)
    rw [if_neg hd4] at hno
    clear hd4
    by_cases hd6 : k = [45]
    · rw [if_pos hd6] at hno
      have hk : k = [45] := hd6
      have hne : m ≠ 2 := fun e => hno (by rw [e]; rfl)
      have kc0 : (k == [110, 117, 109, 98, 101, 114]) = false := by rw [hk]; decide
      have kc1 : (k == [110, 97, 109, 101]) = false := by rw [hk]; decide
      have kc2 : (k == [99, 111, 117, 110, 116]) = false := by rw [hk]; decide
      have kc3 : (k == [116, 111, 116, 97, 108]) = false := by rw [hk]; decide
      have kc4 : (k == [42]) = false := by rw [hk]; decide
      have kc5 : (k == [43]) = false := by rw [hk]; decide
      have kc6 : (k == [45]) = true := by rw [hk]; decide
      have kc7 : (k == [109, 97, 120]) = false := by rw [hk]; decide
      have kc8 : (k == [109, 105, 110]) = false := by rw [hk]; decide
      have hm1 : ((m : Int) != 2) = true := by simpa using (show (m : Int) ≠ 2 by omega)
      have hm2 : ((m : Int) == 2) = false := by simpa using (show (m : Int) ≠ 2 by omega)
      clear hk hno hne hd6 kb8 kb7 kb4
      go_wp2_with fail
      go_ret2
      exact ⟨by rfl, HX.out⟩
    have kb6 : (k == [45]) = false := by simpa using (show k ≠ [45] from hd6)
    rw [if_neg hd6] at hno
    clear hd6
    by_cases hd5 : k = [43]
    · rw [if_pos hd5] at hno
      have hk : k = [43] := hd5
      have hne : m ≠ 2 := fun e => hno (by rw [e]; rfl)
      have kc0 : (k == [110, 117, 109, 98, 101, 114]) = false := by rw [hk]; decide
      have kc1 : (k == [110, 97, 109, 101]) = false := by rw [hk]; decide
      have kc2 : (k == [99, 111, 117, 110, 116]) = false := by rw [hk]; decide
      have kc3 : (k == [116, 111, 116, 97, 108]) = false := by rw [hk]; decide
      have kc4 : (k == [42]) = false := by rw [hk]; decide
      have kc5 : (k == [43]) = true := by rw [hk]; decide
      have kc6 : (k == [45]) = false := by rw [hk]; decide
      have kc7 : (k == [109, 97, 120]) = false := by rw [hk]; decide
      have kc8 : (k == [109, 105, 110]) = false := by rw [hk]; decide
      have hm1 : ((m : Int) != 2) = true := by simpa using (show (m : Int) ≠ 2 by omega)
      have hm2 : ((m : Int) == 2) = false := by simpa using (show (m : Int) ≠ 2 by omega)
      clear hk hno hne hd5 kb8 kb7 kb4 kb6
      go_wp2_with fail
      go_ret2
      exact ⟨by rfl, HX.out⟩
    have kb5 : (k == [43]) = false := by simpa using (show k ≠ [43] from hd5)
    rw [if_neg hd5] at hno
    clear hd5
    by_cases hd3 : k = kTotal
    · rw [if_pos hd3] at hno
      have hk : k = [116, 111, 116, 97, 108] := hd3
      have hne : m ≠ 1 := fun e => hno (by rw [e]; rfl)
      have kc0 : (k == [110, 117, 109, 98, 101, 114]) = false := by rw [hk]; decide
      have kc1 : (k == [110, 97, 109, 101]) = false := by rw [hk]; decide
      have kc2 : (k == [99, 111, 117, 110, 116]) = false := by rw [hk]; decide
      have kc3 : (k == [116, 111, 116, 97, 108]) = true := by rw [hk]; decide
      have kc4 : (k == [42]) = false := by rw [hk]; decide
      have kc5 : (k == [43]) = false := by rw [hk]; decide
      have kc6 : (k == [45]) = false := by rw [hk]; decide
      have kc7 : (k == [109, 97, 120]) = false := by rw [hk]; decide
      have kc8 : (k == [109, 105, 110]) = false := by rw [hk]; decide
      have hm1 : ((m : Int) != 1) = true := by simpa using (show (m : Int) ≠ 1 by omega)
      have hm2 : ((m : Int) == 1) = false := by simpa using (show (m : Int) ≠ 1 by omega)
      clear hk hno hne hd3 kb8 kb7 kb4 kb6 kb5
      go_wp2_with fail
      go_ret2
      exact ⟨by rfl, HX.out⟩
    have kb3 : (k == [116, 111, 116, 97, 108]) = false := by simpa using (show k ≠ [116, 111, 116, 97, 108] from hd3)
    rw [if_neg hd3] at hno
    clear hd3
    by_cases hd2 : k = kCount
    · rw [if_pos hd2] at hno
      have hk : k = [99, 111, 117, 110, 116] := hd2
      have hne : m ≠ 0 := fun e => hno (by rw [e]; rfl)
      have kc0 : (k == [110, 117, 109, 98, 101, 114]) = false := by rw [hk]; decide
      have kc1 : (k == [110, 97, 109, 101]) = false := by rw [hk]; decide
      have kc2 : (k == [99, 111, 117, 110, 116]) = true := by rw [hk]; decide
      have kc3 : (k == [116, 111, 116, 97, 108]) = false := by rw [hk]; decide
      have kc4 : (k == [42]) = false := by rw [hk]; decide
      have kc5 : (k == [43]) = false := by rw [hk]; decide
      have kc6 : (k == [45]) = false := by rw [hk]; decide
      have kc7 : (k == [109, 97, 120]) = false := by rw [hk]; decide
      have kc8 : (k == [109, 105, 110]) = false := by rw [hk]; decide
      have hm1 : ((m : Int) != 0) = true := by simpa using (show (m : Int) ≠ 0 by omega)
      have hm2 : ((m : Int) == 0) = false := by simpa using (show (m : Int) ≠ 0 by omega)
      clear hk hno hne hd2 kb8 kb7 kb4 kb6 kb5 kb3
      go_wp2_with fail
      go_ret2
      exact ⟨by rfl, HX.out⟩
    have kb2 : (k == [99, 111, 117, 110, 116]) = false := by simpa using (show k ≠ [99, 111, 117, 110, 116] from hd2)
    rw [if_neg hd2] at hno
    clear hd2
    by_cases hd1 : k = kName
    · rw [if_pos hd1] at hno
      have hk : k = [110, 97, 109, 101] := hd1
      have hne : m ≠ 0 := fun e => hno (by rw [e]; rfl)
      have kc0 : (k == [110, 117, 109, 98, 101, 114]) = false := by rw [hk]; decide
      have kc1 : (k == [110, 97, 109, 101]) = true := by rw [hk]; decide
      have kc2 : (k == [99, 111, 117, 110, 116]) = false := by rw [hk]; decide
      have kc3 : (k == [116, 111, 116, 97, 108]) = false := by rw [hk]; decide
      have kc4 : (k == [42]) = false := by rw [hk]; decide
      have kc5 : (k == [43]) = false := by rw [hk]; decide
      have kc6 : (k == [45]) = false := by rw [hk]; decide
      have kc7 : (k == [109, 97, 120]) = false := by rw [hk]; decide
      have kc8 : (k == [109, 105, 110]) = false := by rw [hk]; decide
      have hm1 : ((m : Int) != 0) = true := by simpa using (show (m : Int) ≠ 0 by omega)
      have hm2 : ((m : Int) == 0) = false := by simpa using (show (m : Int) ≠ 0 by omega)
      clear hk hno hne hd1 kb8 kb7 kb4 kb6 kb5 kb3 kb2
      go_wp2_with fail
      go_ret2
      exact ⟨by rfl, HX.out⟩
    have kb1 : (k == [110, 97, 109, 101]) = false := by simpa using (show k ≠ [110, 97, 109, 101] from hd1)
    rw [if_neg hd1] at hno
    clear hd1
    by_cases hd0 : k = kNumber
    · rw [if_pos hd0] at hno
      have hk : k = [110, 117, 109, 98, 101, 114] := hd0
      have hne : m ≠ 0 := fun e => hno (by rw [e]; rfl)
      have kc0 : (k == [110, 117, 109, 98, 101, 114]) = true := by rw [hk]; decide
      have kc1 : (k == [110, 97, 109, 101]) = false := by rw [hk]; decide
      have kc2 : (k == [99, 111, 117, 110, 116]) = false := by rw [hk]; decide
      have kc3 : (k == [116, 111, 116, 97, 108]) = false := by rw [hk]; decide
      have kc4 : (k == [42]) = false := by rw [hk]; decide
      have kc5 : (k == [43]) = false := by rw [hk]; decide
      have kc6 : (k == [45]) = false := by rw [hk]; decide
      have kc7 : (k == [109, 97, 120]) = false := by rw [hk]; decide
      have kc8 : (k == [109, 105, 110]) = false := by rw [hk]; decide
      have hm1 : ((m : Int) != 0) = true := by simpa using (show (m : Int) ≠ 0 by omega)
      have hm2 : ((m : Int) == 0) = false := by simpa using (show (m : Int) ≠ 0 by omega)
      clear hk hno hne hd0 kb8 kb7 kb4 kb6 kb5 kb3 kb2 kb1
      go_wp2_with fail
      refine (HG.out _).mono ?_
      rintro e w1 ⟨rfl, rfl⟩
      go_wp2_with fail
      go_ret2
      exact ⟨by rfl, HX.out⟩
    have kb0 : (k == [110, 117, 109, 98, 101, 114]) = false := by simpa using (show k ≠ [110, 117, 109, 98, 101, 114] from hd0)
    rw [if_neg hd0] at hno
    clear hd0
    clear hno
    go_wp2_with fail
    go_ret2
    exact ⟨by rfl, HX.out⟩
set_option maxRecDepth 100000 in
set_option maxHeartbeats 8000000 in
theorem rsum_number {q : Ask} (_ : Okq q) (fb lb : Nat) (who : Int) (X : Nat → Prop) (d : Nat) (k s : List UInt8) (n : Int) (A : Option Addr) (c : Nat) (hk : k = [110, 117, 109, 98, 101, 114]) (w : World) (hN : InW w X (d + 1) (.mk k s n A c [])) (hLr : Lr q fb lb who w) (hLf : Lf q fb w) :
    Calls Tryz.prog 14 #[.pointer (some ⟨lb, 0, none⟩), .agg #[.string ⟨k.toArray⟩, .string ⟨s.toArray⟩, .int .i64 n, .slice A 0 c]] w (RPost (evS (d + 1) q (.mk k s n A c []) who) w) := by
    have HE := Lib.hid (show evS (d + 1) q (.mk k s n A c []) who = if 0 ≤ n ∧ coinB n = true then (n, 0) else (0, 9) by (conv => lhs; unfold evS); rw [if_pos (show k = kNumber from hk)]; simp)
    have kb0 : (k == [110, 117, 109, 98, 101, 114]) = true := by rw [hk]; decide
    have kb1 : (k == [110, 97, 109, 101]) = false := by rw [hk]; decide
    have kb2 : (k == [99, 111, 117, 110, 116]) = false := by rw [hk]; decide
    have kb3 : (k == [116, 111, 116, 97, 108]) = false := by rw [hk]; decide
    have kb4 : (k == [42]) = false := by rw [hk]; decide
    have kb5 : (k == [43]) = false := by rw [hk]; decide
    have kb6 : (k == [45]) = false := by rw [hk]; decide
    have kb7 : (k == [109, 97, 120]) = false := by rw [hk]; decide
    have kb8 : (k == [109, 105, 110]) = false := by rw [hk]; decide
    clear hk
    have HWd := Lib.hid (fun w => rword_any s hN.2.2.1.2.2.2 w)
    obtain ⟨bw, hbw⟩ : ∃ bw, wordB s = bw := ⟨_, rfl⟩
    rw [hbw] at HWd
    have HBw := Lib.hid hbw
    clear hbw
    have HN := Lib.hid hN
    have HLr0 := Lib.hid hLr
    have HLf0 := Lib.hid hLf
    obtain ⟨W, hW, hx, hbn⟩ := boxedR w k s n A c (0)
    have HX := Lib.hid hx
    have HBn := Lib.hid hbn
    have HNW := Lib.hid (hN.ext hx)
    have HLr := Lib.hid (hLr.ext hx)
    have HLf := Lib.hid (hLf.ext hx)
    have m0 := hbn.cell 0 rfl
    have m1 := hbn.cell 1 rfl
    have m2 := hbn.cell 2 rfl
    have m3 := hbn.cell 3 rfl
    clear hN hLr hLf hx hbn
    go_enter Tryz.func14, Tryz.ntmps14
    go_upto_region 1 with fail
    rw [show w.alloc (.cells #[.string ⟨k.toArray⟩, .string ⟨s.toArray⟩, .int .i64 n, .slice A 0 c] 25) = W from hW.symm]
    clear hW
    go_wp2_with fail
    refine (HWd.out _).mono ?_
    rintro e w1 ⟨rfl, rfl⟩
    have HG := Lib.hid (fun w => rsmall_any n w)
    obtain ⟨bc, hbc⟩ : ∃ bc, coinB n = bc := ⟨_, rfl⟩
    rw [hbc] at HG HE
    clear hbc
    by_cases h1 : n < 0
    · have HP := Lib.hid (HE.out.trans (by rw [if_neg]; omega))
      go_wp2_with fail
      refine (HG.out _).mono ?_
      rintro e w1 ⟨rfl, rfl⟩
      go_wp2_with fail
      go_ret2
      exact ⟨by rw [HP.out]; rfl, HX.out⟩
    · cases bc with
      | false =>
        have HP := Lib.hid (HE.out.trans (by rw [if_neg]; simp))
        go_wp2_with fail
        refine (HG.out _).mono ?_
        rintro e w1 ⟨rfl, rfl⟩
        go_wp2_with fail
        go_ret2
        exact ⟨by rw [HP.out]; rfl, HX.out⟩
      | true =>
        have HP := Lib.hid (HE.out.trans (if_pos ⟨by omega, rfl⟩))
        go_wp2_with fail
        refine (HG.out _).mono ?_
        rintro e w1 ⟨rfl, rfl⟩
        go_wp2_with fail
        go_ret2
        exact ⟨by rw [HP.out]; rfl, HX.out⟩
set_option maxRecDepth 100000 in
set_option maxHeartbeats 8000000 in
theorem rsum_name {q : Ask} (hq : Okq q) (fb lb : Nat) (who : Int) (X : Nat → Prop) (d : Nat) (k s : List UInt8) (n : Int) (A : Option Addr) (c : Nat) (hk : k = [110, 97, 109, 101]) (w : World) (hN : InW w X (d + 1) (.mk k s n A c [])) (hLr : Lr q fb lb who w) (hLf : Lf q fb w) :
    Calls Tryz.prog 14 #[.pointer (some ⟨lb, 0, none⟩), .agg #[.string ⟨k.toArray⟩, .string ⟨s.toArray⟩, .int .i64 n, .slice A 0 c]] w (RPost (evS (d + 1) q (.mk k s n A c []) who) w) := by
    have HE := Lib.hid (show evS (d + 1) q (.mk k s n A c []) who = nameR q who s by (conv => lhs; unfold evS); unfold nameR; rw [hk]; simp [kNumber, kName])
    have kb0 : (k == [110, 117, 109, 98, 101, 114]) = false := by rw [hk]; decide
    have kb1 : (k == [110, 97, 109, 101]) = true := by rw [hk]; decide
    have kb2 : (k == [99, 111, 117, 110, 116]) = false := by rw [hk]; decide
    have kb3 : (k == [116, 111, 116, 97, 108]) = false := by rw [hk]; decide
    have kb4 : (k == [42]) = false := by rw [hk]; decide
    have kb5 : (k == [43]) = false := by rw [hk]; decide
    have kb6 : (k == [45]) = false := by rw [hk]; decide
    have kb7 : (k == [109, 97, 120]) = false := by rw [hk]; decide
    have kb8 : (k == [109, 105, 110]) = false := by rw [hk]; decide
    clear hk
    have HWd := Lib.hid (fun w => rword_any s hN.2.2.1.2.2.2 w)
    obtain ⟨bw, hbw⟩ : ∃ bw, wordB s = bw := ⟨_, rfl⟩
    rw [hbw] at HWd
    have HBw := Lib.hid hbw
    clear hbw
    have HN := Lib.hid hN
    have HLr0 := Lib.hid hLr
    have HLf0 := Lib.hid hLf
    obtain ⟨W, hW, hx, hbn⟩ := boxedR w k s n A c (0)
    have HX := Lib.hid hx
    have HBn := Lib.hid hbn
    have HNW := Lib.hid (hN.ext hx)
    have HLr := Lib.hid (hLr.ext hx)
    have HLf := Lib.hid (hLf.ext hx)
    have m0 := hbn.cell 0 rfl
    have m1 := hbn.cell 1 rfl
    have m2 := hbn.cell 2 rfl
    have m3 := hbn.cell 3 rfl
    clear hN hLr hLf hx hbn
    go_enter Tryz.func14, Tryz.ntmps14
    go_upto_region 1 with fail
    rw [show w.alloc (.cells #[.string ⟨k.toArray⟩, .string ⟨s.toArray⟩, .int .i64 n, .slice A 0 c] 25) = W from hW.symm]
    clear hW
    go_wp2_with fail
    refine (HWd.out _).mono ?_
    rintro e w1 ⟨rfl, rfl⟩
    cases bw with
    | false =>
      have HP := Lib.hid (HE.out.trans (show nameR q who s = (0, 9) by unfold nameR; rw [HBw.out]; rfl))
      go_wp2_with fail
      go_ret2
      exact ⟨by rw [HP.out]; rfl, HX.out⟩
    | true =>
      have HP := Lib.hid (HE.out.trans (show nameR q who s = (q.worth who s, 0) by unfold nameR; rw [HBw.out]; rfl))
      have HAm := Lib.hid (fun w => among_nil s w)
      have a0 := HLr.out.blk.cell 0 rfl
      have a1 := HLr.out.blk.cell 1 rfl
      have a2 := HLr.out.blk.cell 2 rfl
      have a3 := HLr.out.blk.cell 3 rfl
      have a4 := HLr.out.blk.cell 4 rfl
      have a5 := HLr.out.blk.cell 5 rfl
      have a6 := HLr.out.blk.cell 6 rfl
      have a7 := HLr.out.blk.cell 7 rfl
      go_wp2_with fail
      go_quiet ((go_at_call 50; exact Calls.quiet_of_same (HAm.out _)))
      have hx1 := ext_drewN W nq
      obtain ⟨W1, hW1⟩ : ∃ W1, W1 = W.drewN nq := ⟨_, rfl⟩
      rw [← hW1] at hx1 ⊢
      clear hW1 m0 m1 m2 m3 a0 a1 a2 a3 a4 a5 a6 a7
      have HX1 := Lib.hid (ext_trans HX.out hx1)
      have HLr1 := Lib.hid (HLr.out.ext hx1)
      have HLf1 := Lib.hid (HLf.out.ext hx1)
      have m1 := cell_ext hx1 (HBn.out.cell 1 rfl)
      have a0 := HLr1.out.blk.cell 0 rfl
      have a1 := HLr1.out.blk.cell 1 rfl
      have a2 := HLr1.out.blk.cell 2 rfl
      have a3 := HLr1.out.blk.cell 3 rfl
      have a4 := HLr1.out.blk.cell 4 rfl
      have a5 := HLr1.out.blk.cell 5 rfl
      have a6 := HLr1.out.blk.cell 6 rfl
      have a7 := HLr1.out.blk.cell 7 rfl
      clear hx1
      go_wp2_with fail
      have HV := Lib.hid (fun wx (hb : Below W1.heap.size W1 wx) => (by obtain ⟨FA, fc, hf⟩ := HLf1.out.ext hb; exact rvalue_any q.l hq.len fb FA fc who s q.on q.kn wx hf : Calls Tryz.prog 44 #[.pointer (some ⟨fb, 0, none⟩), .int .i64 who, .string ⟨s.toArray⟩, .int .i64 q.on, .int .i64 q.kn] wx (ValPost (bestF who s q.on q.kn (-1) q.l) wx)))
      have hdr := ext_drewN W1 1
      go_region_held3 (fun w' => w'.cell? ⟨lb, 0, none⟩ = some (.pointer (some ⟨fb, 0, none⟩)) ∧ w'.cell? ⟨lb, 1, none⟩ = some (.int .i64 who) ∧ w'.cell? ⟨lb, 2, none⟩ = some (.int .i64 q.on) ∧ w'.cell? ⟨lb, 3, none⟩ = some (.int .i64 q.kn) ∧ w'.cell? ⟨w.heap.size, 1, none⟩ = some (.string ⟨s.toArray⟩))
        ((first | exact ⟨a0, a1, a2, a3, m1⟩ | exact ⟨cell_ext hdr a0, cell_ext hdr a1, cell_ext hdr a2, cell_ext hdr a3, cell_ext hdr m1⟩ | exact ⟨cell_ext HBs.out a0, cell_ext HBs.out a1, cell_ext HBs.out a2, cell_ext HBs.out a3, cell_ext HBs.out m1⟩))
        ((go_at_call 44; refine (HV.out _ hdr).mono ?_; rintro e w2 ⟨rfl, hb⟩; have HBs := Lib.hid (ext_trans hdr hb); clear hb))
      obtain ⟨vz, hvz⟩ : ∃ vz, (valF (bestF who s q.on q.kn (-1) q.l)).1 = vz := ⟨_, rfl⟩
      rw [hvz]
      have HVz := Lib.hid (show q.worth who s = vz from hvz)
      clear hvz HV hdr
      go_wp2_with fail
      go_ret2
      exact ⟨by rw [HP.out, HVz.out]; rfl, ext_trans HX1.out HBs.out⟩
set_option maxRecDepth 100000 in
set_option maxHeartbeats 8000000 in
theorem rsum_count {q : Ask} (hq : Okq q) (fb lb : Nat) (who : Int) (X : Nat → Prop) (d : Nat) (k s : List UInt8) (n : Int) (A : Option Addr) (c : Nat) (hk : k = [99, 111, 117, 110, 116]) (w : World) (hN : InW w X (d + 1) (.mk k s n A c [])) (hLr : Lr q fb lb who w) (hLf : Lf q fb w) :
    Calls Tryz.prog 14 #[.pointer (some ⟨lb, 0, none⟩), .agg #[.string ⟨k.toArray⟩, .string ⟨s.toArray⟩, .int .i64 n, .slice A 0 c]] w (RPost (evS (d + 1) q (.mk k s n A c []) who) w) := by
    have HE := Lib.hid (show evS (d + 1) q (.mk k s n A c []) who = cntR q who s by (conv => lhs; unfold evS); unfold cntR; rw [hk]; simp [kNumber, kName, kCount])
    have kb0 : (k == [110, 117, 109, 98, 101, 114]) = false := by rw [hk]; decide
    have kb1 : (k == [110, 97, 109, 101]) = false := by rw [hk]; decide
    have kb2 : (k == [99, 111, 117, 110, 116]) = true := by rw [hk]; decide
    have kb3 : (k == [116, 111, 116, 97, 108]) = false := by rw [hk]; decide
    have kb4 : (k == [42]) = false := by rw [hk]; decide
    have kb5 : (k == [43]) = false := by rw [hk]; decide
    have kb6 : (k == [45]) = false := by rw [hk]; decide
    have kb7 : (k == [109, 97, 120]) = false := by rw [hk]; decide
    have kb8 : (k == [109, 105, 110]) = false := by rw [hk]; decide
    clear hk
    have HWd := Lib.hid (fun w => rword_any s hN.2.2.1.2.2.2 w)
    obtain ⟨bw, hbw⟩ : ∃ bw, wordB s = bw := ⟨_, rfl⟩
    rw [hbw] at HWd
    have HBw := Lib.hid hbw
    clear hbw
    have HN := Lib.hid hN
    have HLr0 := Lib.hid hLr
    have HLf0 := Lib.hid hLf
    obtain ⟨W, hW, hx, hbn⟩ := boxedR w k s n A c (0)
    have HX := Lib.hid hx
    have HBn := Lib.hid hbn
    have HNW := Lib.hid (hN.ext hx)
    have HLr := Lib.hid (hLr.ext hx)
    have HLf := Lib.hid (hLf.ext hx)
    have m0 := hbn.cell 0 rfl
    have m1 := hbn.cell 1 rfl
    have m2 := hbn.cell 2 rfl
    have m3 := hbn.cell 3 rfl
    clear hN hLr hLf hx hbn
    go_enter Tryz.func14, Tryz.ntmps14
    go_upto_region 1 with fail
    rw [show w.alloc (.cells #[.string ⟨k.toArray⟩, .string ⟨s.toArray⟩, .int .i64 n, .slice A 0 c] 25) = W from hW.symm]
    clear hW
    go_wp2_with fail
    refine (HWd.out _).mono ?_
    rintro e w1 ⟨rfl, rfl⟩
    cases bw with
    | false =>
      have HP := Lib.hid (HE.out.trans (show cntR q who s = (0, 9) by unfold cntR; rw [HBw.out]; rfl))
      go_wp2_with fail
      go_ret2
      exact ⟨by rw [HP.out]; rfl, HX.out⟩
    | true =>
      have HP := Lib.hid (HE.out.trans (show cntR q who s = (((q.others who s).length : Int) * 100, 0) by unfold cntR; rw [HBw.out]; rfl))
      have hol := others_len q who s
      have a0 := HLr.out.blk.cell 0 rfl
      have a1 := HLr.out.blk.cell 1 rfl
      have a2 := HLr.out.blk.cell 2 rfl
      have a3 := HLr.out.blk.cell 3 rfl
      have a4 := HLr.out.blk.cell 4 rfl
      have a5 := HLr.out.blk.cell 5 rfl
      have a6 := HLr.out.blk.cell 6 rfl
      have a7 := HLr.out.blk.cell 7 rfl
      have HV := Lib.hid (fun wx (hb : Below W.heap.size W wx) => (by obtain ⟨FA, fc, hf⟩ := HLf.out.ext hb; exact rothers_any q.l hq.len fb FA fc who s q.on q.kn wx hf : Calls Tryz.prog 51 #[.pointer (some ⟨fb, 0, none⟩), .int .i64 who, .string ⟨s.toArray⟩, .int .i64 q.on, .int .i64 q.kn] wx (IntsPost (q.others who s) wx)))
      obtain ⟨os, hos⟩ : ∃ os, q.others who s = os := ⟨_, rfl⟩
      rw [hos] at hol HP HV
      clear hos
      have hw100 : IntKind.i64.wrap ((os.length : Int) * 100) = (os.length : Int) * 100 := IntWalk.i64_in _ (by omega)
      go_wp2_with fail
      have hdr := ext_drewN W 1
      go_region_held3 (fun w' => w'.cell? ⟨lb, 0, none⟩ = some (.pointer (some ⟨fb, 0, none⟩)) ∧ w'.cell? ⟨lb, 1, none⟩ = some (.int .i64 who) ∧ w'.cell? ⟨lb, 2, none⟩ = some (.int .i64 q.on) ∧ w'.cell? ⟨lb, 3, none⟩ = some (.int .i64 q.kn) ∧ w'.cell? ⟨w.heap.size, 1, none⟩ = some (.string ⟨s.toArray⟩))
        ((first | exact ⟨a0, a1, a2, a3, m1⟩ | exact ⟨cell_ext hdr a0, cell_ext hdr a1, cell_ext hdr a2, cell_ext hdr a3, cell_ext hdr m1⟩ | exact ⟨cell_ext HBs.out a0, cell_ext HBs.out a1, cell_ext HBs.out a2, cell_ext HBs.out a3, cell_ext HBs.out m1⟩))
        ((go_at_call 51; refine (HV.out _ hdr).mono ?_; rintro e w2 ⟨OA, oc, rfl, hs, hb⟩; have HBs := Lib.hid (ext_trans hdr hb); clear hb hs))
      go_wp2_with fail
      go_ret2
      exact ⟨by rw [HP.out]; rfl, ext_trans HX.out HBs.out⟩
end Go.Proofs.YtnchlnfenebomaaGreatDoor.Hd
namespace Go.Proofs.YtnchlnfenebomaaGreatDoor.Hd
open Go.RowKit Mem Nest Fk Coin Err

set_option maxRecDepth 100000 in
set_option maxHeartbeats 8000000 in
theorem rsum_total {q : Ask} (hq : Okq q) (fb lb : Nat) (who : Int) (X : Nat → Prop) (d : Nat) (k s : List UInt8) (n : Int) (A : Option Addr) (c : Nat) (xk xs : List UInt8) (xn : Int) (xA : Option Addr) (xc : Nat) (xl : List Nd) (hk : k = [116, 111, 116, 97, 108]) (w : World) (hN : InW w X (d + 1) (.mk k s n A c [.mk xk xs xn xA xc xl])) (hLr : Lr q fb lb who w) (hLf : Lf q fb w) :
    Calls Tryz.prog 14 #[.pointer (some ⟨lb, 0, none⟩), .agg #[.string ⟨k.toArray⟩, .string ⟨s.toArray⟩, .int .i64 n, .slice A 1 c]] w (RPost (evS (d + 1) q (.mk k s n A c [.mk xk xs xn xA xc xl]) who) w) := by
    have HE := Lib.hid (show evS (d + 1) q (.mk k s n A c [.mk xk xs xn xA xc xl]) who = totR q who s xk xs xl.length by (conv => lhs; unfold evS); unfold totR; rw [hk]; simp [kNumber, kName, kCount, kTotal, Nd.kind, Nd.kids, Nd.word])
    obtain ⟨d, rfl⟩ : ∃ d', d = d' + 1 := by
      cases d with
      | zero => exact (hN.2.2.2 _ (List.mem_singleton.2 rfl)).elim
      | succ d' => exact ⟨d', rfl⟩
    have kb0 : (k == [110, 117, 109, 98, 101, 114]) = false := by rw [hk]; decide
    have kb1 : (k == [110, 97, 109, 101]) = false := by rw [hk]; decide
    have kb2 : (k == [99, 111, 117, 110, 116]) = false := by rw [hk]; decide
    have kb3 : (k == [116, 111, 116, 97, 108]) = true := by rw [hk]; decide
    have kb4 : (k == [42]) = false := by rw [hk]; decide
    have kb5 : (k == [43]) = false := by rw [hk]; decide
    have kb6 : (k == [45]) = false := by rw [hk]; decide
    have kb7 : (k == [109, 97, 120]) = false := by rw [hk]; decide
    have kb8 : (k == [109, 105, 110]) = false := by rw [hk]; decide
    clear hk
    obtain ⟨m, hm⟩ : ∃ m, xl.length = m := ⟨_, rfl⟩
    rw [hm] at HE
    have HM := Lib.hid hm
    clear hm
    have HWd := Lib.hid (fun w => rword_any s hN.2.2.1.2.2.2 w)
    obtain ⟨bw, hbw⟩ : ∃ bw, wordB s = bw := ⟨_, rfl⟩
    rw [hbw] at HWd
    have HBw := Lib.hid hbw
    clear hbw
    have HN := Lib.hid hN
    have HLr0 := Lib.hid hLr
    have HLf0 := Lib.hid hLf
    obtain ⟨W, hW, hx, hbn⟩ := boxedR w k s n A c (1)
    have HX := Lib.hid hx
    have HBn := Lib.hid hbn
    have HNW := Lib.hid (hN.ext hx)
    have HLr := Lib.hid (hLr.ext hx)
    have HLf := Lib.hid (hLf.ext hx)
    have m0 := hbn.cell 0 rfl
    have m1 := hbn.cell 1 rfl
    have m2 := hbn.cell 2 rfl
    have m3 := hbn.cell 3 rfl
    clear hN hLr hLf hx hbn
    go_enter Tryz.func14, Tryz.ntmps14
    go_upto_region 1 with fail
    rw [show w.alloc (.cells #[.string ⟨k.toArray⟩, .string ⟨s.toArray⟩, .int .i64 n, .slice A 1 c] 25) = W from hW.symm]
    clear hW
    go_wp2_with fail
    refine (HWd.out _).mono ?_
    rintro e w1 ⟨rfl, rfl⟩
    obtain ⟨b', o', hA, t0, t1, t2, t3, hkd⟩ := HNW.out.kid (i := 0) (by simp)
    simp only [List.getElem_cons_zero, Nd.kind, Nd.word, Nd.n, Nd.A, Nd.c, Nd.kids, Nat.zero_mul, Nat.add_zero] at t0 t1 t2 t3
    rw [HM.out] at t3
    have HWx := Lib.hid (fun w => rword_any xs hkd.2.2.1.2.2.2 w)
    have hxl : m ≤ 9223372036854775807 := by
      rw [← HM.out]
      have h1 := hkd.2.2.1.1
      have h2 := hkd.2.2.1.2.1
      unfold maxLen at h2
      omega
    obtain rfl : A = some ⟨b', o', none⟩ := hA
    clear hkd
    cases bw with
    | false =>
      have HP := Lib.hid (HE.out.trans (show totR q who s xk xs m = (0, 9) by unfold totR; rw [if_neg]; rw [HBw.out]; simp))
      go_wp2_with fail
      go_ret2
      exact ⟨by rw [HP.out]; rfl, HX.out⟩
    | true =>
      by_cases h1 : xk = [110, 97, 109, 101]
      · have hk1 : (xk == [110, 97, 109, 101]) = true := by simpa using h1
        have hk2 : (xk != [110, 97, 109, 101]) = false := by simpa using h1
        have H1 := Lib.hid h1
        clear h1
        by_cases h2 : m = 0
        · have hm1 : ((m : Int) != 0) = false := by simpa using h2
          have hm2 : ((m : Int) == 0) = true := by simpa using h2
          have H2 := Lib.hid h2
          clear h2
          obtain ⟨bx, hbx⟩ : ∃ bx, wordB xs = bx := ⟨_, rfl⟩
          rw [hbx] at HWx
          have HBx := Lib.hid hbx
          clear hbx
          cases bx with
          | false =>
            have HP := Lib.hid (HE.out.trans (show totR q who s xk xs m = (0, 9) by unfold totR; rw [if_neg]; exact fun h => by rw [HBx.out] at h; exact absurd h.2.2.2 (by decide)))
            go_wp2_with fail
            refine (HWx.out _).mono ?_
            rintro e w1 ⟨rfl, rfl⟩
            go_wp2_with fail
            go_ret2
            exact ⟨by rw [HP.out]; rfl, HX.out⟩
          | true =>
            have HP := Lib.hid (HE.out.trans (show totR q who s xk xs m = goodF (totalF q s (q.others who xs)) by unfold totR; rw [if_pos ⟨HBw.out, H1.out, H2.out, HBx.out⟩]))
            have hol := others_len q who xs
            have a0 := HLr.out.blk.cell 0 rfl
            have a1 := HLr.out.blk.cell 1 rfl
            have a2 := HLr.out.blk.cell 2 rfl
            have a3 := HLr.out.blk.cell 3 rfl
            have a4 := HLr.out.blk.cell 4 rfl
            have a5 := HLr.out.blk.cell 5 rfl
            have a6 := HLr.out.blk.cell 6 rfl
            have a7 := HLr.out.blk.cell 7 rfl
            have HV := Lib.hid (fun wx (hb : Below W.heap.size W wx) => (by obtain ⟨FA, fc, hf⟩ := HLf.out.ext hb; exact rothers_any q.l hq.len fb FA fc who xs q.on q.kn wx hf : Calls Tryz.prog 51 #[.pointer (some ⟨fb, 0, none⟩), .int .i64 who, .string ⟨xs.toArray⟩, .int .i64 q.on, .int .i64 q.kn] wx (IntsPost (q.others who xs) wx)))
            obtain ⟨os, hos⟩ : ∃ os, q.others who xs = os := ⟨_, rfl⟩
            rw [hos] at hol HP HV
            clear hos
            go_wp2_with fail
            refine (HWx.out _).mono ?_
            rintro e w1 ⟨rfl, rfl⟩
            go_wp2_with fail
            have hdr := ext_drewN W 1
            go_region_held3 (fun w' => w'.cell? ⟨lb, 0, none⟩ = some (.pointer (some ⟨fb, 0, none⟩)) ∧ w'.cell? ⟨lb, 1, none⟩ = some (.int .i64 who) ∧ w'.cell? ⟨lb, 2, none⟩ = some (.int .i64 q.on) ∧ w'.cell? ⟨lb, 3, none⟩ = some (.int .i64 q.kn) ∧ w'.cell? ⟨w.heap.size, 3, none⟩ = some (.slice (some ⟨b', o', none⟩) 1 c) ∧ w'.cell? ⟨b', o' + 1, none⟩ = some (.string ⟨xs.toArray⟩))
              ((first | exact ⟨a0, a1, a2, a3, m3, t1⟩ | exact ⟨cell_ext hdr a0, cell_ext hdr a1, cell_ext hdr a2, cell_ext hdr a3, cell_ext hdr m3, cell_ext hdr t1⟩ | exact ⟨cell_ext HBs.out a0, cell_ext HBs.out a1, cell_ext HBs.out a2, cell_ext HBs.out a3, cell_ext HBs.out m3, cell_ext HBs.out t1⟩))
              ((go_at_call 51; refine (HV.out _ hdr).mono ?_; rintro e w2 ⟨OA, oc, rfl, hs, hb⟩; have HBs := Lib.hid (ext_trans hdr hb); have HS := Lib.hid hs; clear hb hs))
            clear hdr HV m0 m1 m2 m3 t0 t1 t2 t3 a0 a1 a2 a3 a4 a5 a6 a7
            go_wp2_with fail
            go_loopw [12, 13] (fun t12 t13 wr => ∃ (i : Nat) (z : Int), t12 = .int .i64 z ∧ t13 = .int .i64 i ∧ i ≤ os.length ∧ Hid (Below w2.heap.size w2 wr) ∧ Hid (z = totalF q s (os.take i))) (fun _ t13 _ => os.length - (intOf t13).toNat)
            case atStart => exact ⟨0, 0, rfl, rfl, Nat.zero_le _, Below.refl _ _, rfl⟩
            case round =>
              obtain ⟨i, z, rfl, rfl, hi, HBr, HT⟩ := hrel
              have HBW := Lib.hid (HBs.out.trans (HBr.out.mono HBs.out.size))
              have htb := total_bd hq s (os.take i)
              rw [← HT.out, List.length_take, Nat.min_eq_left hi] at htb
              obtain ⟨hz1, hz2⟩ : -40000000000000 ≤ z ∧ z ≤ 40000000000000 := by omega
              clear htb
              by_cases hlt : i < os.length
              · have hltc : (i : Int) < (os.length : Int) := by omega
                obtain ⟨ob, oo, rfl, u0⟩ := (HS.out.ext HBr.out).rd.int hlt
                have hwb := worth_bd hq os[i] s
                have HT2 := Lib.hid (show totalF q s (os.take (i + 1)) = totalF q s (os.take i) + q.worth os[i] s by
                  unfold totalF
                  rw [List.take_succ_eq_append_getElem hlt, List.map_append, List.sum_append]
                  simp)
                generalize os[i] = ox at u0 hwb HT2
                have HLrZ := Lib.hid (HLr.out.ext HBW.out)
                have HLfZ := Lib.hid (HLf.out.ext HBW.out)
                have m1 := cell_ext HBW.out (HBn.out.cell 1 rfl)
                have a0 := HLrZ.out.blk.cell 0 rfl
                have a1 := HLrZ.out.blk.cell 1 rfl
                have a2 := HLrZ.out.blk.cell 2 rfl
                have a3 := HLrZ.out.blk.cell 3 rfl
                have a4 := HLrZ.out.blk.cell 4 rfl
                have a5 := HLrZ.out.blk.cell 5 rfl
                have a6 := HLrZ.out.blk.cell 6 rfl
                have a7 := HLrZ.out.blk.cell 7 rfl
                have HV := Lib.hid (fun wx (hb : Below wr.heap.size wr wx) => (by obtain ⟨FA, fc, hf⟩ := HLfZ.out.ext hb; exact rvalue_any q.l hq.len fb FA fc ox s q.on q.kn wx hf : Calls Tryz.prog 44 #[.pointer (some ⟨fb, 0, none⟩), .int .i64 ox, .string ⟨s.toArray⟩, .int .i64 q.on, .int .i64 q.kn] wx (ValPost (bestF ox s q.on q.kn (-1) q.l) wx)))
                obtain ⟨vz, hvz⟩ : ∃ vz, (valF (bestF ox s q.on q.kn (-1) q.l)).1 = vz := ⟨_, rfl⟩
                have HVz := Lib.hid (show q.worth ox s = vz from hvz)
                have HVe := Lib.hid hvz
                rw [show q.worth ox s = vz from hvz] at hwb
                clear hvz
                go_wp2_with fail
                have hdr := ext_drewN wr 1
                go_region_held3 (fun w' => w'.cell? ⟨lb, 0, none⟩ = some (.pointer (some ⟨fb, 0, none⟩)) ∧ w'.cell? ⟨lb, 2, none⟩ = some (.int .i64 q.on) ∧ w'.cell? ⟨lb, 3, none⟩ = some (.int .i64 q.kn) ∧ w'.cell? ⟨w.heap.size, 1, none⟩ = some (.string ⟨s.toArray⟩) ∧ w'.cell? ⟨ob, oo + i, none⟩ = some (.int .i64 ox))
                  ((first | exact ⟨a0, a2, a3, m1, u0⟩ | exact ⟨cell_ext hdr a0, cell_ext hdr a2, cell_ext hdr a3, cell_ext hdr m1, cell_ext hdr u0⟩ | exact ⟨cell_ext HBq.out a0, cell_ext HBq.out a2, cell_ext HBq.out a3, cell_ext HBq.out m1, cell_ext HBq.out u0⟩))
                  ((go_at_call 44; refine (HV.out _ hdr).mono ?_; rintro e w3 ⟨rfl, hb⟩; have HBq := Lib.hid (ext_trans hdr hb); clear hb))
                have HB2 := Lib.hid (HBr.out.trans (HBq.out.mono HBr.out.size))
                rw [HVe.out]
                clear hdr HV HBq m1 u0 a0 a1 a2 a3 a4 a5 a6 a7
                go_wp2_with fail
                go_roundw
                case rel => exact ⟨i + 1, z + vz, by go_num, by go_num, by omega, HB2.out, by show z + vz = _; rw [HT2.out, HT.out, HVz.out]⟩
                case measure => simp [intOf]; omega
              · obtain rfl : os.length = i := by omega
                have hlc : ¬ (os.length : Int) < (os.length : Int) := by omega
                have HTa := Lib.hid (show z = totalF q s os by have := HT.out; rwa [List.take_length] at this)
                go_wp2_with fail
                refine (rgood_any z wr).mono ?_
                rintro e w3 ⟨rfl, hb⟩
                have HB2 := Lib.hid (HBW.out.trans (hb.mono HBW.out.size))
                have HP2 := Lib.hid (HP.out.trans (by rw [HTa.out]) : _ = goodF z)
                clear hb
                obtain ⟨rg, hrg⟩ : ∃ rg : Int × Nat, rg = goodF z := ⟨_, rfl⟩
                rw [← hrg] at HP2 ⊢
                clear hrg
                obtain ⟨gz, gc⟩ := rg
                simp only
                go_wp2_with fail
                go_ret2
                exact ⟨by rw [HP2.out] <;> rfl, ext_trans HX.out HB2.out⟩
        · have hm1 : ((m : Int) != 0) = true := by simpa using h2
          have hm2 : ((m : Int) == 0) = false := by simpa using h2
          have HP := Lib.hid (HE.out.trans (show totR q who s xk xs m = (0, 9) by unfold totR; rw [if_neg]; exact fun h => h2 h.2.2.1))
          clear h2
          go_wp2_with fail
          go_ret2
          exact ⟨by rw [HP.out]; rfl, HX.out⟩
      · have hk1 : (xk == [110, 97, 109, 101]) = false := by simpa using h1
        have hk2 : (xk != [110, 97, 109, 101]) = true := by simpa using h1
        have HP := Lib.hid (HE.out.trans (show totR q who s xk xs m = (0, 9) by unfold totR; rw [if_neg]; exact fun h => h1 h.2.1))
        clear h1
        go_wp2_with fail
        go_ret2
        exact ⟨by rw [HP.out]; rfl, HX.out⟩
set_option maxRecDepth 100000 in
set_option maxHeartbeats 8000000 in
theorem rsum_times {q : Ask} (hq : Okq q) (fb lb : Nat) (who : Int) (X : Nat → Prop) (d : Nat) (IH : IHR q fb X d) (k s : List UInt8) (n : Int) (A : Option Addr) (c : Nat) (xk xs : List UInt8) (xn : Int) (xA : Option Addr) (xc : Nat) (xl : List Nd) (hk : k = [42]) (w : World) (hN : InW w X (d + 1) (.mk k s n A c [.mk xk xs xn xA xc xl])) (hLr : Lr q fb lb who w) (hLf : Lf q fb w) :
    Calls Tryz.prog 14 #[.pointer (some ⟨lb, 0, none⟩), .agg #[.string ⟨k.toArray⟩, .string ⟨s.toArray⟩, .int .i64 n, .slice A 1 c]] w (RPost (evS (d + 1) q (.mk k s n A c [.mk xk xs xn xA xc xl]) who) w) := by
    have HE := Lib.hid (show evS (d + 1) q (.mk k s n A c [.mk xk xs xn xA xc xl]) who = if 0 < (evS d q (.mk xk xs xn xA xc xl) who).2 then (0, (evS d q (.mk xk xs xn xA xc xl) who).2) else if n < 0 ∨ 1000000 < n then (0, 9) else partV (evS d q (.mk xk xs xn xA xc xl) who).1 n 4 by (conv => lhs; unfold evS); rw [hk]; simp [kNumber, kName, kCount, kTotal])
    have kb0 : (k == [110, 117, 109, 98, 101, 114]) = false := by rw [hk]; decide
    have kb1 : (k == [110, 97, 109, 101]) = false := by rw [hk]; decide
    have kb2 : (k == [99, 111, 117, 110, 116]) = false := by rw [hk]; decide
    have kb3 : (k == [116, 111, 116, 97, 108]) = false := by rw [hk]; decide
    have kb4 : (k == [42]) = true := by rw [hk]; decide
    have kb5 : (k == [43]) = false := by rw [hk]; decide
    have kb6 : (k == [45]) = false := by rw [hk]; decide
    have kb7 : (k == [109, 97, 120]) = false := by rw [hk]; decide
    have kb8 : (k == [109, 105, 110]) = false := by rw [hk]; decide
    have HIH := Lib.hid IH
    clear hk IH
    have HWd := Lib.hid (fun w => rword_any s hN.2.2.1.2.2.2 w)
    obtain ⟨bw, hbw⟩ : ∃ bw, wordB s = bw := ⟨_, rfl⟩
    rw [hbw] at HWd
    have HBw := Lib.hid hbw
    clear hbw
    have HN := Lib.hid hN
    have HLr0 := Lib.hid hLr
    have HLf0 := Lib.hid hLf
    obtain ⟨W, hW, hx, hbn⟩ := boxedR w k s n A c (1)
    have HX := Lib.hid hx
    have HBn := Lib.hid hbn
    have HNW := Lib.hid (hN.ext hx)
    have HLr := Lib.hid (hLr.ext hx)
    have HLf := Lib.hid (hLf.ext hx)
    have m0 := hbn.cell 0 rfl
    have m1 := hbn.cell 1 rfl
    have m2 := hbn.cell 2 rfl
    have m3 := hbn.cell 3 rfl
    clear hN hLr hLf hx hbn
    go_enter Tryz.func14, Tryz.ntmps14
    go_upto_region 1 with fail
    rw [show w.alloc (.cells #[.string ⟨k.toArray⟩, .string ⟨s.toArray⟩, .int .i64 n, .slice A 1 c] 25) = W from hW.symm]
    clear hW
    go_wp2_with fail
    refine (HWd.out _).mono ?_
    rintro e w1 ⟨rfl, rfl⟩
    have HLrZ := HLr
    have HLfZ := HLf
    obtain ⟨b', o', hA, t0, t1, t2, t3, hkd⟩ := HNW.out.kid (i := 0) (by simp)
    simp only [List.getElem_cons_zero, Nd.kind, Nd.word, Nd.n, Nd.A, Nd.c, Nd.kids, Nat.zero_mul, Nat.add_zero] at t0 t1 t2 t3
    have HC := Lib.hid (fun wx (hb : Below W.heap.size W wx) => (by have h := HIH.out (.mk xk xs xn xA xc xl) who lb wx (hkd.ext hb) (HLrZ.out.ext hb) (HLfZ.out.ext hb); unfold ndV at h; exact h : Calls Tryz.prog 14 #[.pointer (some ⟨lb, 0, none⟩), .agg #[.string ⟨xk.toArray⟩, .string ⟨xs.toArray⟩, .int .i64 xn, .slice xA xl.length xc]] wx (RPost (evS d q (.mk xk xs xn xA xc xl) who) wx)))
    have hok := evS_ok hq d (.mk xk xs xn xA xc xl) who
    obtain ⟨rr, hrr⟩ : ∃ rr : Int × Nat, rr = evS d q (.mk xk xs xn xA xc xl) who := ⟨_, rfl⟩
    rw [← hrr] at HC hok HE
    obtain rfl : A = some ⟨b', o', none⟩ := hA
    clear hrr hkd
    go_wp2_with fail
    refine (HC.out _ (Below.refl _ _)).mono ?_
    rintro e w2 ⟨rfl, hb⟩
    have HB := Lib.hid hb
    have HLr2 := Lib.hid (HLr.out.ext hb)
    have m2 := cell_ext hb m2
    clear hb HC t0 t1 t2 t3 m0 m1 m3 HLrZ HLfZ
    obtain ⟨z1, c1⟩ := rr
    simp only at HE hok ⊢
    rcases code_cases hok with e1 | ⟨e1, e2⟩
    · simp only at e1
      subst e1
      have hpos : decide ((0 : Int) < ((0 : Nat) : Int)) = false := by simp
      have HE2 := Lib.hid (HE.out.trans (if_neg (by omega)))
      clear hok HE
      by_cases h1 : n < 0
      · have HP := Lib.hid (HE2.out.trans (if_pos (.inl h1)))
        go_wp2_with fail
        go_ret2
        exact ⟨by rw [HP.out]; rfl, ext_trans HX.out HB.out⟩
      · by_cases h2 : 1000000 < n
        · have HP := Lib.hid (HE2.out.trans (if_pos (.inr h2)))
          go_wp2_with fail
          go_ret2
          exact ⟨by rw [HP.out]; rfl, ext_trans HX.out HB.out⟩
        · have HP := Lib.hid (HE2.out.trans (if_neg (by omega)))
          have HPt := Lib.hid (fun w => refpart_any z1 n 4 w)
          obtain ⟨rp, hrp⟩ : ∃ rp : Int × Nat, rp = partV z1 n 4 := ⟨_, rfl⟩
          rw [← hrp] at HPt HP
          clear hrp HE2
          obtain ⟨pz, pc⟩ := rp
          simp only at HPt
          have a7 := HLr2.out.blk.cell 7 rfl
          go_wp2_with fail
          go_quiet ((go_at_call 53; exact Calls.quiet_of_same ((HPt.out _).mono fun e w' h => ⟨h.1, h.2.symm⟩)))
          go_wp2_with fail
          go_ret2
          exact ⟨by rw [HP.out] <;> rfl, ext_trans (ext_trans HX.out HB.out) (ext_drewN _ _)⟩
    · simp only at e1 e2
      subst e2
      have hpos : decide ((0 : Int) < (c1 : Int)) = true := decide_eq_true (by omega)
      have HE2 := Lib.hid (HE.out.trans (if_pos e1))
      clear hok HE
      go_wp2_with fail
      go_ret2
      exact ⟨by rw [HE2.out]; rfl, ext_trans HX.out HB.out⟩
/-- what two sums make -/
def mixF (k : List UInt8) : Option (Int → Int → Int × Nat) := if k = [43] then some fun a b => goodF (a + b) else if k = [45] then some fun a b => goodF (a - b) else if k = [109, 97, 120] then some fun a b => (max a b, 0) else if k = [109, 105, 110] then some fun a b => (min a b, 0) else none
set_option maxRecDepth 100000 in
set_option maxHeartbeats 8000000 in
theorem rtwo {q : Ask} (hq : Okq q) (fb lb : Nat) (who : Int) (X : Nat → Prop) (d : Nat) (IH : IHR q fb X d) (k s : List UInt8) (n : Int) (A : Option Addr) (c : Nat) (xk xs : List UInt8) (xn : Int) (xA : Option Addr) (xc : Nat) (xl : List Nd) (yk ys : List UInt8) (yn : Int) (yA : Option Addr) (yc : Nat) (yl : List Nd) (f : Int → Int → Int × Nat) (hf : mixF k = some f) (rr r2 : Int × Nat) (hrr : rr = evS d q (.mk xk xs xn xA xc xl) who) (hr2 : r2 = evS d q (.mk yk ys yn yA yc yl) who) (w : World) (hN : InW w X (d + 1) (.mk k s n A c [.mk xk xs xn xA xc xl, .mk yk ys yn yA yc yl])) (hLr : Lr q fb lb who w) (hLf : Lf q fb w) :
    Calls Tryz.prog 54 #[.pointer (some ⟨lb, 0, none⟩), .agg #[.string ⟨k.toArray⟩, .string ⟨s.toArray⟩, .int .i64 n, .slice A 2 c]] w (RPost (twoF f rr r2) w) := by
    have HF := Lib.hid hf
    have HRX := Lib.hid hrr
    have HRY := Lib.hid hr2
    have HIH := Lib.hid IH
    clear hf hrr hr2 IH
    have HN := Lib.hid hN
    have HLr0 := Lib.hid hLr
    have HLf0 := Lib.hid hLf
    obtain ⟨W, hW, hx, hbn⟩ := boxedR w k s n A c (2)
    have HX := Lib.hid hx
    have HBn := Lib.hid hbn
    have HNW := Lib.hid (hN.ext hx)
    have HLr := Lib.hid (hLr.ext hx)
    have HLf := Lib.hid (hLf.ext hx)
    have m0 := hbn.cell 0 rfl
    have m1 := hbn.cell 1 rfl
    have m2 := hbn.cell 2 rfl
    have m3 := hbn.cell 3 rfl
    clear hN hLr hLf hx hbn
    go_enter Tryz.func54, Tryz.ntmps54
    go_upto_region 1 with fail
    rw [show w.alloc (.cells #[.string ⟨k.toArray⟩, .string ⟨s.toArray⟩, .int .i64 n, .slice A 2 c] 25) = W from hW.symm]
    clear hW
    have HLrZ := HLr
    have HLfZ := HLf
    obtain ⟨b', o', hA, t0, t1, t2, t3, hkd⟩ := HNW.out.kid (i := 0) (by simp)
    simp only [List.getElem_cons_zero, Nd.kind, Nd.word, Nd.n, Nd.A, Nd.c, Nd.kids, Nat.zero_mul, Nat.add_zero] at t0 t1 t2 t3
    have HC := Lib.hid (fun wx (hb : Below W.heap.size W wx) => (by have h := HIH.out (.mk xk xs xn xA xc xl) who lb wx (hkd.ext hb) (HLrZ.out.ext hb) (HLfZ.out.ext hb); unfold ndV at h; exact h : Calls Tryz.prog 14 #[.pointer (some ⟨lb, 0, none⟩), .agg #[.string ⟨xk.toArray⟩, .string ⟨xs.toArray⟩, .int .i64 xn, .slice xA xl.length xc]] wx (RPost (evS d q (.mk xk xs xn xA xc xl) who) wx)))
    have hok := evS_ok hq d (.mk xk xs xn xA xc xl) who
    rw [← HRX.out] at HC hok
    obtain rfl : A = some ⟨b', o', none⟩ := hA
    clear hkd
    go_wp2_with fail
    refine (HC.out _ (Below.refl _ _)).mono ?_
    rintro e w2 ⟨rfl, hb⟩
    have HB := Lib.hid hb
    clear hb HC t0 t1 t2 t3 m0 m1 m2 m3 HLrZ HLfZ
    obtain ⟨z1, c1⟩ := rr
    rcases code_cases hok with e1 | ⟨e1, e2⟩
    rotate_left
    · simp only at e1 e2
      subst e2
      have hpos : decide ((0 : Int) < (c1 : Int)) = true := decide_eq_true (by omega)
      have HE2 := Lib.hid (show twoF f (0, c1) r2 = (0, c1) by unfold twoF; rw [if_pos e1])
      clear hok
      simp only
      go_wp2_with fail
      go_ret2
      exact ⟨by rw [HE2.out]; rfl, ext_trans HX.out HB.out⟩
    simp only at e1
    subst e1
    simp only
    have hpos : decide ((0 : Int) < ((0 : Nat) : Int)) = false := by simp
    obtain ⟨hb1, hb2⟩ := hok.1
    simp only at hb1 hb2
    clear hok
    have HLrZ := Lib.hid (HLr.out.ext HB.out)
    have HLfZ := Lib.hid (HLf.out.ext HB.out)
    obtain ⟨b', o', hA2, t0, t1, t2, t3, hkd⟩ := (HNW.out.ext HB.out).kid (i := 1) (by simp)
    simp only [List.getElem_cons_zero, List.getElem_cons_succ, Nd.kind, Nd.word, Nd.n, Nd.A, Nd.c, Nd.kids, Nat.one_mul] at t0 t1 t2 t3
    cases hA2
    have HC := Lib.hid (fun wx (hb : Below w2.heap.size w2 wx) => (by have h := HIH.out (.mk yk ys yn yA yc yl) who lb wx (hkd.ext hb) (HLrZ.out.ext hb) (HLfZ.out.ext hb); unfold ndV at h; exact h : Calls Tryz.prog 14 #[.pointer (some ⟨lb, 0, none⟩), .agg #[.string ⟨yk.toArray⟩, .string ⟨ys.toArray⟩, .int .i64 yn, .slice yA yl.length yc]] wx (RPost (evS d q (.mk yk ys yn yA yc yl) who) wx)))
    have hok := evS_ok hq d (.mk yk ys yn yA yc yl) who
    rw [← HRY.out] at HC hok
    clear hkd
    have m3 := cell_ext HB.out (HBn.out.cell 3 rfl)
    go_wp2_with fail
    refine (HC.out _ (Below.refl _ _)).mono ?_
    rintro e w3 ⟨rfl, hb⟩
    have HB3 := Lib.hid (ext_trans HB.out hb)
    clear hb HC t0 t1 t2 t3 m3 HLrZ HLfZ
    obtain ⟨z2, c2⟩ := r2
    rcases code_cases hok with e1 | ⟨e1, e2⟩
    rotate_left
    · simp only at e1 e2
      subst e2
      have hpos2 : decide ((0 : Int) < (c2 : Int)) = true := decide_eq_true (by omega)
      have HE2 := Lib.hid (show twoF f (z1, 0) (0, c2) = (0, c2) by unfold twoF; rw [if_neg (by simp), if_pos e1])
      clear hok
      simp only
      go_wp2_with fail
      go_ret2
      exact ⟨by rw [HE2.out]; rfl, ext_trans HX.out HB3.out⟩
    simp only at e1
    subst e1
    simp only
    obtain ⟨hb3, hb4⟩ := hok.1
    simp only at hb3 hb4
    have HE2 := Lib.hid (show twoF f (z1, 0) (z2, 0) = f z1 z2 by unfold twoF; rw [if_neg (by simp), if_neg (by simp)])
    clear hok
    have v0 := cell_ext HB3.out (HBn.out.cell 0 rfl)
    have hfo := HF.out
    unfold mixF at hfo
    by_cases hk : k = [43]
    · rw [if_pos hk] at hfo
      have HFf := Lib.hid (Option.some.inj hfo)
      have kb0 : (k == [43]) = true := by rw [hk]; decide
      have kb1 : (k == [45]) = false := by rw [hk]; decide
      have kb2 : (k == [109, 97, 120]) = false := by rw [hk]; decide
      clear hk hfo
      have HP := Lib.hid (HE2.out.trans (by rw [← HFf.out]) : _ = goodF (z1 + z2))
      have HGd := Lib.hid (rgood_any (z1 + z2) w3)
      go_wp2_with fail
      refine HGd.out.mono ?_
      rintro e w4 ⟨rfl, hb⟩
      have HB4 := Lib.hid (ext_trans HB3.out hb)
      clear hb HGd
      obtain ⟨rg, hrg⟩ : ∃ rg : Int × Nat, rg = goodF (z1 + z2) := ⟨_, rfl⟩
      rw [← hrg] at HP ⊢
      clear hrg
      obtain ⟨gz, gc⟩ := rg
      simp only
      go_wp2_with fail
      go_ret2
      exact ⟨by rw [HP.out] <;> rfl, ext_trans HX.out HB4.out⟩
    rw [if_neg hk] at hfo
    clear hk
    by_cases hk : k = [45]
    · rw [if_pos hk] at hfo
      have HFf := Lib.hid (Option.some.inj hfo)
      have kb0 : (k == [43]) = false := by rw [hk]; decide
      have kb1 : (k == [45]) = true := by rw [hk]; decide
      have kb2 : (k == [109, 97, 120]) = false := by rw [hk]; decide
      clear hk hfo
      have HP := Lib.hid (HE2.out.trans (by rw [← HFf.out]) : _ = goodF (z1 - z2))
      have HGd := Lib.hid (rgood_any (z1 - z2) w3)
      go_wp2_with fail
      refine HGd.out.mono ?_
      rintro e w4 ⟨rfl, hb⟩
      have HB4 := Lib.hid (ext_trans HB3.out hb)
      clear hb HGd
      obtain ⟨rg, hrg⟩ : ∃ rg : Int × Nat, rg = goodF (z1 - z2) := ⟨_, rfl⟩
      rw [← hrg] at HP ⊢
      clear hrg
      obtain ⟨gz, gc⟩ := rg
      simp only
      go_wp2_with fail
      go_ret2
      exact ⟨by rw [HP.out] <;> rfl, ext_trans HX.out HB4.out⟩
    rw [if_neg hk] at hfo
    clear hk
    by_cases hk : k = [109, 97, 120]
    · rw [if_pos hk] at hfo
      have HFf := Lib.hid (Option.some.inj hfo)
      have kb0 : (k == [43]) = false := by rw [hk]; decide
      have kb1 : (k == [45]) = false := by rw [hk]; decide
      have kb2 : (k == [109, 97, 120]) = true := by rw [hk]; decide
      clear hk hfo
      have HP := Lib.hid (HE2.out.trans (by rw [← HFf.out]) : _ = (max z1 z2, 0))
      by_cases hgt : z2 < z1
      · have hd : decide (z2 < z1) = true := by simpa using hgt
        have HM := Lib.hid (show max z1 z2 = z1 by omega)
        clear hgt
        go_wp2_with fail
        go_ret2
        exact ⟨by rw [HP.out, HM.out]; rfl, ext_trans HX.out HB3.out⟩
      · have hd : decide (z2 < z1) = false := by simpa using hgt
        have HM := Lib.hid (show max z1 z2 = z2 by omega)
        clear hgt
        go_wp2_with fail
        go_ret2
        exact ⟨by rw [HP.out, HM.out]; rfl, ext_trans HX.out HB3.out⟩
    rw [if_neg hk] at hfo
    clear hk
    by_cases hk : k = [109, 105, 110]
    · rw [if_pos hk] at hfo
      have HFf := Lib.hid (Option.some.inj hfo)
      have kb0 : (k == [43]) = false := by rw [hk]; decide
      have kb1 : (k == [45]) = false := by rw [hk]; decide
      have kb2 : (k == [109, 97, 120]) = false := by rw [hk]; decide
      clear hk hfo
      have HP := Lib.hid (HE2.out.trans (by rw [← HFf.out]) : _ = (min z1 z2, 0))
      by_cases hgt : z2 < z1
      · have hd : decide (z2 < z1) = true := by simpa using hgt
        have HM := Lib.hid (show min z1 z2 = z2 by omega)
        clear hgt
        go_wp2_with fail
        go_ret2
        exact ⟨by rw [HP.out, HM.out]; rfl, ext_trans HX.out HB3.out⟩
      · have hd : decide (z2 < z1) = false := by simpa using hgt
        have HM := Lib.hid (show min z1 z2 = z1 by omega)
        clear hgt
        go_wp2_with fail
        go_ret2
        exact ⟨by rw [HP.out, HM.out]; rfl, ext_trans HX.out HB3.out⟩
    rw [if_neg hk] at hfo
    clear hk
    cases hfo
set_option maxRecDepth 100000 in
set_option maxHeartbeats 8000000 in
theorem rsum_two {q : Ask} (hq : Okq q) (fb lb : Nat) (who : Int) (X : Nat → Prop) (d : Nat) (IH : IHR q fb X d) (k s : List UInt8) (n : Int) (A : Option Addr) (c : Nat) (xk xs : List UInt8) (xn : Int) (xA : Option Addr) (xc : Nat) (xl : List Nd) (yk ys : List UInt8) (yn : Int) (yA : Option Addr) (yc : Nat) (yl : List Nd) (f : Int → Int → Int × Nat) (hf : mixF k = some f) (w : World) (hN : InW w X (d + 1) (.mk k s n A c [.mk xk xs xn xA xc xl, .mk yk ys yn yA yc yl])) (hLr : Lr q fb lb who w) (hLf : Lf q fb w) :
    Calls Tryz.prog 14 #[.pointer (some ⟨lb, 0, none⟩), .agg #[.string ⟨k.toArray⟩, .string ⟨s.toArray⟩, .int .i64 n, .slice A 2 c]] w (RPost (evS (d + 1) q (.mk k s n A c [.mk xk xs xn xA xc xl, .mk yk ys yn yA yc yl]) who) w) := by
    obtain ⟨kb0, kb1, kb2, kb3, kb4, HE, HKs⟩ : (k == [110, 117, 109, 98, 101, 114]) = false ∧ (k == [110, 97, 109, 101]) = false ∧ (k == [99, 111, 117, 110, 116]) = false ∧ (k == [116, 111, 116, 97, 108]) = false ∧ (k == [42]) = false ∧ Hid (evS (d + 1) q (.mk k s n A c [.mk xk xs xn xA xc xl, .mk yk ys yn yA yc yl]) who = twoF f (evS d q (.mk xk xs xn xA xc xl) who) (evS d q (.mk yk ys yn yA yc yl) who)) ∧ Hid (k = [43] ∨ k = [45] ∨ k = [109, 97, 120] ∨ k = [109, 105, 110]) := by
      have h := hf
      unfold mixF at h
      by_cases hk : k = [43]
      · rw [if_pos hk] at h
        have e := Option.some.inj h
        refine ⟨by rw [hk]; decide, by rw [hk]; decide, by rw [hk]; decide, by rw [hk]; decide, by rw [hk]; decide, Lib.hid ?_, Lib.hid (by simp [hk])⟩
        rw [← e]
        (conv => lhs; unfold evS)
        rw [hk]
        simp [kNumber, kName, kCount, kTotal]
      rw [if_neg hk] at h
      clear hk
      by_cases hk : k = [45]
      · rw [if_pos hk] at h
        have e := Option.some.inj h
        refine ⟨by rw [hk]; decide, by rw [hk]; decide, by rw [hk]; decide, by rw [hk]; decide, by rw [hk]; decide, Lib.hid ?_, Lib.hid (by simp [hk])⟩
        rw [← e]
        (conv => lhs; unfold evS)
        rw [hk]
        simp [kNumber, kName, kCount, kTotal]
      rw [if_neg hk] at h
      clear hk
      by_cases hk : k = [109, 97, 120]
      · rw [if_pos hk] at h
        have e := Option.some.inj h
        refine ⟨by rw [hk]; decide, by rw [hk]; decide, by rw [hk]; decide, by rw [hk]; decide, by rw [hk]; decide, Lib.hid ?_, Lib.hid (by simp [hk])⟩
        rw [← e]
        (conv => lhs; unfold evS)
        rw [hk]
        simp [kNumber, kName, kCount, kTotal, kMax]
      rw [if_neg hk] at h
      clear hk
      by_cases hk : k = [109, 105, 110]
      · rw [if_pos hk] at h
        have e := Option.some.inj h
        refine ⟨by rw [hk]; decide, by rw [hk]; decide, by rw [hk]; decide, by rw [hk]; decide, by rw [hk]; decide, Lib.hid ?_, Lib.hid (by simp [hk])⟩
        rw [← e]
        (conv => lhs; unfold evS)
        rw [hk]
        simp [kNumber, kName, kCount, kTotal, kMax, kMin]
      rw [if_neg hk] at h
      clear hk
      cases h
    have HF := Lib.hid hf
    have HIH := Lib.hid IH
    clear hf IH
    have HWd := Lib.hid (fun w => rword_any s hN.2.2.1.2.2.2 w)
    obtain ⟨bw, hbw⟩ : ∃ bw, wordB s = bw := ⟨_, rfl⟩
    rw [hbw] at HWd
    have HBw := Lib.hid hbw
    clear hbw
    have HN := Lib.hid hN
    have HLr0 := Lib.hid hLr
    have HLf0 := Lib.hid hLf
    obtain ⟨W, hW, hx, hbn⟩ := boxedR w k s n A c (2)
    have HX := Lib.hid hx
    have HBn := Lib.hid hbn
    have HNW := Lib.hid (hN.ext hx)
    have HLr := Lib.hid (hLr.ext hx)
    have HLf := Lib.hid (hLf.ext hx)
    have m0 := hbn.cell 0 rfl
    have m1 := hbn.cell 1 rfl
    have m2 := hbn.cell 2 rfl
    have m3 := hbn.cell 3 rfl
    clear hN hLr hLf hx hbn
    go_enter Tryz.func14, Tryz.ntmps14
    go_upto_region 1 with fail
    rw [show w.alloc (.cells #[.string ⟨k.toArray⟩, .string ⟨s.toArray⟩, .int .i64 n, .slice A 2 c] 25) = W from hW.symm]
    clear hW
    go_wp2_with fail
    refine (HWd.out _).mono ?_
    rintro e w1 ⟨rfl, rfl⟩
    obtain ⟨rx, hrx⟩ : ∃ rx : Int × Nat, rx = evS d q (.mk xk xs xn xA xc xl) who := ⟨_, rfl⟩
    obtain ⟨ry, hry⟩ : ∃ ry : Int × Nat, ry = evS d q (.mk yk ys yn yA yc yl) who := ⟨_, rfl⟩
    have HC := Lib.hid (rtwo hq fb lb who X d HIH.out k s n A c xk xs xn xA xc xl yk ys yn yA yc yl f HF.out rx ry hrx hry W HNW.out HLr.out HLf.out)
    rw [← hrx, ← hry] at HE
    clear hrx hry
    obtain ⟨rr, hrr⟩ : ∃ rr : Int × Nat, rr = twoF f rx ry := ⟨_, rfl⟩
    rw [← hrr] at HC HE
    clear hrr
    obtain ⟨rz, rc⟩ := rr
    unfold RPost at HC
    simp only at HC
    rcases HKs.out with hk | hk | hk | hk
    · have kb5 : (k == [43]) = true := by rw [hk]; decide
      have kb6 : (k == [45]) = false := by rw [hk]; decide
      have kb7 : (k == [109, 97, 120]) = false := by rw [hk]; decide
      have kb8 : (k == [109, 105, 110]) = false := by rw [hk]; decide
      clear hk
      go_wp2_with fail
      refine HC.out.mono ?_
      rintro e w2 ⟨rfl, hb⟩
      have HB := Lib.hid hb
      clear hb HC
      go_wp2_with fail
      go_ret2
      exact ⟨by rw [HE.out] <;> rfl, ext_trans HX.out HB.out⟩
    · have kb5 : (k == [43]) = false := by rw [hk]; decide
      have kb6 : (k == [45]) = true := by rw [hk]; decide
      have kb7 : (k == [109, 97, 120]) = false := by rw [hk]; decide
      have kb8 : (k == [109, 105, 110]) = false := by rw [hk]; decide
      clear hk
      go_wp2_with fail
      refine HC.out.mono ?_
      rintro e w2 ⟨rfl, hb⟩
      have HB := Lib.hid hb
      clear hb HC
      go_wp2_with fail
      go_ret2
      exact ⟨by rw [HE.out] <;> rfl, ext_trans HX.out HB.out⟩
    · have kb5 : (k == [43]) = false := by rw [hk]; decide
      have kb6 : (k == [45]) = false := by rw [hk]; decide
      have kb7 : (k == [109, 97, 120]) = true := by rw [hk]; decide
      have kb8 : (k == [109, 105, 110]) = false := by rw [hk]; decide
      clear hk
      go_wp2_with fail
      refine HC.out.mono ?_
      rintro e w2 ⟨rfl, hb⟩
      have HB := Lib.hid hb
      clear hb HC
      go_wp2_with fail
      go_ret2
      exact ⟨by rw [HE.out] <;> rfl, ext_trans HX.out HB.out⟩
    · have kb5 : (k == [43]) = false := by rw [hk]; decide
      have kb6 : (k == [45]) = false := by rw [hk]; decide
      have kb7 : (k == [109, 97, 120]) = false := by rw [hk]; decide
      have kb8 : (k == [109, 105, 110]) = true := by rw [hk]; decide
      clear hk
      go_wp2_with fail
      refine HC.out.mono ?_
      rintro e w2 ⟨rfl, hb⟩
      have HB := Lib.hid hb
      clear hb HC
      go_wp2_with fail
      go_ret2
      exact ⟨by rw [HE.out] <;> rfl, ext_trans HX.out HB.out⟩
theorem rsum_any {q : Ask} (hq : Okq q) (fb : Nat) (X : Nat → Prop) : ∀ d, IHR q fb X d
  | 0 => fun _ _ _ _ h _ _ => h.elim
  | d + 1 => fun x who lb w hN hLr hLf => by
    have IH := rsum_any hq fb X d
    obtain ⟨k, s, n, A, c, l⟩ := x
    by_cases hb : kidsG k = some (l.length : Int)
    · match l, hN, hb with
      | [], hN, hb =>
        rcases kids_which hb with ⟨_, h | h | h⟩ | ⟨h0, _⟩ | ⟨h0, _⟩
        · exact rsum_number hq fb lb who X d k s n A c h w hN hLr hLf
        · exact rsum_name hq fb lb who X d k s n A c h w hN hLr hLf
        · exact rsum_count hq fb lb who X d k s n A c h w hN hLr hLf
        · simp at h0
        · simp at h0
      | [.mk xk xs xn xA xc xl], hN, hb =>
        rcases kids_which hb with ⟨h0, _⟩ | ⟨_, h | h⟩ | ⟨h0, _⟩
        · simp at h0
        · exact rsum_total hq fb lb who X d k s n A c xk xs xn xA xc xl h w hN hLr hLf
        · exact rsum_times hq fb lb who X d IH k s n A c xk xs xn xA xc xl h w hN hLr hLf
        · simp at h0
      | [.mk xk xs xn xA xc xl, .mk yk ys yn yA yc yl], hN, hb =>
        rcases kids_which hb with ⟨h0, _⟩ | ⟨h0, _⟩ | ⟨_, h | h | h | h⟩
        · simp at h0
        · simp at h0
        · exact rsum_two hq fb lb who X d IH k s n A c xk xs xn xA xc xl yk ys yn yA yc yl _ (by rw [h]; rfl) w hN hLr hLf
        · exact rsum_two hq fb lb who X d IH k s n A c xk xs xn xA xc xl yk ys yn yA yc yl _ (by rw [h]; rfl) w hN hLr hLf
        · exact rsum_two hq fb lb who X d IH k s n A c xk xs xn xA xc xl yk ys yn yA yc yl _ (by rw [h]; rfl) w hN hLr hLf
        · exact rsum_two hq fb lb who X d IH k s n A c xk xs xn xA xc xl yk ys yn yA yc yl _ (by rw [h]; rfl) w hN hLr hLf
      | _ :: _ :: _ :: t, _, hb =>
        rcases kids_which hb with ⟨h0, _⟩ | ⟨h0, _⟩ | ⟨h0, _⟩ <;> (simp at h0; try omega)
    · rw [evS_bad hb]
      exact rsum_bad hq fb lb who X d k s n A c l l.length rfl hb w hN hLr hLf
end Go.Proofs.YtnchlnfenebomaaGreatDoor.Hd

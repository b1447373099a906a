/- An amount read from a text: the document's ReadCoin. -/
import Derived.Test.YtpbmamcmmogidaaDoorCnW
import Derived.Test.YtpbmamcmmogidaaDoorCrP
namespace Go.Proofs.YtpbmamcmmogidaaDoor.Cn
open Go.RowKit Mem Rd Err Flt Nest

theorem rdigit_any (n : Int) (w : World) : Calls Tryd.prog 82 #[.int .u8 n] w (InB 48 57 n w) := by
  by_cases h1 : 48 ≤ n
  · by_cases h2 : n ≤ 57
    · go_enter Tryd.func82, Tryd.ntmps82
      go_wp2_with fail
      go_ret
      exact ⟨_, rfl, rfl, by simp [h1, h2]⟩
    · go_enter Tryd.func82, Tryd.ntmps82
      go_wp2_with fail
      go_ret
      exact ⟨_, rfl, rfl, by simp; omega⟩
  · go_enter Tryd.func82, Tryd.ntmps82
    go_wp2_with fail
    go_ret
    exact ⟨_, rfl, rfl, by simp; omega⟩
theorem rsmall_any (n : Int) (w : World) : Calls Tryd.prog 149 #[.int .i64 n] w (InB (-1000000000000) 1000000000000 n w) := by
  by_cases h1 : n ≤ 1000000000000
  · by_cases h2 : -1000000000000 ≤ n
    · go_enter Tryd.func149, Tryd.ntmps149
      go_wp2_with fail
      go_ret
      exact ⟨_, rfl, rfl, by simp [h1, h2]⟩
    · go_enter Tryd.func149, Tryd.ntmps149
      go_wp2_with fail
      go_ret
      exact ⟨_, rfl, rfl, by simp; omega⟩
  · go_enter Tryd.func149, Tryd.ntmps149
    go_wp2_with fail
    go_ret
    exact ⟨_, rfl, rfl, by simp; omega⟩
/-- the place of the document's answer -/
def FW (w wr : World) : Prop := Blk wr w.heap.size 36 [.int .i64 0, .int .i64 0] ∧ Below w.heap.size w wr
theorem f_ret {w wr : World} (h : FW w wr) (c a : Int) :
    ((wr.setCell ⟨w.heap.size, 0, none⟩ (.int .i64 c)).setCell ⟨w.heap.size, 1, none⟩ (.int .i64 a)).cell? ⟨w.heap.size, 0, none⟩ = some (.int .i64 c) ∧
    ((wr.setCell ⟨w.heap.size, 0, none⟩ (.int .i64 c)).setCell ⟨w.heap.size, 1, none⟩ (.int .i64 a)).cell? ⟨w.heap.size, 1, none⟩ = some (.int .i64 a) ∧
    Below w.heap.size w ((wr.setCell ⟨w.heap.size, 0, none⟩ (.int .i64 c)).setCell ⟨w.heap.size, 1, none⟩ (.int .i64 a)) := by
  have hb := (h.1.set 0 (.int .i64 c)).set 1 (.int .i64 a)
  exact ⟨hb.cell 0 rfl, hb.cell 1 rfl, (h.2.setCell (by simp) _).setCell (by simp) _⟩
def RCrd (s : List UInt8) (w : World) (e : Ending) (w' : World) : Prop := e = .returned (.tuple #[.int .i64 (coinF s).2.2, .agg #[.int .i64 (coinF s).1, .int .i64 (coinF s).2.1]]) ∧ Below w.heap.size w w'
theorem rcrd_of {s : List UInt8} {w w' : World} {o : Int × Int × Int} (ho : coinF s = o) (hb : Below w.heap.size w w') : RCrd s w (.returned (.tuple #[.int .i64 o.2.2, .agg #[.int .i64 o.1, .int .i64 o.2.1]])) w' :=
  ⟨by rw [ho], hb⟩
theorem neg_first (s : List UInt8) : neg s = true ↔ ∃ h : 0 < s.length, (s[0].toNat : Int) = 45 := by
  cases s with
  | nil => simp [neg]
  | cons c t =>
    simp only [neg, List.head?_cons, List.length_cons, List.getElem_cons_zero]
    constructor
    · intro h
      have : c = 45 := by simpa using h
      subst this; exact ⟨by omega, rfl⟩
    · rintro ⟨_, h⟩
      have : c = 45 := UInt8.toNat.inj (by simp; omega)
      simp [this]
theorem at_body {s b : List UInt8} {f i : Nat} (hb : b = body s) (hf : f = skip s) (h1 : f ≤ i) (h2 : i < s.length) : ∃ h : i - f < b.length, b[i - f] = s[i] := by
  subst hb hf
  have hl : i - skip s < (body s).length := by rw [body_len]; omega
  refine ⟨hl, ?_⟩
  have := body_at s (i - skip s)
  rw [show skip s + (i - skip s) = i by omega, List.getElem?_eq_getElem hl, List.getElem?_eq_getElem h2] at this
  exact Option.some.inj this
theorem start_not {b : List UInt8} {k : Nat} (h : k < b.length) (hk : k = 0) (hd : isD b[k] = false) : startB b = false := by
  subst hk
  cases b with
  | nil => simp at h
  | cons c t => exact hd
/-- the digits behind the dot, so far -/
def cval (r : List UInt8) (k : Nat) : Int := if k = 1 then 0 else if k = 2 then (dv (r.getD 1 0) : Nat) else ((dv (r.getD 1 0) * 10 + dv (r.getD 2 0) : Nat) : Int)
theorem cval_next {r : List UInt8} {k : Nat} {ct ci : Int} {x : UInt8} (h1 : 1 ≤ k) (h2 : k ≤ 2) (hc : ct = cval r k) (hr : r[k]? = some x) (hx : (x.toNat : Int) = ci) (h48 : 48 ≤ ci) : ct * 10 + (ci - 48) = cval r (k + 1) := by
  have hd : ((dv x : Nat) : Int) = ci - 48 := by unfold dv; omega
  rcases (show k = 1 ∨ k = 2 by omega) with rfl | rfl
  · have e : r.getD 1 0 = x := by rw [List.getD_eq_getElem?_getD, hr]; rfl
    rw [hc, ← hd]
    show (0 : Int) * 10 + _ = ((dv (r.getD 1 0) : Nat) : Int)
    rw [e]; omega
  · have e : r.getD 2 0 = x := by rw [List.getD_eq_getElem?_getD, hr]; rfl
    rw [hc, ← hd]
    show ((dv (r.getD 1 0) : Nat) : Int) * 10 + _ = ((dv (r.getD 1 0) * 10 + dv (r.getD 2 0) : Nat) : Int)
    rw [e]; omega
theorem cval_small {r : List UInt8} {k : Nat} {ct ci : Int} (h : k = 1) (hc : ct = cval r k) (hb : ci ≤ 57) : ct * 10 + (ci - 48) ≤ 9 := by
  subst h
  rw [hc]
  show (0 : Int) * 10 + (ci - 48) ≤ 9
  omega
theorem len_end {r : List UInt8} {k i n : Nat} (h : ∀ q, 1 ≤ q → q < k → digAt r q = true) (h1 : 1 ≤ k) (h2 : k ≤ 2) (hin : ¬ i + k < n) (hr : r.length = n - i) (hne : r ≠ []) : n = i + k := by
  have hp : 0 < r.length := List.length_pos_iff.2 hne
  rcases (show k = 1 ∨ k = 2 by omega) with rfl | rfl
  · omega
  · have := dig_len (h 1 (by omega) (by omega)); omega
theorem start_stop {b : List UInt8} (h : ∀ h : 0 < b.length, isDC b[0] = false) : startB b = false := by
  cases b with
  | nil => rfl
  | cons c t =>
    have := h (by simp)
    simp only [List.getElem_cons_zero, isDC, Bool.or_eq_false_iff] at this
    exact this.1
end Go.Proofs.YtpbmamcmmogidaaDoor.Cn

/- The law CoinText answers true: the walk. -/
import Derived.Test.YtdfajigepchccaaDoorCnR
import Derived.Test.YtdfajigepchccaaDoorCnW
namespace Go.Proofs.YtdfajigepchccaaDoor.CoinText
open Go.RowKit Mem Rd Tabs Cn Flt Err

theorem small_any (n : Int) (w : World) : Calls Tryd.prog 28 #[.int .i64 n] w (Cn.InB (-1000000000000) 1000000000000 n w) := by
  by_cases h1 : n ≤ 1000000000000
  · by_cases h2 : -1000000000000 ≤ n
    · go_enter Tryd.func28, Tryd.ntmps28
      go_wp2_with fail
      go_ret
      exact ⟨_, rfl, rfl, by simp [h1, h2]⟩
    · go_enter Tryd.func28, Tryd.ntmps28
      go_wp2_with fail
      go_ret
      exact ⟨_, rfl, rfl, by simp; omega⟩
  · go_enter Tryd.func28, Tryd.ntmps28
    go_wp2_with fail
    go_ret
    exact ⟨_, rfl, rfl, by simp; omega⟩
theorem first_text : coinT (-5) = [45, 48, 46, 48, 53] := by
  unfold coinT
  rw [show (-5 : Int).natAbs / 100 = 0 from rfl, dec_small (by omega)]
  rfl
theorem coinT_len (n : Int) (h0 : -9223372036854775808 ≤ n) (h1 : n ≤ 9223372036854775807) : (coinT n).length ≤ 100 := by
  have he : ∀ (l : List UInt8) (j : Nat), (emit l j).length ≤ 2 * l.length := by
    intro l
    induction l with
    | nil => intro j; simp [emit]
    | cons c t ih =>
      intro j
      unfold emit
      have := ih j
      split <;> simp <;> omega
  have hd := (dec_wide 19 (n.natAbs / 100) (by omega)).1
  have := he (Lib.decDigits (n.natAbs / 100)) 0
  unfold coinT
  split <;> simp [pad_len] <;> omega
set_option maxRecDepth 100000 in
set_option maxHeartbeats 2000000 in
theorem walk (n : Int) (h0 : -9223372036854775808 ≤ n) (h1 : n ≤ 9223372036854775807) (A : Nat → Addr) (rv : Value) (m : Int) (w : World) (hE : CE w A rv m) (hp : Pow w) :
    Calls Tryd.prog 6 #[.int .i64 n] w fun e w' => e = .returned (.bool true) ∧ Below w.heap.size w w' := by
  have HE := Lib.hid hE
  have HP := Lib.hid hp
  clear hE hp
  have HF := Lib.hid (fun w hp => ctext_any (-5) (by omega) (by omega) w hp)
  have HT := Lib.hid (fun w hp => ctext_any n h0 h1 w hp)
  have HR := Lib.hid (fun w => rtext_any n h0 h1 w)
  have HBk := Lib.hid (coin_back n)
  rw [first_text] at HF
  obtain ⟨l, hl⟩ : ∃ l, l = coinT n := ⟨_, rfl⟩
  have hll : l.length ≤ 100 := by rw [hl]; exact coinT_len n h0 h1
  rw [← hl] at HT HR HBk
  clear hl h0 h1
  go_enter Tryd.func6, Tryd.ntmps6
  go_wp2_with fail
  refine (HF.out _ HP.out).mono ?_
  rintro e w1 ⟨rfl, hb1⟩
  have HB1 := Lib.hid hb1
  clear hb1 HF
  go_wp2_with fail
  refine (HT.out _ (HP.out.ext HB1.out)).mono ?_
  rintro e w2 ⟨rfl, hb2⟩
  have HB2 := Lib.hid (ext_trans HB1.out hb2)
  clear hb2 HT
  go_wp2_with fail
  refine (HR.out _).mono ?_
  rintro e w3 ⟨rfl, hb3⟩
  have HB3 := Lib.hid (ext_trans HB2.out hb3)
  clear hb3 HR
  go_wp2_with fail
  refine (small_any n _).mono ?_
  rintro e w4 ⟨sm, rfl, hw4, hsm⟩
  subst hw4
  have HSm := Lib.hid hsm
  clear hsm
  go_wp2_with fail
  refine (cread_any l A rv m _ (by omega) (HE.out.ext HB3.out)).mono ?_
  rintro e w5 ⟨v, rfl, hpe, hb5⟩
  have HB5 := Lib.hid (ext_trans HB3.out hb5)
  rw [HBk.out] at hpe ⊢
  clear hb5
  unfold backF at hpe ⊢
  cases sm
  · have hn : ¬ n.natAbs ≤ 1000000000000 := fun h => by have := HSm.out.2 (by omega); cases this
    rw [if_neg hn] at hpe ⊢
    rcases hpe with ⟨h, _⟩ | ⟨c, hc, _, b, rfl, _⟩
    · simp at h
    · unfold faultV
      go_wp2_with fail
      go_ret
      exact ⟨rfl, HB5.out⟩
  · have hn : n.natAbs ≤ 1000000000000 := by have := HSm.out.1 rfl; omega
    rw [if_pos hn] at hpe ⊢
    rcases hpe with ⟨_, rfl⟩ | ⟨c, hc, h, _⟩
    · go_wp2_with fail
      go_ret
      exact ⟨rfl, HB5.out⟩
    · simp at h; omega
end Go.Proofs.YtdfajigepchccaaDoor.CoinText

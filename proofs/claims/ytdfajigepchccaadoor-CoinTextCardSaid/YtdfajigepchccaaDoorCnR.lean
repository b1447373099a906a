/- A number's text as an amount: the document's CoinText. -/
import Derived.Test.YtdfajigepchccaaDoorCnT
import Derived.Laws.IdiomStrings
namespace Go.Proofs.YtdfajigepchccaaDoor.Cn
open Go.RowKit Mem Rd Tabs

def chr (d : Nat) : UInt8 := UInt8.ofNat (48 + d)
/-- what the document has behind so many digits -/
def rOut (u k : Nat) : List UInt8 := if k ≤ 2 then pad k u else emit (pad (k - 2) (u / 100)) 0 ++ 46 :: pad 2 u
theorem rOut_lo {u k : Nat} (h : k < 2) : rOut u (k + 1) = chr (u / 10 ^ k % 10) :: rOut u k := by
  unfold rOut
  rw [if_pos (by omega), if_pos (by omega), pad_front]
  rfl
theorem rOut_dot (u : Nat) : rOut u 3 = chr (u / 10 ^ 2 % 10) :: 46 :: rOut u 2 := rfl
theorem rOut_hi {u k : Nat} (h : 2 < k) : rOut u (k + 1) = chr (u / 10 ^ k % 10) :: ((if (k - 2) % 3 = 0 then [44] else []) ++ rOut u k) := by
  unfold rOut
  rw [if_neg (show ¬ k + 1 ≤ 2 by omega), if_neg (show ¬ k ≤ 2 by omega)]
  obtain ⟨m, rfl⟩ : ∃ m, k = m + 2 := ⟨k - 2, by omega⟩
  have e1 : m + 2 + 1 - 2 = m + 1 := by omega
  have e2 : m + 2 - 2 = m := by omega
  rw [e1, e2, pad_front]
  have e3 : u / 100 / 10 ^ m = u / 10 ^ (m + 2) := by rw [Nat.div_div_eq_div_mul, Nat.pow_add, Nat.mul_comm]
  rw [e3]
  conv => lhs; unfold emit
  rw [pad_len]
  have e4 : (0 < 0 + m ∧ (0 + m) % 3 = 0) ↔ m % 3 = 0 := by omega
  simp only [e4, List.cons_append, List.append_assoc]
  rfl
theorem rOut_len (u : Nat) : ∀ k, (rOut u k).length ≤ 2 * k
  | 0 => by simp [rOut, pad]
  | 1 => by simp [rOut, pad_len]
  | 2 => by simp [rOut, pad_len]
  | k + 3 => by
    by_cases h : k = 0
    · subst h; rw [rOut_dot]; simp [rOut, pad_len]
    · rw [rOut_hi (by omega)]
      have := rOut_len u (k + 2)
      split <;> simp <;> omega
theorem rOut_end {u k : Nat} (h3 : 3 ≤ k) (h : u / 10 ^ k = 0) (hm : 3 < k → u / 10 ^ (k - 1) ≠ 0) : rOut u k = emit (Lib.decDigits (u / 100)) 0 ++ 46 :: pad 2 (u % 100) := by
  unfold rOut
  rw [if_neg (by omega)]
  obtain ⟨m, rfl⟩ : ∃ m, k = m + 1 + 2 := ⟨k - 3, by omega⟩
  have hp : ∀ j, 0 < 10 ^ j := fun j => Nat.pow_pos (by omega)
  have e0 : ∀ j, 10 ^ (j + 2) = 10 ^ j * 100 := fun j => by rw [Nat.pow_add]
  rw [show m + 1 + 2 - 2 = m + 1 by omega, pad_dec m (u / 100) (by
    have h' := (Nat.div_eq_zero_iff.1 h).resolve_left (by have := hp (m + 1 + 2); omega)
    rw [e0 (m + 1)] at h'
    exact Nat.div_lt_of_lt_mul (by rw [Nat.mul_comm]; exact h')) (by
    by_cases c : m = 0
    · exact .inl c
    · right
      have h' := hm (by omega)
      rw [show m + 1 + 2 - 1 = m + 2 by omega] at h'
      have h2 : 10 ^ (m + 2) ≤ u := by
        rcases Nat.lt_or_ge u (10 ^ (m + 2)) with c | c
        · exact absurd (Nat.div_eq_of_lt c) h'
        · exact c
      rw [e0 m] at h2
      exact (Nat.le_div_iff_mul_le (by omega)).2 h2)]
  have e5 : pad 2 u = pad 2 (u % 100) := by
    show [UInt8.ofNat (48 + u / 10 % 10), UInt8.ofNat (48 + u % 10)] = [UInt8.ofNat (48 + u % 100 / 10 % 10), UInt8.ofNat (48 + u % 100 % 10)]
    rw [show u % 100 / 10 % 10 = u / 10 % 10 by omega, show u % 100 % 10 = u % 10 by omega]
  rw [e5]
theorem next_div (u k : Nat) : u / 10 ^ k / 10 = u / 10 ^ (k + 1) := by rw [Nat.div_div_eq_div_mul, ← Nat.pow_succ]
theorem small_k {u k : Nat} (h64 : u < 10 ^ 19) (hm : 3 < k → u / 10 ^ (k - 1) ≠ 0) : k ≤ 19 := by
  rcases Nat.lt_or_ge 19 k with c | c
  · exfalso
    refine hm (by omega) (Nat.div_eq_of_lt (Nat.lt_of_lt_of_le h64 (Nat.pow_le_pow_right (by omega) (by omega))))
  · exact c
/-- one byte as a string -/
theorem one_byte (z : Int) (c : UInt8) (hz : z = (c.toNat : Int)) (w : World) : (convert 76 9 (.slice (some ⟨w.heap.size, 0, none⟩) 1 1)).run Tryd.prog (w.alloc (.cells #[.int .u8 z] 5)) = .ok (.string ⟨#[c]⟩) (w.alloc (.cells #[.int .u8 z] 5)) :=
  run_convert_bytes_back _ 76 9 5 ⟨w.heap.size, 0, none⟩ 1 [c] Tryd.underlying76 Tryd.underlying5 Tryd.underlying9 (fun j hj => by
    obtain rfl : j = 0 := by simp at hj; exact hj
    rw [show (⟨w.heap.size, 0, none⟩ : Addr).add 0 = ⟨w.heap.size, 0, none⟩ from rfl, World.cell?_alloc_at _ _ _ _ rfl, hz]
    rfl)
theorem chr_nat (d : Nat) (h : d < 10) : ((chr d).toNat : Int) = 48 + d := by unfold chr; simp; omega
/-- the state of the document's loop -/
def RSt (u k : Nat) (c : Int) (out : List UInt8) : Prop := c = ((u / 10 ^ k : Nat) : Int) ∧ out = rOut u k ∧ (3 < k → u / 10 ^ (k - 1) ≠ 0)
theorem RSt.next {u k : Nat} {c : Int} {out : List UInt8} (h : RSt u k c out) (hg : c ≠ 0 ∨ k < 3) (out' : List UInt8) (ho : out' = rOut u (k + 1)) : RSt u (k + 1) (c / 10) out' := by
  obtain ⟨h1, h2, h3⟩ := h
  refine ⟨by rw [h1, ← next_div]; omega, ho, fun hk => ?_⟩
  rw [show k + 1 - 1 = k by omega]
  rcases hg with hg | hg
  · rw [h1] at hg; omega
  · omega
theorem RSt.dig {u k : Nat} {c : Int} {out : List UInt8} (h : RSt u k c out) : 48 + c % 10 = ((chr (u / 10 ^ k % 10)).toNat : Int) := by
  rw [chr_nat _ (Nat.mod_lt _ (by omega)), h.1]; omega
set_option maxRecDepth 100000 in
set_option maxHeartbeats 8000000 in
theorem rtext_pos (n : Int) (h0 : 0 ≤ n) (h1 : n ≤ 9223372036854775807) (w : World) :
    Calls Tryd.prog 27 #[.int .i64 (n)] w (StrPost (coinT (n)) w) := by
  obtain ⟨u, hu⟩ : ∃ u : Nat, n = u := ⟨n.toNat, by omega⟩
  have HC := Lib.hid (show coinT (n) = [] ++ emit (Lib.decDigits (u / 100)) 0 ++ 46 :: pad 2 (u % 100) by
    unfold coinT
    rw [show (n).natAbs = u by omega, if_neg (by omega)])
  have hu19 : u < 10 ^ 19 := by omega
  have H19 := Lib.hid hu19
  have HS0 := Lib.hid (show RSt u 0 n [] from ⟨by rw [hu]; simp, rfl, fun h => absurd h (by omega)⟩)
  clear hu hu19
  have hnb : n ≤ 9223372036854775808 := by omega
  go_enter Tryd.func27, Tryd.ntmps27
  go_wp2_with fail
  go_loopw [0, 4, 5] (fun s0 s4 s5 wr => ∃ (k : Nat) (c : Int) (out : List UInt8), s5 = .int .i64 k ∧ s0 = .int .i64 (c) ∧ s4 = .string ⟨out.toArray⟩ ∧ 0 ≤ c ∧ c ≤ n ∧ Hid (RSt u k c out) ∧ Hid (Below w.heap.size w wr)) (fun _ _ s5 _ => (19 - intOf s5).toNat)
  case atStart => exact ⟨0, n, [], rfl, rfl, rfl, by omega, by omega, HS0.out, Below.refl _ _⟩
  case round =>
    clear HS0
    obtain ⟨k, c, out, rfl, rfl, rfl, hc0, hcn, HSt, HB⟩ := hrel
    have hk19 := small_k H19.out HSt.out.2.2
    have hkc : (k : Int) ≤ 19 := by omega
    have hkc0 : (0 : Int) ≤ (k : Int) := by omega
    have hol : out.length ≤ 40 := by have := rOut_len u k; rw [HSt.out.2.1]; omega
    have HB2 := Lib.hid (ext_trans HB.out (ext_alloc wr (.cells #[.int .u8 (48 + c % 10)] 5)))
    obtain ⟨eb, heb⟩ : ∃ eb : ByteArray, eb = ⟨#[chr (u / 10 ^ k % 10)]⟩ := ⟨_, rfl⟩
    have hcv := one_byte (48 + c % 10) (chr (u / 10 ^ k % 10)) HSt.out.dig wr
    rw [← heb] at hcv
    have hes : eb.size = 1 := by rw [heb]; rfl
    have HEb := Lib.hid heb
    clear heb
    have hm0 : 0 ≤ c % 10 := by omega
    have hm1 : c % 10 ≤ 9 := by omega
    have hd0 : 0 ≤ c / 10 := by omega
    have hdn : c / 10 ≤ n := by omega
    have hu8 : IntKind.u8.wrap (48 + c % 10) = 48 + c % 10 := IntWalk.u8_in _ (by omega)
    by_cases hgo : c ≠ 0 ∨ k < 3
    · have HGo := Lib.hid hgo
      have HK := Lib.hid (show k + 1 ≤ 19 from small_k H19.out (HSt.out.next hgo _ rfl).2.2)
      have hk1 := HK.out
      by_cases hcz : c = 0
      · have hz : (c == 0) = true := by simp [hcz]
        have hz2 : (c != 0) = false := by simp [hcz]
        have hk3 : k < 3 := by omega
        have hk3c : (k : Int) < 3 := by omega
        rw [show (48 + c % 10 : Int) = 48 by omega] at hcv HB2
        clear hgo
        by_cases hk2 : k < 2
        · have hk2b : ((k : Int) == 2) = false := by rw [beq_eq_false_iff_ne]; omega
          have hk2c : ¬ (2 : Int) < (k : Int) := by omega
          have HOut := Lib.hid (rOut_lo (u := u) hk2)
          clear hk2
          go_wp2_with fail
          go_roundw
          case rel => exact ⟨k + 1, c / 10, chr (u / 10 ^ k % 10) :: out, by go_num, by rw [show c / 10 = 0 by omega], by rw [HEb.out, ba_cat]; rfl, by omega, by omega, HSt.out.next HGo.out _ (by rw [HOut.out, HSt.out.2.1]), HB2.out⟩
          case measure => simp [intOf]; omega
        · by_cases hke : k = 2
          · subst hke
            go_wp2_with fail
            go_roundw
            case rel => exact ⟨2 + 1, c / 10, chr (u / 10 ^ 2 % 10) :: 46 :: out, by rfl, by rw [show c / 10 = 0 by omega], by rw [HEb.out, ba_cat, ba_cat]; rfl, by omega, by omega, HSt.out.next HGo.out _ (by rw [HSt.out.2.1]; rfl), HB2.out⟩
            case measure => simp [intOf]
          · exfalso; omega
      · have hz : (c == 0) = false := by rw [beq_eq_false_iff_ne]; omega
        have hz2 : (c != 0) = true := by rw [bne_iff_ne]; omega
        clear hgo
        by_cases hk2 : k < 2
        · have hk2b : ((k : Int) == 2) = false := by rw [beq_eq_false_iff_ne]; omega
          have hk2c : ¬ (2 : Int) < (k : Int) := by omega
          have HOut := Lib.hid (rOut_lo (u := u) hk2)
          clear hk2
          go_wp2_with fail
          go_roundw
          case rel => exact ⟨k + 1, c / 10, chr (u / 10 ^ k % 10) :: out, by go_num, rfl, by rw [HEb.out, ba_cat]; rfl, by omega, by omega, HSt.out.next HGo.out _ (by rw [HOut.out, HSt.out.2.1]), HB2.out⟩
          case measure => simp [intOf]; omega
        · by_cases hke : k = 2
          · subst hke
            go_wp2_with fail
            go_roundw
            case rel => exact ⟨2 + 1, c / 10, chr (u / 10 ^ 2 % 10) :: 46 :: out, by rfl, rfl, by rw [HEb.out, ba_cat, ba_cat]; rfl, by omega, by omega, HSt.out.next HGo.out _ (by rw [HSt.out.2.1]; rfl), HB2.out⟩
            case measure => simp [intOf]
          · have hk2b : ((k : Int) == 2) = false := by rw [beq_eq_false_iff_ne]; omega
            have hk2c : (2 : Int) < (k : Int) := by omega
            have HOut := Lib.hid (rOut_hi (u := u) (show 2 < k by omega))
            by_cases h3 : (k - 2) % 3 = 0
            · have h3b : (((k : Int) - 2) % 3 == 0) = true := by rw [beq_iff_eq]; omega
              rw [if_pos h3] at HOut
              clear h3 hk2 hke
              go_wp2_with fail
              go_roundw
              case rel => exact ⟨k + 1, c / 10, chr (u / 10 ^ k % 10) :: 44 :: out, by go_num, rfl, by rw [HEb.out, ba_cat, ba_cat]; rfl, by omega, by omega, HSt.out.next HGo.out _ (by rw [HOut.out, HSt.out.2.1]; rfl), HB2.out⟩
              case measure => simp [intOf]; omega
            · have h3b : (((k : Int) - 2) % 3 == 0) = false := by rw [beq_eq_false_iff_ne]; omega
              rw [if_neg h3] at HOut
              clear h3 hk2 hke
              go_wp2_with fail
              go_roundw
              case rel => exact ⟨k + 1, c / 10, chr (u / 10 ^ k % 10) :: out, by go_num, rfl, by rw [HEb.out, ba_cat]; rfl, by omega, by omega, HSt.out.next HGo.out _ (by rw [HOut.out, HSt.out.2.1]; rfl), HB2.out⟩
              case measure => simp [intOf]; omega
    · obtain rfl : c = 0 := by omega
      have hk3 : ¬ (k : Int) < 3 := by omega
      have HEnd := Lib.hid (rOut_end (u := u) (k := k) (by omega) (by have := HSt.out.1; omega) HSt.out.2.2)
      go_wp2_with fail
      go_ret
      refine ⟨?_, HB.out⟩
      rw [HC.out]
      have ho := HSt.out.2.1
      rw [HEnd.out] at ho
      simp only [ba_cat]
      rw [ho]
      simp only [List.nil_append]
      rfl
set_option maxRecDepth 100000 in
set_option maxHeartbeats 8000000 in
theorem rtext_neg (n : Int) (h0 : 0 < n) (h1 : n ≤ 9223372036854775808) (w : World) :
    Calls Tryd.prog 27 #[.int .i64 (-n)] w (StrPost (coinT (-n)) w) := by
  obtain ⟨u, hu⟩ : ∃ u : Nat, n = u := ⟨n.toNat, by omega⟩
  have HC := Lib.hid (show coinT (-n) = [45] ++ emit (Lib.decDigits (u / 100)) 0 ++ 46 :: pad 2 (u % 100) by
    unfold coinT
    rw [show (-n).natAbs = u by omega, if_pos (by omega)])
  have hu19 : u < 10 ^ 19 := by omega
  have H19 := Lib.hid hu19
  have HS0 := Lib.hid (show RSt u 0 n [] from ⟨by rw [hu]; simp, rfl, fun h => absurd h (by omega)⟩)
  clear hu hu19
  have hnb : n ≤ 9223372036854775808 := by omega
  go_enter Tryd.func27, Tryd.ntmps27
  go_wp2_with fail
  go_loopw [0, 4, 5] (fun s0 s4 s5 wr => ∃ (k : Nat) (c : Int) (out : List UInt8), s5 = .int .i64 k ∧ s0 = .int .i64 (-c) ∧ s4 = .string ⟨out.toArray⟩ ∧ 0 ≤ c ∧ c ≤ n ∧ Hid (RSt u k c out) ∧ Hid (Below w.heap.size w wr)) (fun _ _ s5 _ => (19 - intOf s5).toNat)
  case atStart => exact ⟨0, n, [], rfl, rfl, rfl, by omega, by omega, HS0.out, Below.refl _ _⟩
  case round =>
    clear HS0
    obtain ⟨k, c, out, rfl, rfl, rfl, hc0, hcn, HSt, HB⟩ := hrel
    have hk19 := small_k H19.out HSt.out.2.2
    have hkc : (k : Int) ≤ 19 := by omega
    have hkc0 : (0 : Int) ≤ (k : Int) := by omega
    have hol : out.length ≤ 40 := by have := rOut_len u k; rw [HSt.out.2.1]; omega
    have HB2 := Lib.hid (ext_trans HB.out (ext_alloc wr (.cells #[.int .u8 (48 + c % 10)] 5)))
    obtain ⟨eb, heb⟩ : ∃ eb : ByteArray, eb = ⟨#[chr (u / 10 ^ k % 10)]⟩ := ⟨_, rfl⟩
    have hcv := one_byte (48 + c % 10) (chr (u / 10 ^ k % 10)) HSt.out.dig wr
    rw [← heb] at hcv
    have hes : eb.size = 1 := by rw [heb]; rfl
    have HEb := Lib.hid heb
    clear heb
    have hm0 : 0 ≤ c % 10 := by omega
    have hm1 : c % 10 ≤ 9 := by omega
    have hd0 : 0 ≤ c / 10 := by omega
    have hdn : c / 10 ≤ n := by omega
    have hu8 : IntKind.u8.wrap (48 + c % 10) = 48 + c % 10 := IntWalk.u8_in _ (by omega)
    by_cases hgo : c ≠ 0 ∨ k < 3
    · have HGo := Lib.hid hgo
      have HK := Lib.hid (show k + 1 ≤ 19 from small_k H19.out (HSt.out.next hgo _ rfl).2.2)
      have hk1 := HK.out
      by_cases hcz : c = 0
      · have hz : (-c == 0) = true := by simp [hcz]
        have hz2 : (-c != 0) = false := by simp [hcz]
        have hk3 : k < 3 := by omega
        have hk3c : (k : Int) < 3 := by omega
        rw [show (48 + c % 10 : Int) = 48 by omega] at hcv HB2
        clear hgo
        have hmz : c % 10 = 0 := by omega
        by_cases hk2 : k < 2
        · have hk2b : ((k : Int) == 2) = false := by rw [beq_eq_false_iff_ne]; omega
          have hk2c : ¬ (2 : Int) < (k : Int) := by omega
          have HOut := Lib.hid (rOut_lo (u := u) hk2)
          clear hk2
          go_wp2_with fail
          go_roundw
          case rel => exact ⟨k + 1, c / 10, chr (u / 10 ^ k % 10) :: out, by go_num, by rw [show c / 10 = 0 by omega]; rfl, by rw [HEb.out, ba_cat]; rfl, by omega, by omega, HSt.out.next HGo.out _ (by rw [HOut.out, HSt.out.2.1]), HB2.out⟩
          case measure => simp [intOf]; omega
        · by_cases hke : k = 2
          · subst hke
            go_wp2_with fail
            go_roundw
            case rel => exact ⟨2 + 1, c / 10, chr (u / 10 ^ 2 % 10) :: 46 :: out, by rfl, by rw [show c / 10 = 0 by omega]; rfl, by rw [HEb.out, ba_cat, ba_cat]; rfl, by omega, by omega, HSt.out.next HGo.out _ (by rw [HSt.out.2.1]; rfl), HB2.out⟩
            case measure => simp [intOf]
          · exfalso; omega
      · have hz : (-c == 0) = false := by rw [beq_eq_false_iff_ne]; omega
        have hz2 : (-c != 0) = true := by rw [bne_iff_ne]; omega
        clear hgo
        have hq : wrap64 (-c.tdiv 10) = -(c / 10) := by rw [Int.tdiv_eq_ediv_of_nonneg hc0]; unfold wrap64; omega
        have HQ := Lib.hid (show wrap64 (-c.tdiv 10) = -(c / 10) from hq)
        by_cases hmz : c % 10 = 0
        · rw [show (48 + c % 10 : Int) = 48 by omega] at hcv HB2
          by_cases hk2 : k < 2
          · have hk2b : ((k : Int) == 2) = false := by rw [beq_eq_false_iff_ne]; omega
            have hk2c : ¬ (2 : Int) < (k : Int) := by omega
            have HOut := Lib.hid (rOut_lo (u := u) hk2)
            clear hk2
            go_wp2_with fail
            go_roundw
            case rel => exact ⟨k + 1, c / 10, chr (u / 10 ^ k % 10) :: out, by go_num, by rw [← HQ.out], by rw [HEb.out, ba_cat]; rfl, by omega, by omega, HSt.out.next HGo.out _ (by rw [HOut.out, HSt.out.2.1]), HB2.out⟩
            case measure => simp [intOf]; omega
          · by_cases hke : k = 2
            · subst hke
              go_wp2_with fail
              go_roundw
              case rel => exact ⟨2 + 1, c / 10, chr (u / 10 ^ 2 % 10) :: 46 :: out, by rfl, by rw [← HQ.out], by rw [HEb.out, ba_cat, ba_cat]; rfl, by omega, by omega, HSt.out.next HGo.out _ (by rw [HSt.out.2.1]; rfl), HB2.out⟩
              case measure => simp [intOf]
            · have hk2b : ((k : Int) == 2) = false := by rw [beq_eq_false_iff_ne]; omega
              have hk2c : (2 : Int) < (k : Int) := by omega
              have HOut := Lib.hid (rOut_hi (u := u) (show 2 < k by omega))
              by_cases h3 : (k - 2) % 3 = 0
              · have h3b : (((k : Int) - 2) % 3 == 0) = true := by rw [beq_iff_eq]; omega
                rw [if_pos h3] at HOut
                clear h3 hk2 hke
                go_wp2_with fail
                go_roundw
                case rel => exact ⟨k + 1, c / 10, chr (u / 10 ^ k % 10) :: 44 :: out, by go_num, by rw [← HQ.out], by rw [HEb.out, ba_cat, ba_cat]; rfl, by omega, by omega, HSt.out.next HGo.out _ (by rw [HOut.out, HSt.out.2.1]; rfl), HB2.out⟩
                case measure => simp [intOf]; omega
              · have h3b : (((k : Int) - 2) % 3 == 0) = false := by rw [beq_eq_false_iff_ne]; omega
                rw [if_neg h3] at HOut
                clear h3 hk2 hke
                go_wp2_with fail
                go_roundw
                case rel => exact ⟨k + 1, c / 10, chr (u / 10 ^ k % 10) :: out, by go_num, by rw [← HQ.out], by rw [HEb.out, ba_cat]; rfl, by omega, by omega, HSt.out.next HGo.out _ (by rw [HOut.out, HSt.out.2.1]; rfl), HB2.out⟩
                case measure => simp [intOf]; omega
        · have hmp : 0 < c % 10 := by omega
          by_cases hk2 : k < 2
          · have hk2b : ((k : Int) == 2) = false := by rw [beq_eq_false_iff_ne]; omega
            have hk2c : ¬ (2 : Int) < (k : Int) := by omega
            have HOut := Lib.hid (rOut_lo (u := u) hk2)
            clear hk2
            go_wp2_with fail
            go_roundw
            case rel => exact ⟨k + 1, c / 10, chr (u / 10 ^ k % 10) :: out, by go_num, by rw [← HQ.out], by rw [HEb.out, ba_cat]; rfl, by omega, by omega, HSt.out.next HGo.out _ (by rw [HOut.out, HSt.out.2.1]), HB2.out⟩
            case measure => simp [intOf]; omega
          · by_cases hke : k = 2
            · subst hke
              go_wp2_with fail
              go_roundw
              case rel => exact ⟨2 + 1, c / 10, chr (u / 10 ^ 2 % 10) :: 46 :: out, by rfl, by rw [← HQ.out], by rw [HEb.out, ba_cat, ba_cat]; rfl, by omega, by omega, HSt.out.next HGo.out _ (by rw [HSt.out.2.1]; rfl), HB2.out⟩
              case measure => simp [intOf]
            · have hk2b : ((k : Int) == 2) = false := by rw [beq_eq_false_iff_ne]; omega
              have hk2c : (2 : Int) < (k : Int) := by omega
              have HOut := Lib.hid (rOut_hi (u := u) (show 2 < k by omega))
              by_cases h3 : (k - 2) % 3 = 0
              · have h3b : (((k : Int) - 2) % 3 == 0) = true := by rw [beq_iff_eq]; omega
                rw [if_pos h3] at HOut
                clear h3 hk2 hke
                go_wp2_with fail
                go_roundw
                case rel => exact ⟨k + 1, c / 10, chr (u / 10 ^ k % 10) :: 44 :: out, by go_num, by rw [← HQ.out], by rw [HEb.out, ba_cat, ba_cat]; rfl, by omega, by omega, HSt.out.next HGo.out _ (by rw [HOut.out, HSt.out.2.1]; rfl), HB2.out⟩
                case measure => simp [intOf]; omega
              · have h3b : (((k : Int) - 2) % 3 == 0) = false := by rw [beq_eq_false_iff_ne]; omega
                rw [if_neg h3] at HOut
                clear h3 hk2 hke
                go_wp2_with fail
                go_roundw
                case rel => exact ⟨k + 1, c / 10, chr (u / 10 ^ k % 10) :: out, by go_num, by rw [← HQ.out], by rw [HEb.out, ba_cat]; rfl, by omega, by omega, HSt.out.next HGo.out _ (by rw [HOut.out, HSt.out.2.1]; rfl), HB2.out⟩
                case measure => simp [intOf]; omega
    · obtain rfl : c = 0 := by omega
      have hk3 : ¬ (k : Int) < 3 := by omega
      have HEnd := Lib.hid (rOut_end (u := u) (k := k) (by omega) (by have := HSt.out.1; omega) HSt.out.2.2)
      go_wp2_with fail
      go_ret
      refine ⟨?_, HB.out⟩
      rw [HC.out]
      have ho := HSt.out.2.1
      rw [HEnd.out] at ho
      simp only [ba_cat]
      rw [ho]
      simp only [List.append_assoc]
      rfl
theorem rtext_any (n : Int) (h0 : -9223372036854775808 ≤ n) (h1 : n ≤ 9223372036854775807) (w : World) :
    Calls Tryd.prog 27 #[.int .i64 n] w (StrPost (coinT n) w) := by
  by_cases h : 0 ≤ n
  · exact rtext_pos n h h1 w
  · have := rtext_neg (-n) (by omega) (by omega) w
    rwa [Int.neg_neg] at this
end Go.Proofs.YtdfajigepchccaaDoor.Cn

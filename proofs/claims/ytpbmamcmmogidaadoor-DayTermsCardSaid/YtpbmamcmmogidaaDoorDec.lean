/- The document's decimal digits; a day's text in the document. -/
import Derived.Test.YtpbmamcmmogidaaDoorRdT
import Derived.Test.YtpbmamcmmogidaaDoorRefDay2
import Derived.Deep.RegionHeld3
import Derived.Laws.IdiomStrings
import Derived.IntWalk
namespace Go.Proofs.YtpbmamcmmogidaaDoor.Rd
open Go.RowKit Mem Cal Day Tabs

theorem ba_extract (l : List UInt8) (i j : Nat) : (ByteArray.mk l.toArray).extract i j = ⟨((l.drop i).take (j - i)).toArray⟩ := by
  apply ByteArray.ext
  simp [List.extract_eq_take_drop]
theorem byte_back (n : UInt8) (w : World) : (convert 141 9 (.slice (some ⟨w.heap.size, 0, none⟩) 1 1)).run Tryd.prog (w.alloc (.cells #[.int .u8 (n.toNat : Int)] 5)) = .ok (.string ⟨#[n]⟩) (w.alloc (.cells #[.int .u8 (n.toNat : Int)] 5)) :=
  run_convert_bytes_back _ 141 9 5 ⟨w.heap.size, 0, none⟩ 1 [n] Tryd.underlying141 Tryd.underlying5 Tryd.underlying9 (fun j hj => by
    obtain rfl : j = 0 := by simp at hj; exact hj
    rw [show (⟨w.heap.size, 0, none⟩ : Addr).add 0 = ⟨w.heap.size, 0, none⟩ from rfl, World.cell?_alloc_at _ _ _ _ rfl]
    rfl)
set_option maxRecDepth 10000 in
set_option maxHeartbeats 400000 in
theorem byte_one (v : Int) (h0 : 0 ≤ v) (h1 : v < 10) (w : World) :
    Calls Tryd.prog 86 #[.int .i64 v] w (StrPost [UInt8.ofNat (48 + v.toNat)] w) := by
  obtain ⟨n, hn⟩ : ∃ n : UInt8, n = UInt8.ofNat (48 + v.toNat) := ⟨_, rfl⟩
  rw [← hn]
  have hv : (n.toNat : Int) = 48 + v := by rw [hn]; simp; omega
  have hu : IntKind.u8.wrap (48 + v) = 48 + v := IntWalk.u8_in _ (by omega)
  have hb := byte_back n w
  rw [hv] at hb
  clear hv hn
  go_enter Tryd.func86, Tryd.ntmps86
  go_wp2_with fail
  go_ret
  exact ⟨rfl, ext_alloc w _⟩
set_option maxHeartbeats 1000000 in
theorem decimal_any : ∀ (u : Nat), u ≤ 9223372036854775807 → ∀ w, Calls Tryd.prog 86 #[.int .i64 (u : Int)] w (StrPost (Lib.decDigits u) w) := by
  intro u
  induction u using Nat.strongRecOn with
  | _ u ih =>
    intro hu w
    have huc : (u : Int) ≤ 9223372036854775807 := by omega
    by_cases h : u < 10
    · rw [dec_small h]
      have := byte_one (u : Int) (by omega) (by omega) w
      rwa [Int.toNat_natCast] at this
    · have hc : ¬ (u : Int) < 10 := by omega
      have IH := Lib.hid (ih (u / 10) (by omega) (by omega))
      have IH2 := Lib.hid (ih (u % 10) (by omega) (by omega))
      have e1 := Lib.hid (show (u : Int) / 10 = ((u / 10 : Nat) : Int) by omega)
      have e2 := Lib.hid (show (u : Int) % 10 = ((u % 10 : Nat) : Int) by omega)
      have HD := Lib.hid (dec_big h)
      clear ih
      obtain ⟨l1, h1⟩ : ∃ l, l = Lib.decDigits (u / 10) := ⟨_, rfl⟩
      obtain ⟨l2, h2⟩ : ∃ l, l = Lib.decDigits (u % 10) := ⟨_, rfl⟩
      have b1 : l1.length ≤ 20 := by
        rw [h1]; exact Nat.le_trans (dec_wide 19 (u / 10) (by omega)).1 (by omega)
      have b2 : l2.length = 1 := by rw [h2, dec_small (by omega)]; rfl
      have HL := Lib.hid (show Lib.decDigits u = l1 ++ l2 by rw [HD.out, h1, h2, dec_small (show u % 10 < 10 by omega)])
      rw [← h1] at IH
      rw [← h2] at IH2
      clear h1 h2 HD
      go_enter Tryd.func86, Tryd.ntmps86
      go_wp2_with fail
      rw [e1.out]
      refine (IH.out _).mono ?_
      rintro e w1 ⟨rfl, hb1⟩
      have HB1 := Lib.hid hb1
      clear hb1
      go_wp2_with fail
      rw [e2.out]
      refine (IH2.out _).mono ?_
      rintro e w2 ⟨rfl, hb2⟩
      have HB2 := Lib.hid (ext_trans HB1.out hb2)
      clear hb2
      go_wp2_with fail
      go_ret
      refine ⟨?_, HB2.out⟩
      simp only [ba_app]
      rw [HL.out]
      rfl
theorem dec_int (k : Nat) (B : Int) (hB : B = ((10 ^ (k + 1) : Nat) : Int)) (hk : k ≤ 10) (y : Int) (h0 : 0 ≤ y) (hu : y.toNat < 10 ^ (k + 1)) (w : World) :
    Calls Tryd.prog 86 #[.int .i64 (B + y)] w (StrPost (49 :: pad (k + 1) y.toNat) w) := by
  have hp : 10 ^ (k + 1) ≤ 10 ^ 11 := Nat.pow_le_pow_right (by omega) (by omega)
  have h := decimal_any (10 ^ (k + 1) + y.toNat) (by omega) w
  rw [dec_one _ _ hu] at h
  have e : ((10 ^ (k + 1) + y.toNat : Nat) : Int) = B + y := by rw [hB]; omega
  rw [e] at h
  exact h
end Go.Proofs.YtpbmamcmmogidaaDoor.Rd

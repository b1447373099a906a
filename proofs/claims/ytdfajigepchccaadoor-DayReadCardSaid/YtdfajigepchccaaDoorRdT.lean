/- A day's text: the program's side. -/
import Derived.Test.YtdfajigepchccaaDoorRdP
import Derived.Test.YtdfajigepchccaaDoorDay
import Derived.Test.YtdfajigepchccaaDoorTabs
namespace Go.Proofs.YtdfajigepchccaaDoor.Rd
open Go.RowKit Mem Cal Day Tabs

theorem ba_app (r l : List UInt8) : (ByteArray.mk r.toArray ++ ByteArray.mk l.toArray : ByteArray) = ⟨(r ++ l).toArray⟩ := by
  apply ByteArray.ext
  simp
theorem pad_length : ∀ (m u : Nat), (pad m u).length = m
  | 0, _ => rfl
  | m + 1, u => by unfold pad; simp [pad_length m]
set_option maxHeartbeats 1000000 in
theorem two_any (u k : Nat) (hk : k ≤ 10) (hu : u < 10 ^ (k + 1)) (w : World) (hp : Pow w) :
    Calls Tryd.prog 51 #[.int .i64 (u : Int), .int .i64 ((k + 1 : Nat) : Int)] w (StrPost (pad (k + 1) u) w) := by
  have hb : u ≤ 9223372036854775807 := by
    have : 10 ^ (k + 1) ≤ 10 ^ 11 := Nat.pow_le_pow_right (by omega) (by omega)
    omega
  have HD := Lib.hid (dec_wide k u hu)
  obtain ⟨l, hl⟩ : ∃ l, l = Lib.decDigits u := ⟨_, rfl⟩
  have HI := Lib.hid (itoa_nat u hb w hp)
  rw [← hl] at HD HI
  have b1 := HD.out.1
  have HR := Lib.hid HD.out.2
  clear HD hl hu hp hb
  generalize hK : ((k + 1 : Nat) : Int) = K
  have hK1 : K = (k : Int) + 1 := by omega
  have hb2 : (l.length : Int) ≤ K := by omega
  have hK2 : K ≤ 11 := by omega
  have HK := Lib.hid hK1
  clear hK hK1
  go_enter Tryd.func51, Tryd.ntmps51
  go_wp2_with fail
  refine HI.out.mono ?_
  rintro e w1 ⟨rfl, hb1⟩
  have HB := Lib.hid hb1
  clear hb1
  go_wp2_with fail
  refine (repeat_any [48] (K - l.length) (by omega) (by omega) (by simp) _).mono ?_
  rintro e w2 ⟨rfl, hb2⟩
  have HB2 := Lib.hid (ext_trans HB.out hb2)
  clear hb2
  have e : (K - (l.length : Int)).toNat = k + 1 - l.length := by have := HK.out; omega
  rw [e]
  obtain ⟨r, hr⟩ : ∃ r, r = Lib.repeatL [48] (k + 1 - l.length) := ⟨_, rfl⟩
  rw [← hr] at HR ⊢
  have hrl : r.length + l.length = k + 1 := by rw [← List.length_append, HR.out, pad_length]
  have hrb : r.length + l.length ≤ 9223372036854775807 := by omega
  clear hr e hrl
  go_wp2_with fail
  rw [ba_app, HR.out]
  go_ret
  exact ⟨rfl, HB2.out⟩
theorem two_int (k : Nat) (K : Int) (hK : K = ((k + 1 : Nat) : Int)) (hk : k ≤ 10) (y : Int) (h0 : 0 ≤ y) (hu : y.toNat < 10 ^ (k + 1)) (w : World) (hp : Pow w) :
    Calls Tryd.prog 51 #[.int .i64 y, .int .i64 K] w (StrPost (pad (k + 1) y.toNat) w) := by
  have h := two_any y.toNat k hk hu w hp
  rw [Int.toNat_of_nonneg h0, ← hK] at h
  exact h
/-- a date's text -/
def dtext (y m d : Int) : List UInt8 := pad 4 y.toNat ++ [45] ++ pad 2 m.toNat ++ [45] ++ pad 2 d.toNat
theorem ptext_no (n : Int) (h : n < 1 ∨ 3652059 < n) (w : World) :
    Calls Tryd.prog 20 #[.int .i64 n] w (StrPost [] w) := by
  go_enter Tryd.func20, Tryd.ntmps20
  go_wp2_with (go_at_call 49; refine (good_no _ h _).mono ?_; rintro e w' ⟨rfl, rfl⟩)
  go_ret
  exact ⟨rfl, Below.refl _ _⟩
set_option maxHeartbeats 1000000 in
theorem ptext_yes (y m d : Int) (hv : Vld y m d) (w : World) (hp : Pow w) :
    Calls Tryd.prog 20 #[.int .i64 (num y m d)] w (StrPost (dtext y m d) w) := by
  have hn := hv.num_bd
  have HP := Lib.hid hp
  clear hp
  go_enter Tryd.func20, Tryd.ntmps20
  go_wp2_with (go_at_call 49; refine (good_yes _ (by omega) (by omega) _).mono ?_; rintro e w' ⟨rfl, rfl⟩)
  refine (parts_yes _ (by omega) (by omega) _).mono ?_
  rintro e w' ⟨a, b, c, rfl, hv', hn', rfl⟩
  obtain ⟨rfl, rfl, rfl⟩ := Vld.unique hv hv' hn'.symm
  have hd := hv.d_le
  obtain ⟨y1, y2, m1, m2, d1, _⟩ := id hv
  clear hv hv' hn' hn
  go_wp2_with fail
  refine (two_int 3 4 rfl (by omega) y (by omega) (by omega) _ HP.out).mono ?_
  rintro e w1 ⟨rfl, hb1⟩
  have HP1 := Lib.hid (HP.out.ext hb1)
  have HB1 := Lib.hid hb1
  clear hb1
  obtain ⟨a, ha⟩ : ∃ a, a = pad 4 y.toNat := ⟨_, rfl⟩
  rw [← ha]
  have la : a.length = 4 := by rw [ha, pad_length]
  have HA := Lib.hid ha
  clear ha
  go_wp2_with fail
  refine (two_int 1 2 rfl (by omega) m (by omega) (by omega) _ HP1.out).mono ?_
  rintro e w2 ⟨rfl, hb2⟩
  have HP2 := Lib.hid (HP1.out.ext hb2)
  have HB2 := Lib.hid (ext_trans HB1.out hb2)
  clear hb2
  obtain ⟨b, hb⟩ : ∃ b, b = pad 2 m.toNat := ⟨_, rfl⟩
  rw [← hb]
  have lb : b.length = 2 := by rw [hb, pad_length]
  have Hb := Lib.hid hb
  clear hb
  go_wp2_with fail
  refine (two_int 1 2 rfl (by omega) d (by omega) (by omega) _ HP2.out).mono ?_
  rintro e w3 ⟨rfl, hb3⟩
  have HP3 := Lib.hid (HP2.out.ext hb3)
  have HB3 := Lib.hid (ext_trans HB2.out hb3)
  clear hb3
  obtain ⟨c, hc⟩ : ∃ c, c = pad 2 d.toNat := ⟨_, rfl⟩
  rw [← hc]
  have lc : c.length = 2 := by rw [hc, pad_length]
  have Hc := Lib.hid hc
  clear hc
  go_wp2_with fail
  go_ret
  refine ⟨?_, HB3.out⟩
  simp only [ba_app]
  unfold dtext
  rw [← HA.out, ← Hb.out, ← Hc.out]
  rfl
end Go.Proofs.YtdfajigepchccaaDoor.Rd

/- The law DayRead answers true: the walk. -/
import Derived.Test.YtdfajigepchccaaDoorRdW
import Derived.Test.YtdfajigepchccaaDoorRdR
import Derived.Test.YtdfajigepchccaaDoorDec
import Derived.Test.YtdfajigepchccaaDoorFlt
namespace Go.Proofs.YtdfajigepchccaaDoor.DayRead
open Go.RowKit Mem Cal Day Err Flt Rd Tabs

/-- both sides' text of a number -/
def TextOf (n : Int) (l : List UInt8) : Prop := (∃ y m d, Vld y m d ∧ num y m d = n ∧ l = dtext y m d) ∨ ((n < 1 ∨ 3652059 < n) ∧ l = [])
theorem text_of (n : Int) : ∃ l, TextOf n l ∧ l.length ≤ 100 := by
  by_cases h : 1 ≤ n ∧ n ≤ 3652059
  · obtain ⟨y, m, d, hv, hn⟩ := date_of n h.1 h.2
    exact ⟨_, .inl ⟨y, m, d, hv, hn, rfl⟩, by unfold dtext; simp [pad_length]⟩
  · exact ⟨[], .inr ⟨by omega, rfl⟩, by simp⟩
theorem ptext_any (n : Int) (l : List UInt8) (h : TextOf n l) (w : World) (hp : Pow w) : Calls Tryd.prog 20 #[.int .i64 n] w (StrPost l w) := by
  rcases h with ⟨y, m, d, hv, rfl, rfl⟩ | ⟨h, rfl⟩
  · exact ptext_yes y m d hv w hp
  · exact ptext_no n h w
theorem rtext_any (n : Int) (l : List UInt8) (h : TextOf n l) (w : World) : Calls Tryd.prog 21 #[.int .i64 n] w (StrPost l w) := by
  rcases h with ⟨y, m, d, hv, rfl, rfl⟩ | ⟨h, rfl⟩
  · exact rtext_yes y m d hv w
  · exact rtext_no n h w
def first : List UInt8 := [48, 48, 48, 49, 45, 48, 49, 45, 48, 50]
instance (s : List UInt8) (j : Nat) : Decidable (OkB s j) := by unfold OkB; infer_instance
theorem first_out : OutP first (0, -1, 2) := by
  refine .inr (.inr (.inr ⟨?_, rfl, ?_, ?_⟩))
  · unfold Fits; decide
  · show Vld 1 1 2; decide
  · show _ = (0, -1, num 1 1 2); decide
theorem first_read (A : Nat → Addr) (w : World) (hE : Errs w A) :
    Calls Tryd.prog 17 #[.string ⟨#[48, 48, 48, 49, 45, 48, 49, 45, 48, 50]⟩] w fun e w' => e = .returned (.tuple #[.int .i64 2, .nilIface]) ∧ Below w.heap.size w w' :=
  (pread_any first A w (by decide) hE).mono fun e w' ⟨o, v, ho, he, hp, hb⟩ => by
    obtain rfl := ho.same first_out
    rcases hp with ⟨_, rfl⟩ | ⟨c, _, h, _⟩
    · exact ⟨he, hb⟩
    · simp at h; omega

set_option maxRecDepth 100000 in
set_option maxHeartbeats 2000000 in
theorem walk (s : List UInt8) (n : Int) (A : Nat → Addr) (w : World) (hl : s.length ≤ 9223372036854775807) (hE : Errs w A) (hP : Pow w) :
    Calls Tryd.prog 4 #[.string ⟨s.toArray⟩, .int .i64 n] w fun e w' => e = .returned (.bool true) ∧ Below w.heap.size w w' := by
  have HE := Lib.hid hE
  have HP := Lib.hid hP
  clear hE hP
  have HF := Lib.hid (first_read A)
  go_enter Tryd.func4, Tryd.ntmps4
  go_wp2_with fail
  refine (HF.out _ HE.out).mono ?_
  rintro e w1 ⟨rfl, hb1⟩
  have HB1 := Lib.hid hb1
  clear hb1
  by_cases hlen : 3000 < s.length
  · have hlc : (3000 : Int) < (s.length : Int) := by omega
    go_wp2_with fail
    go_ret
    exact ⟨rfl, HB1.out⟩
  · have hlc : ¬ (3000 : Int) < (s.length : Int) := by omega
    go_wp2_with fail
    refine (pread_any s A _ hl (HE.out.below HB1.out)).mono ?_
    rintro e w2 ⟨o, v, ho, rfl, hp, hb2⟩
    have HO := Lib.hid ho
    have HB2 := Lib.hid (ext_trans HB1.out hb2)
    have HPE := Lib.hid hp
    clear ho hb2 hp
    obtain ⟨c, a, d⟩ := o
    go_wp2_with fail
    refine (rread_any s _ hl).mono ?_
    rintro e w3 ⟨o', ho', rfl, hb3⟩
    obtain rfl := ho'.same HO.out
    have HB3 := Lib.hid (ext_trans HB2.out hb3)
    have HPE3 := Lib.hid (HPE.out.ext hb3)
    clear ho' hb3
    go_wp2_with fail
    refine (faulted_same (HPE3.out.ext (ext_alloc w3 _)) (HE.out.below (ext_trans HB3.out (ext_alloc w3 _))) (fun _ => rfl)).mono ?_
    rintro e w4 ⟨rfl, hb4⟩
    have HB4 := Lib.hid (ext_trans (ext_trans HB3.out (ext_alloc w3 _)) hb4)
    clear hb4
    obtain ⟨l, ht, hll⟩ := text_of n
    have HT := Lib.hid ht
    clear ht
    go_wp2_with fail
    refine (ptext_any n l HT.out _ (HP.out.ext HB4.out)).mono ?_
    rintro e w5 ⟨rfl, hb5⟩
    have HB5 := Lib.hid (ext_trans HB4.out hb5)
    clear hb5
    go_wp2_with fail
    refine (rtext_any n l HT.out _).mono ?_
    rintro e w6 ⟨rfl, hb6⟩
    have HB6 := Lib.hid (ext_trans HB5.out hb6)
    clear hb6
    go_wp2_with fail
    go_ret
    exact ⟨rfl, HB6.out⟩
end Go.Proofs.YtdfajigepchccaaDoor.DayRead

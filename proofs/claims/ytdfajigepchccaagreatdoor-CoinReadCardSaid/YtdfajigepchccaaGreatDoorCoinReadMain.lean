/- The law CoinRead answers true: the walk. -/
import Derived.Test.YtdfajigepchccaaGreatDoorCrR
import Derived.Test.YtdfajigepchccaaGreatDoorAlive
namespace Go.Proofs.YtdfajigepchccaaGreatDoor.CoinRead
open Go.RowKit Mem Rd Cn Flt Err

set_option maxRecDepth 100000 in
set_option maxHeartbeats 2000000 in
theorem walk (s : List UInt8) (hls : s.length ≤ 9223372036854775807) (A : Nat → Addr) (rv : Value) (m : Int) (w : World) (hE : CE w A rv m) (hA : Errs w A) :
    Calls Tryz.prog 3 #[.string ⟨s.toArray⟩] w fun e w' => e = .returned (.bool true) ∧ Below w.heap.size w w' := by
  have HE := Lib.hid hE
  have HA := Lib.hid hA
  clear hE hA
  go_enter Tryz.func3, Tryz.ntmps3
  go_wp2_with fail
  refine (alive_any A rv m _ HE.out).mono ?_
  rintro e w1 ⟨rfl, hb1⟩
  have HB1 := Lib.hid hb1
  clear hb1
  by_cases hlen : 3000 < s.length
  · have hlc : (3000 : Int) < (s.length : Int) := by omega
    go_wp2_with fail
    go_ret
    exact ⟨rfl, HB1.out⟩
  · have hlc : ¬ (3000 : Int) < (s.length : Int) := by omega
    go_wp2_with fail
    refine (cread_any s A rv m _ (by omega) (HE.out.ext HB1.out)).mono ?_
    rintro e w2 ⟨v, rfl, hp, hb2⟩
    have HB2 := Lib.hid (ext_trans HB1.out hb2)
    have HPE := Lib.hid hp
    clear hb2 hp
    obtain ⟨o, ho⟩ : ∃ o, o = coinF s := ⟨_, rfl⟩
    rw [← ho] at HPE ⊢
    obtain ⟨c, a, d⟩ := o
    have HO := Lib.hid ho
    clear ho
    go_wp2_with fail
    refine (rcread_any s _ (by omega)).mono ?_
    rintro e w3 ⟨rfl, hb3⟩
    rw [← HO.out]
    have HB3 := Lib.hid (ext_trans HB2.out hb3)
    have HPE3 := Lib.hid (HPE.out.ext hb3)
    clear hb3
    go_wp2_with fail
    refine (faulted_same (HPE3.out.ext (ext_alloc w3 _)) (HA.out.below (ext_trans HB3.out (ext_alloc w3 _))) (fun _ => rfl)).mono ?_
    rintro e w4 ⟨rfl, hb4⟩
    have HB4 := Lib.hid (ext_trans (ext_trans HB3.out (ext_alloc w3 _)) hb4)
    clear hb4
    go_wp2_with fail
    go_ret
    exact ⟨rfl, HB4.out⟩
end Go.Proofs.YtdfajigepchccaaGreatDoor.CoinRead

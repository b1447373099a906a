/- The law CoinBands answers true: the walk. -/
import Derived.Test.YtdfajigepchccaaGreatDoorBnM
import Derived.Test.YtdfajigepchccaaGreatDoorBnR
import Derived.Test.YtdfajigepchccaaGreatDoorAlive
import Derived.Test.YtdfajigepchccaaGreatDoorCoded1
namespace Go.Proofs.YtdfajigepchccaaGreatDoor.CoinBands
open Go.RowKit Mem Rnd Bn Cn Flt Err

theorem codes (am way : Int) (l : List Bd) : (bandsF am l way).2 = 0 ∨ (bandsF am l way).2 = 3 ∨ (bandsF am l way).2 = 8 ∨ (bandsF am l way).2 = 9 := by
  unfold bandsF
  by_cases h1 : way < 0 ∨ 5 < way
  · rw [if_pos h1]; simp
  · rw [if_neg h1]
    by_cases h2 : am < 0 ∨ 1000000000000 < am ∨ l.any badB = true
    · rw [if_pos h2]; simp
    · rw [if_neg h2]
      by_cases h3 : 60 < l.length ∨ ¬ Inc l
      · rw [if_pos h3]; simp
      · rw [if_neg h3]
        by_cases h4 : rnd (psum am l) 10000 way < -1000000000000 ∨ 1000000000000 < rnd (psum am l) 10000 way
        · rw [if_pos h4]; simp
        · rw [if_neg h4]; simp
def CodedPost (w : World) (e : Ending) (w' : World) : Prop := e = .returned (.bool true) ∧ Below w.heap.size w w'
theorem coded_band (c : Nat) (hc : c = 0 ∨ c = 3 ∨ c = 8 ∨ c = 9) (A : Nat → Addr) (w : World) (hE : Errs w A) :
    Calls Tryz.prog 13 #[bandE c (sentV (A 2)) (sentV (A 7)) (sentV (A 8)), .int .i64 (c : Int)] w (CodedPost w) := by
  rcases hc with rfl | rfl | rfl | rfl
  · exact (coded_nil 0 w).mono fun e w' h => ⟨h.1.trans (by rfl), by rw [← h.2]; exact Below.refl _ _⟩
  · exact (coded_sent 2 (by omega) 3 A w hE).mono fun e w' h => ⟨h.1.trans (by rfl), h.2⟩
  · exact (coded_sent 7 (by omega) 8 A w hE).mono fun e w' h => ⟨h.1.trans (by rfl), h.2⟩
  · exact (coded_sent 8 (by omega) 9 A w hE).mono fun e w' h => ⟨h.1.trans (by rfl), h.2⟩
set_option maxRecDepth 100000 in
set_option maxHeartbeats 2000000 in
theorem walk (am way : Int) (l : List Bd) (A0 : Option Addr) (c0 : Nat) (hl63 : l.length ≤ 9223372036854775807) (A : Nat → Addr) (rv : Value) (m : Int) (w : World) (hr : Rd w A0 (l.flatMap bdCells)) (hE : CE w A rv m) (hA : Errs w A) :
    Calls Tryz.prog 4 #[.int .i64 am, .slice A0 l.length c0, .int .i64 way] w fun e w' => e = .returned (.bool true) ∧ Below w.heap.size w w' := by
  have HE := Lib.hid hE
  have HA := Lib.hid hA
  have HR := Lib.hid hr
  clear hE hA hr
  go_enter Tryz.func4, Tryz.ntmps4
  go_wp2_with fail
  refine (alive_any A rv m _ HE.out).mono ?_
  rintro e w1 ⟨rfl, hb1⟩
  have HB1 := Lib.hid hb1
  clear hb1
  by_cases hlen : 100 < l.length
  · have hlc : (100 : Int) < (l.length : Int) := by omega
    go_wp2_with fail
    go_ret
    exact ⟨rfl, HB1.out⟩
  · have hlc : ¬ (100 : Int) < (l.length : Int) := by omega
    go_wp2_with fail
    refine (copy_any l A0 c0 (by omega) _ (HR.out.ext HB1.out)).mono ?_
    rintro e w2 ⟨A2, c2, rfl, hr2, hb2⟩
    have HR2 := Lib.hid hr2
    have HB2 := Lib.hid (ext_trans HB1.out hb2)
    have HA2 := Lib.hid (HA.out.below HB2.out)
    clear hr2 hb2
    go_wp2_with fail
    refine (bands_any am way l A2 c2 (by omega) (sentV (A 2)) (sentV (A 7)) (sentV (A 8)) w2 HR2.out HA2.out.v2 HA2.out.v7 HA2.out.v8).mono ?_
    rintro e w3 ⟨rfl, hb3⟩
    have HB3 := Lib.hid (ext_trans HB2.out hb3)
    clear hb3
    have HCd := Lib.hid (codes am way l)
    obtain ⟨o, ho⟩ : ∃ o, o = bandsF am l way := ⟨_, rfl⟩
    rw [← ho] at HCd ⊢
    obtain ⟨n, cd⟩ := o
    have HO := Lib.hid ho
    clear ho
    go_wp2_with fail
    refine (rbands_any am way l A0 c0 (by omega) w3 (HR.out.ext HB3.out)).mono ?_
    rintro e w4 ⟨rfl, hb4⟩
    rw [← HO.out]
    have HB4 := Lib.hid (ext_trans HB3.out hb4)
    clear hb4
    go_wp2_with fail
    refine (coded_band cd HCd.out A w4 (HA.out.below HB4.out)).mono ?_
    rintro e w5 ⟨rfl, hb5⟩
    have HB5 := Lib.hid (ext_trans HB4.out hb5)
    clear hb5
    go_wp2_with fail
    go_ret
    exact ⟨by simp, HB5.out⟩
end Go.Proofs.YtdfajigepchccaaGreatDoor.CoinBands

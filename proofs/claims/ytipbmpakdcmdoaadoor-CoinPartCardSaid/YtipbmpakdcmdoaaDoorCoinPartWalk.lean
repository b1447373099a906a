/- The law CoinPart answers true: the walk. -/
import Derived.Test.YtipbmpakdcmdoaaDoorPart3
import Derived.Test.YtipbmpakdcmdoaaDoorCoded1
namespace Go.Proofs.YtipbmpakdcmdoaaDoor.CoinPart
open Go.RowKit Rnd Coin Err

theorem part_first (EC EK : Value) (w : World) (hC : w.cell? ⟨2, 0, none⟩ = some EC) (hK : w.cell? ⟨8, 0, none⟩ = some EK) :
    Calls Tryd.prog 38 #[.int .i64 105, .int .i64 5000, .int .i64 4] w fun e w' => e = .returned (.tuple #[.int .i64 53, .nilIface]) ∧ ∃ n, w' = w.drewN n := by
  have h := part_any 105 5000 4 EC EK w hC hK
  rwa [show partV 105 5000 4 = (53, 0) from by decide] at h
theorem partV_cases (a r y : Int) : (partV a r y).2 = 0 ∨ ((partV a r y).1 = 0 ∧ ((partV a r y).2 = 3 ∨ (partV a r y).2 = 9)) := by
  unfold partV
  repeat' split
  all_goals simp
set_option maxRecDepth 100000 in
set_option maxHeartbeats 1000000 in
theorem walk (a r y : Int) (A : Nat → Addr) (w : World) (hE : Errs w A) :
    Calls Tryd.prog 10 #[.int .i64 a, .int .i64 r, .int .i64 y] w fun e w' => e = .returned (.bool true) ∧ Below w.heap.size w w' := by
  have HE := Lib.hid hE
  have hC := hE.v2
  have hK := hE.v8
  clear hE
  have hc := partV_cases a r y
  have HP := Lib.hid (fun w h1 h2 => part_any a r y (sentV (A 2)) (sentV (A 8)) w h1 h2)
  have HR := Lib.hid (refpart_any a r y)
  generalize partV a r y = pv at *
  obtain ⟨v, c⟩ := pv
  simp only at hc
  rcases hc with rfl | ⟨rfl, rfl | rfl⟩
  · go_enter Tryd.func10, Tryd.ntmps10
    go_wp2_with fail
    refine (part_first _ _ _ hC hK).mono ?_
    rintro e w' ⟨rfl, q, rfl⟩
    go_wp2_with fail
    refine (HP.out (w.drewN q) hC hK).mono ?_
    rintro e w' ⟨rfl, q2, rfl⟩
    simp only [show partE 0 (sentV (A 2)) (sentV (A 8)) = .nilIface from rfl]
    go_wp2_with fail
    refine (HR.out _).mono ?_
    rintro e w' ⟨rfl, rfl⟩
    go_wp2_with fail
    refine (coded_nil _ _).mono ?_
    rintro e w' ⟨rfl, rfl⟩
    go_wp2_with fail
    go_ret
    exact ⟨ret_bool (by simp), below_drewN (Below.refl _ _) _⟩
  · go_enter Tryd.func10, Tryd.ntmps10
    go_wp2_with fail
    refine (part_first _ _ _ hC hK).mono ?_
    rintro e w' ⟨rfl, q, rfl⟩
    go_wp2_with fail
    refine (HP.out (w.drewN q) hC hK).mono ?_
    rintro e w' ⟨rfl, q2, rfl⟩
    simp only [show partE 3 (sentV (A 2)) (sentV (A 8)) = sentV (A 2) from rfl]
    go_wp2_with fail
    refine (HR.out _).mono ?_
    rintro e w' ⟨rfl, rfl⟩
    go_wp2_with fail
    refine (coded_sent 2 (by omega) _ A _ (HE.out.below (below_drewN (Below.refl _ _) (q + q2)))).mono ?_
    rintro e w2 ⟨rfl, hb⟩
    have HB := Lib.hid ((below_drewN (Below.refl w.heap.size w) (q + q2)).trans hb)
    clear hb
    go_wp2_with fail
    go_ret
    exact ⟨ret_bool (by simp), HB.out⟩
  · go_enter Tryd.func10, Tryd.ntmps10
    go_wp2_with fail
    refine (part_first _ _ _ hC hK).mono ?_
    rintro e w' ⟨rfl, q, rfl⟩
    go_wp2_with fail
    refine (HP.out (w.drewN q) hC hK).mono ?_
    rintro e w' ⟨rfl, q2, rfl⟩
    simp only [show partE 9 (sentV (A 2)) (sentV (A 8)) = sentV (A 8) from rfl]
    go_wp2_with fail
    refine (HR.out _).mono ?_
    rintro e w' ⟨rfl, rfl⟩
    go_wp2_with fail
    refine (coded_sent 8 (by omega) _ A _ (HE.out.below (below_drewN (Below.refl _ _) (q + q2)))).mono ?_
    rintro e w2 ⟨rfl, hb⟩
    have HB := Lib.hid ((below_drewN (Below.refl w.heap.size w) (q + q2)).trans hb)
    clear hb
    go_wp2_with fail
    go_ret
    exact ⟨ret_bool (by simp), HB.out⟩
end Go.Proofs.YtipbmpakdcmdoaaDoor.CoinPart

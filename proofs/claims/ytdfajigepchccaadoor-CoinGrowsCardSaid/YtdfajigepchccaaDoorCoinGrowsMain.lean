/- The law CoinGrows answers true: the walk. -/
import Derived.Test.YtdfajigepchccaaDoorBnM
import Derived.Test.YtdfajigepchccaaDoorBnG
import Derived.Test.YtdfajigepchccaaDoorAlive
namespace Go.Proofs.YtdfajigepchccaaDoor.CoinGrows
open Go.RowKit Mem Rnd Bn Cn Flt Err

theorem bandE_err {c : Nat} (h : c = 3 ∨ c = 8 ∨ c = 9) (a b d : Addr) : ∃ x, bandE c (sentV a) (sentV b) (sentV d) = sentV x := by
  rcases h with rfl | rfl | rfl
  · exact ⟨a, rfl⟩
  · exact ⟨b, rfl⟩
  · exact ⟨d, rfl⟩
set_option maxRecDepth 100000 in
set_option maxHeartbeats 4000000 in
theorem walk (am more : Int) (l : List Bd) (A0 : Option Addr) (c0 : Nat) (hl63 : l.length ≤ 9223372036854775807) (A : Nat → Addr) (rv : Value) (m : Int) (aO aK : Addr) (w : World) (hr : Rd w A0 (l.flatMap bdCells)) (hE : CE w A rv m)
    (hO : w.cell? ⟨7, 0, none⟩ = some (sentV aO)) (hK : w.cell? ⟨8, 0, none⟩ = some (sentV aK)) :
    Calls Tryd.prog 7 #[.int .i64 am, .int .i64 more, .slice A0 l.length c0] w fun e w' => e = .returned (.bool true) ∧ Below w.heap.size w w' := by
  have HE := Lib.hid hE
  have HR := Lib.hid hr
  have HO := Lib.hid hO
  have HK := Lib.hid hK
  clear hE hr hO hK
  go_enter Tryd.func7, Tryd.ntmps7
  go_wp2_with fail
  refine (alive_any A rv m _ HE.out).mono ?_
  rintro e w1 ⟨rfl, hb1⟩
  have HB1 := Lib.hid hb1
  clear hb1
  by_cases g1 : am < 0
  · go_wp2_with fail
    go_ret
    exact ⟨rfl, HB1.out⟩
  by_cases g2 : more < 0
  · go_wp2_with fail
    go_ret
    exact ⟨rfl, HB1.out⟩
  by_cases g3 : 1000000000000 < more
  · go_wp2_with fail
    go_ret
    exact ⟨rfl, HB1.out⟩
  by_cases g4 : 1000000000000 - more < am
  · go_wp2_with fail
    go_ret
    exact ⟨rfl, HB1.out⟩
  by_cases g5 : 60 < l.length
  · have hlc : (60 : Int) < (l.length : Int) := by omega
    go_wp2_with fail
    go_ret
    exact ⟨rfl, HB1.out⟩
  have hlc : ¬ (60 : Int) < (l.length : Int) := by omega
  go_wp2_with fail
  refine (copy_any l A0 c0 (by omega) _ (HR.out.ext HB1.out)).mono ?_
  rintro e w2 ⟨A2, c2, rfl, hr2, hb2⟩
  have HR2 := Lib.hid hr2
  have HB2 := Lib.hid (ext_trans HB1.out hb2)
  clear hr2 hb2
  go_wp2_with fail
  refine (bands_any am 2 l A2 c2 (by omega) (sentV (A 2)) (sentV aO) (sentV aK) w2 HR2.out (HE.out.ext HB2.out).c (cell_ext HB2.out HO.out) (cell_ext HB2.out HK.out)).mono ?_
  rintro e w3 ⟨rfl, hb3⟩
  have HB3 := Lib.hid (ext_trans HB2.out hb3)
  clear hb3
  have HCd := Lib.hid (codes am 2 l)
  obtain ⟨o, ho⟩ : ∃ o, o = bandsF am l 2 := ⟨_, rfl⟩
  rw [← ho] at HCd ⊢
  obtain ⟨a, ca⟩ := o
  have HOa := Lib.hid ho
  clear ho
  go_wp2_with fail
  refine (copy_any l A0 c0 (by omega) _ (HR.out.ext HB3.out)).mono ?_
  rintro e w4 ⟨A4, c4, rfl, hr4, hb4⟩
  have HR4 := Lib.hid hr4
  have HB4 := Lib.hid (ext_trans HB3.out hb4)
  clear hr4 hb4
  go_wp2_with fail
  refine (bands_any (am + more) 2 l A4 c4 (by omega) (sentV (A 2)) (sentV aO) (sentV aK) w4 HR4.out (HE.out.ext HB4.out).c (cell_ext HB4.out HO.out) (cell_ext HB4.out HK.out)).mono ?_
  rintro e w5 ⟨rfl, hb5⟩
  have HB5 := Lib.hid (ext_trans HB4.out hb5)
  clear hb5
  have HCe := Lib.hid (codes (am + more) 2 l)
  obtain ⟨o, ho⟩ : ∃ o, o = bandsF (am + more) l 2 := ⟨_, rfl⟩
  rw [← ho] at HCe ⊢
  obtain ⟨b, cb⟩ := o
  have HOb := Lib.hid ho
  clear ho
  by_cases h1 : ca = 0
  · subst h1
    by_cases h2 : cb = 0
    · subst h2
      have hg := grows (by omega) HOa.out.symm HOb.out.symm
      obtain ⟨p1, p2, p3, p4⟩ := hg
      have HG := Lib.hid p4
      clear p4
      rw [show bandE 0 (sentV (A 2)) (sentV aO) (sentV aK) = .nilIface from rfl]
      go_wp2_with fail
      go_loop [12] (fun s12 => ∃ k : Nat, s12 = .int .i64 k ∧ k ≤ l.length ∧ Hid (∀ j (h : j < l.length), j < k → l[j].2 ≤ 10000)) (fun s12 => (l.length - intOf s12).toNat)
      case atStart => exact ⟨0, rfl, Nat.zero_le _, fun j _ hj => absurd hj (by omega)⟩
      case round =>
        obtain ⟨k, rfl, hk, hno⟩ := hrel
        by_cases hlt : k < l.length
        · have hltc : (k : Int) < (l.length : Int) := by omega
          obtain ⟨bb, o, rfl, _, r1⟩ := band_at (HR.out.ext HB5.out) hlt
          obtain ⟨y, hy⟩ : ∃ y, y = l[k].2 := ⟨_, rfl⟩
          rw [← hy] at r1
          have HY := Lib.hid hy
          clear hy
          by_cases hle : 10000 < y
          · go_wp2_with fail
            go_ret
            exact ⟨by simp; try omega, HB5.out⟩
          · go_wp2_with fail
            go_round
            case rel =>
              refine ⟨k + 1, by go_num, by omega, fun j h hj => ?_⟩
              by_cases e : j = k
              · subst e; rw [← HY.out]; omega
              · exact hno.out j h (by omega)
            case measure => simp [intOf]; omega
        · have hltc : ¬ (k : Int) < (l.length : Int) := by omega
          have p5 := HG.out (fun x hx => by
            obtain ⟨j, hj, rfl⟩ := List.mem_iff_getElem.1 hx
            exact hno.out j hj (by omega))
          go_wp2_with fail
          go_ret
          exact ⟨by simp; try omega, HB5.out⟩
    · obtain ⟨x, hx⟩ := bandE_err (c := cb) (by have := HCe.out; dsimp only at *; omega) (A 2) aO aK
      rw [hx, show bandE 0 (sentV (A 2)) (sentV aO) (sentV aK) = .nilIface from rfl]
      clear hx
      unfold sentV
      go_wp2_with fail
      go_ret
      exact ⟨rfl, HB5.out⟩
  · obtain ⟨x, hx⟩ := bandE_err (c := ca) (by have := HCd.out; dsimp only at *; omega) (A 2) aO aK
    rw [hx]
    clear hx
    unfold sentV
    go_wp2_with fail
    go_ret
    exact ⟨rfl, HB5.out⟩
end Go.Proofs.YtdfajigepchccaaDoor.CoinGrows

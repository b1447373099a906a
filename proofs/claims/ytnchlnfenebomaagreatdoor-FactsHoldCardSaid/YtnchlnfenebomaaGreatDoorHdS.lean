/- Trees of nodes: how great one is (few), and its copy (From). -/
import Derived.Test.YtnchlnfenebomaaGreatDoorHdP
import Derived.Test.YtnchlnfenebomaaGreatDoorApp
import Derived.Test.YtnchlnfenebomaaGreatDoorSol
import Derived.StillTailTactics
import Derived.Deep.DeepCutAuto
namespace Go.Proofs.YtnchlnfenebomaaGreatDoor.Hd
open Go.RowKit Mem Nest Fk

def SzPost (d : Nat) (x : Nd) (deep : Int) (w : World) (e : Ending) (w' : World) : Prop :=
  ∃ z : Int, e = .returned (.int .i64 z) ∧ Below w.heap.size w w' ∧ 1 ≤ z ∧ z ≤ 500000000000000000 + 1000 * (62 - deep) ∧ (z ≤ 200 → SmallN d x)
set_option maxRecDepth 100000 in
set_option maxHeartbeats 2000000 in
theorem size_any (X : Nat → Prop) : ∀ (d : Nat) (x : Nd) (deep : Int) (w : World), InW w X d x → 0 ≤ deep → deep ≤ 61 → Calls Tryz.prog 34 #[ndV x, .int .i64 deep] w (SzPost d x deep w)
  | 0, _, _, _, h, _, _ => h.elim
  | d + 1, .mk k s n A c l, deep, w, h, hd0, hd => by
    have IH := Lib.hid (size_any X d)
    have HN := Lib.hid h
    have hk := h.2.2.1.2.2.1
    have hs := h.2.2.1.2.2.2
    have hl : l.length ≤ 9223372036854775807 := by
      have h1 := h.2.2.1.1
      have h2 := h.2.2.1.2.1
      unfold maxLen at h2
      omega
    clear h
    unfold ndV
    by_cases hdp : 60 < deep
    · go_enter Tryz.func34, Tryz.ntmps34
      go_wp2_with fail
      go_ret
      exact ⟨1000, rfl, ext_alloc _ _, by omega, by omega, fun h => absurd h (by omega)⟩
    · have hq1 : 0 ≤ ((s.length : Int) / 40) := by omega
      have hq2 : ((s.length : Int) / 40) ≤ 240000000000000000 := by omega
      have hq3 : 0 ≤ ((k.length : Int) / 40) := by omega
      have hq4 : ((k.length : Int) / 40) ≤ 240000000000000000 := by omega
      have hbk := Blk.new w 25 [.string ⟨k.toArray⟩, .string ⟨s.toArray⟩, .int .i64 n, .slice A l.length c]
      have hx := ext_alloc w (.cells (List.toArray [.string ⟨k.toArray⟩, .string ⟨s.toArray⟩, .int .i64 n, .slice A l.length c]) 25)
      obtain ⟨W, hW⟩ : ∃ W, W = w.alloc (.cells (List.toArray [.string ⟨k.toArray⟩, .string ⟨s.toArray⟩, .int .i64 n, .slice A l.length c]) 25) := ⟨_, rfl⟩
      obtain ⟨B, hB⟩ : ∃ B, B = w.heap.size := ⟨_, rfl⟩
      rw [← hW] at hx hbk
      rw [← hB] at hbk
      have HX := Lib.hid hx
      have HBk := Lib.hid hbk
      have HNW := Lib.hid (HN.out.ext hx)
      have y0 := hbk.cell 0 rfl
      have y1 := hbk.cell 1 rfl
      have y3 := hbk.cell 3 rfl
      clear hx hbk
      go_enter Tryz.func34, Tryz.ntmps34
      go_upto_region 1 with fail
      rw [show w.alloc (.cells #[.string ⟨k.toArray⟩, .string ⟨s.toArray⟩, .int .i64 n, .slice A l.length c] 25) = W from hW.symm, ← hB]
      clear hW hB
      go_wp2_with fail
      have HS0 := Lib.hid (show ∀ j (h : j < l.length), j < 0 → SmallN d l[j] from fun j _ hj => absurd hj (by omega))
      clear y0 y1 y3
      obtain ⟨z0, hz0⟩ : ∃ z0 : Int, 1 + (s.length : Int) / 40 + (k.length : Int) / 40 = z0 := ⟨_, rfl⟩
      have hz1 : 1 ≤ z0 := by omega
      have hz2 : z0 ≤ 500000000000000000 := by omega
      first | rw [hz0] | skip
      clear hz0 hq1 hq2 hq3 hq4
      go_loopw [5, 6] (fun t5 t6 wr => ∃ (z : Int) (i : Nat), t5 = .int .i64 z ∧ t6 = .int .i64 i ∧ i ≤ l.length ∧ (i : Int) + 1 ≤ z ∧ z ≤ 500000000000000000 + 1000 * (62 - deep) ∧ Hid (Below W.heap.size W wr) ∧ Hid (z ≤ 200 → ∀ j (h : j < l.length), j < i → SmallN d l[j])) (fun _ t6 _ => l.length - (intOf t6).toNat)
      case atStart => exact ⟨z0, 0, rfl, rfl, Nat.zero_le _, by omega, by omega, Below.refl _ _, fun _ => HS0.out⟩
      case round =>
        obtain ⟨z, i, rfl, rfl, hi, hz3, hz4, HB, HS⟩ := hrel
        have y3 := (Sol.blk_ext HBk.out HB.out).cell 3 rfl
        by_cases hlt : i < l.length
        · have hltc : (i : Int) < (l.length : Int) := by omega
          by_cases hz5 : z < 1000
          · obtain ⟨b', o', rfl, r0, r1, r2, r3, hk⟩ := (HNW.out.ext HB.out).kid hlt
            have HC := Lib.hid (fun wx (hb : Below wr.heap.size wr wx) => IH.out l[i] (deep + 1) wx (hk.ext hb) (by omega) (by omega))
            have HT := Lib.hid (fun (h : SmallN d l[i]) (h2 : ∀ j (h : j < l.length), j < i → SmallN d l[j]) j (h3 : j < l.length) (h4 : j < i + 1) => (by
              by_cases e : j = i
              · subst e; exact h
              · exact h2 j h3 (by omega) : SmallN d l[j]))
            generalize l[i] = x at r0 r1 r2 r3 HC HT
            obtain ⟨xk, xs, xn, xA, xc, xl⟩ := x
            simp only [Nd.kind, Nd.word, Nd.n, Nd.A, Nd.c, Nd.kids] at r0 r1 r2 r3
            unfold ndV at HC
            clear hk
            go_wp2_with fail
            refine (HC.out _ (Below.refl _ _)).mono ?_
            rintro e w3 ⟨z2, rfl, hb3, hz6, hz7, hsm⟩
            have HB3 := Lib.hid (HB.out.trans (hb3.mono HB.out.size))
            have HS3 := Lib.hid (show z + z2 ≤ 200 → ∀ j (h : j < l.length), j < i + 1 → SmallN d l[j] from fun h => HT.out (hsm (by omega)) (HS.out (by omega)))
            clear hb3 hsm HC HT
            go_wp2_with fail
            go_roundw
            case rel => exact ⟨z + z2, i + 1, by go_num, by go_num, by omega, by omega, by omega, HB3.out, HS3.out⟩
            case measure => simp [intOf]; omega
          · go_wp2_with fail
            go_ret
            exact ⟨z, rfl, HX.out.trans (HB.out.mono HX.out.size), by omega, hz4, fun h => absurd h (by omega)⟩
        · obtain rfl : l.length = i := by omega
          have hlc : ¬ (l.length : Int) < (l.length : Int) := by omega
          go_wp2_with fail
          go_ret
          exact ⟨z, rfl, HX.out.trans (HB.out.mono HX.out.size), by omega, hz4, fun h => ⟨by omega, fun x hx => by
            obtain ⟨j, hj, rfl⟩ := List.mem_iff_getElem.1 hx
            exact HS.out h j hj hj⟩⟩
end Go.Proofs.YtnchlnfenebomaaGreatDoor.Hd

/- script.label walked. -/
import Derived.Test.YtflklbhgjfonbaaGreatDoorLabW
namespace Go.Proofs.YtflklbhgjfonbaaGreatDoor.Lab
open Go.RowKit Mem

def LabPost (l : List UInt8) (w : World) (e : Ending) (w' : World) : Prop :=
  ∃ (ok : Bool) (n : Int) (low hi : List UInt8), e = .returned (.tuple #[.int .i64 n, .string ⟨low.toArray⟩, .string ⟨hi.toArray⟩, .bool ok]) ∧ Below w.heap.size w w' ∧ ((ok = true ∧ lab l = some (n, low, hi)) ∨ (ok = false ∧ lab l = none))
set_option maxRecDepth 100000 in
set_option maxHeartbeats 4000000 in
theorem label_any (l : List UInt8) (hlen : l.length ≤ 1000000) (w : World) : Calls Tryz.prog 80 #[.string ⟨l.toArray⟩] w (LabPost l w) := by
  by_cases hnil : l = []
  · have HN := Lib.hid (show lab l = none by rw [hnil]; exact lab_bad_first (fun h => by simp at h))
    subst hnil
    clear hlen
    go_enter Tryz.func80, Tryz.ntmps80
    go_wp2_with fail
    refine bodyPost_ret (v := .tuple #[.int .i64 0, .string ⟨#[]⟩, .string ⟨#[]⟩, .bool false]) (by simp [results, Tryz.results80, go_sem]) rfl ?_
    exact ⟨false, 0, [], [], rfl, Below.refl _ _, .inr ⟨rfl, HN.out⟩⟩
  · have h0 : 0 < l.length := List.length_pos_iff.2 hnil
    have hnb : (l == ([] : List UInt8)) = false := by rw [beq_eq_false_iff_ne]; exact hnil
    have hne : l.isEmpty = false := by rw [List.isEmpty_eq_false_iff]; exact hnil
    have hb0 : (0 : Int) < (l.length : Int) := by omega
    have hbl : (l.length : Int) ≤ 1000000 := by omega
    have hsz : 0 < (ByteArray.mk l.toArray).size := h0
    obtain ⟨c0, hc0⟩ : ∃ c0 : Int, c0 = (((ByteArray.mk l.toArray)[0]'hsz).toNat : Int) := ⟨_, rfl⟩
    have HC0 := Lib.hid (show c0 = ((l[0].toNat : Nat) : Int) from hc0)
    go_enter Tryz.func80, Tryz.ntmps80
    go_wp2_with fail
    refine (in_any _ _).mono ?_
    rintro e w' ⟨gd, rfl, hw', hgd⟩
    subst hw'
    have HGD := Lib.hid (show gd = true ↔ dig l[0] by rw [hgd]; unfold dig; rw [ba_at l 0 _ h0]; omega)
    clear hgd
    cases gd
    · have H0n := Lib.hid (show ¬ dig l[0] from fun hd => by simpa using HGD.out.2 hd)
      go_wp2_with fail
      refine (sm_any _ _).mono ?_
      rintro e w' ⟨gs, rfl, hw', hgs⟩
      subst hw'
      have HGS := Lib.hid (show gs = true ↔ sma l[0] by rw [hgs]; unfold sma; rw [ba_at l 0 _ h0]; omega)
      clear hgs
      cases gs
      · have HN := Lib.hid (show lab l = none from lab_bad_first (fun h => ⟨fun hd => H0n.out hd.1, fun hs => by simpa using HGS.out.2 hs⟩))
        have hx2 : (ByteArray.mk l.toArray).extract 0 l.length = ⟨l.toArray⟩ := by rw [ByteArray.extract_mk]; simp
        go_wp2_with fail
        refine bodyPost_ret (v := .tuple #[.int .i64 0, .string ⟨#[]⟩, .string ⟨#[]⟩, .bool false]) (by simp [results, Tryz.results80, go_sem]) rfl ?_
        exact ⟨false, 0, [], [], rfl, Below.refl _ _, .inr ⟨rfl, HN.out⟩⟩
      · have H0 := Lib.hid (HGS.out.1 (by simp))
        go_wp2_with fail
        go_loopw [6] (fun s6 wr => w = wr ∧ ∃ k : Nat, s6 = .int .i64 k ∧ k ≤ l.length ∧ Hid (∀ j (h : j < l.length), j < k → sma l[j])) (fun s6 _ => (l.length - intOf s6).toNat)
        case atStart => exact ⟨rfl, 0, rfl, by omega, fun j _ hj => absurd hj (by omega)⟩
        case round =>
          obtain ⟨hw, k, rfl, hk, HA⟩ := hrel
          subst hw
          by_cases hlt : k < l.length
          · have hcl : (k : Int) < (l.length : Int) := by omega
            go_wp2_with fail
            refine (sm_any _ _).mono ?_
            rintro e w' ⟨gd, rfl, hw', hgd⟩
            subst hw'
            have HGD := Lib.hid (show gd = true ↔ sma l[k] by rw [hgd]; unfold sma; rw [ba_at l k _ hlt]; omega)
            clear hgd
            cases gd
            · have HU := Lib.hid (show Upto sma l k from ⟨hk, HA.out, fun _ hd => by simpa using HGD.out.2 hd⟩)
              have hk1 : 1 ≤ k := Nat.one_le_iff_ne_zero.2 (fun e => by subst e; exact HU.out.stop h0 H0.out)
              clear HA HGD
              have hx1 : (ByteArray.mk l.toArray).extract 0 k = ⟨(l.take k).toArray⟩ := by rw [ByteArray.extract_mk]; simp
              have hx2 : (ByteArray.mk l.toArray).extract k l.length = ⟨(l.drop k).toArray⟩ := by rw [ByteArray.extract_mk]; congr 2; rw [List.take_of_length_le (by rw [List.length_drop]; omega)]
              have hkl := HU.out.le
              by_cases hk4 : 4 < k
              · have hki4 : 4 < (k : Int) := by omega
                have hki1 : ¬ (k : Int) < 1 := by omega
                have HN := Lib.hid (show lab l = none from lab_bad_sma HU.out (by omega) (.inl hk4))
                go_wp2_with fail
                refine bodyPost_ret (v := .tuple #[.int .i64 0, .string ⟨#[]⟩, .string ⟨#[]⟩, .bool false]) (by simp [results, Tryz.results80, go_sem]) rfl ?_
                exact ⟨false, 0, [], [], rfl, Below.refl _ _, .inr ⟨rfl, HN.out⟩⟩
              · have hki4 : ¬ 4 < (k : Int) := by omega
                have hki1 : ¬ (k : Int) < 1 := by omega
                by_cases hh : 2 < l.length - k
                · have hh2 : (2 : Int) < ((l.length - k : Nat) : Int) := by omega
                  have HN := Lib.hid (show lab l = none from lab_bad_sma HU.out (by omega) (.inr (.inl (by rw [List.length_drop]; exact hh))))
                  go_wp2_with fail
                  refine bodyPost_ret (v := .tuple #[.int .i64 0, .string ⟨#[]⟩, .string ⟨#[]⟩, .bool false]) (by simp [results, Tryz.results80, go_sem]) rfl ?_
                  exact ⟨false, 0, [], [], rfl, Below.refl _ _, .inr ⟨rfl, HN.out⟩⟩
                · have hh2 : ¬ (2 : Int) < ((l.length - k : Nat) : Int) := by omega
                  have HH := Lib.hid (show (l.drop k).length ≤ 2 by rw [List.length_drop]; omega)
                  obtain ⟨hi, hhi⟩ : ∃ hi, hi = l.drop k := ⟨_, rfl⟩
                  have HHI := Lib.hid hhi
                  have hlk : l.length - k = hi.length := by rw [hhi, List.length_drop]
                  rw [← hhi] at hx2
                  have hkk : (hi.length : Int) ≤ 2 := by rw [← hlk]; omega
                  rw [hlk] at hh2
                  clear hhi
                  go_wp2_with fail
                  go_loopw [2, 3, 4, 75] (fun s2 s3 s4 s75 wr => w = wr ∧ s2 = .int .i64 (0) ∧ s3 = .string ⟨(l.take k).toArray⟩ ∧ s4 = .string ⟨hi.toArray⟩ ∧ ∃ i : Nat, s75 = .int .i64 i ∧ i ≤ hi.length ∧ Hid (∀ j (h : j < hi.length), j < i → big hi[j])) (fun _ _ _ s75 _ => (hi.length - intOf s75).toNat)
                  case atStart => exact ⟨rfl, rfl, rfl, rfl, 0, rfl, by omega, fun j _ hj => absurd hj (by omega)⟩
                  case round =>
                    obtain ⟨hw, rfl, rfl, rfl, i, rfl, hi2, HA⟩ := hrel
                    subst hw
                    by_cases hli : i < hi.length
                    · have hci : (i : Int) < (hi.length : Int) := by omega
                      go_wp2_with fail
                      refine (bg_any _ _).mono ?_
                      rintro e w' ⟨gb, rfl, hw', hgb⟩
                      subst hw'
                      have HGB := Lib.hid (show gb = true ↔ big hi[i] by rw [hgb]; unfold big; rw [ba_at hi i _ hli]; omega)
                      clear hgb
                      cases gb
                      · have HN := Lib.hid (show lab l = none from lab_bad_sma HU.out (by omega) (.inr (.inr ⟨hi[i], by rw [← HHI.out]; exact List.getElem_mem hli, fun hb => by simpa using HGB.out.2 hb⟩)))
                        go_wp2_with fail
                        refine bodyPost_ret (v := .tuple #[.int .i64 0, .string ⟨#[]⟩, .string ⟨#[]⟩, .bool false]) (by simp [results, Tryz.results80, go_sem]) rfl ?_
                        exact ⟨false, 0, [], [], rfl, Below.refl _ _, .inr ⟨rfl, HN.out⟩⟩
                      · go_wp2_with fail
                        go_roundw
                        case rel =>
                          refine ⟨by first | trivial | rfl, by first | trivial | rfl, by first | trivial | rfl, by first | trivial | rfl, i + 1, by simp, by omega, ?_⟩
                          intro j hj hji
                          rcases Nat.lt_or_ge j i with h | h
                          · exact HA.out j hj h
                          · obtain rfl : j = i := by omega
                            exact HGB.out.1 (by simp)
                        case measure => simp [intOf] <;> omega
                    · have hci : ¬ (i : Int) < (hi.length : Int) := by omega
                      have HA2 := Lib.hid (show ∀ c ∈ l.drop k, big c by
                        rw [← HHI.out]
                        intro c hc
                        obtain ⟨j, hj, rfl⟩ := List.getElem_of_mem hc
                        exact HA.out j hj (by omega))
                      have HN := Lib.hid (show lab l = some (0, l.take k, l.drop k) from lab_smalls HU.out (by omega) (by omega) HH.out HA2.out)
                      rw [← HHI.out] at HN
                      go_wp2_with fail
                      refine bodyPost_ret (v := .tuple #[.int .i64 (0), .string ⟨(l.take k).toArray⟩, .string ⟨hi.toArray⟩, .bool true]) (by simp [results, Tryz.results80, go_sem]) rfl ?_
                      exact ⟨true, 0, l.take k, hi, rfl, Below.refl _ _, .inl ⟨rfl, HN.out⟩⟩
            · go_wp2_with fail
              go_roundw
              case rel =>
                refine ⟨by first | trivial | rfl, k + 1, by simp, by omega, ?_⟩
                intro j hj hji
                rcases Nat.lt_or_ge j k with h | h
                · exact HA.out j hj h
                · obtain rfl : j = k := by omega
                  exact HGD.out.1 (by simp)
              case measure => simp [intOf] <;> omega
          · have hcl : ¬ (k : Int) < (l.length : Int) := by omega
            have HU := Lib.hid (show Upto sma l k from ⟨hk, HA.out, fun h => absurd h hlt⟩)
            have hk1 : 1 ≤ k := by omega
            clear HA
            have hx1 : (ByteArray.mk l.toArray).extract 0 k = ⟨(l.take k).toArray⟩ := by rw [ByteArray.extract_mk]; simp
            have hx2 : (ByteArray.mk l.toArray).extract k l.length = ⟨(l.drop k).toArray⟩ := by rw [ByteArray.extract_mk]; congr 2; rw [List.take_of_length_le (by rw [List.length_drop]; omega)]
            have hkl := HU.out.le
            by_cases hk4 : 4 < k
            · have hki4 : 4 < (k : Int) := by omega
              have hki1 : ¬ (k : Int) < 1 := by omega
              have HN := Lib.hid (show lab l = none from lab_bad_sma HU.out (by omega) (.inl hk4))
              go_wp2_with fail
              refine bodyPost_ret (v := .tuple #[.int .i64 0, .string ⟨#[]⟩, .string ⟨#[]⟩, .bool false]) (by simp [results, Tryz.results80, go_sem]) rfl ?_
              exact ⟨false, 0, [], [], rfl, Below.refl _ _, .inr ⟨rfl, HN.out⟩⟩
            · have hki4 : ¬ 4 < (k : Int) := by omega
              have hki1 : ¬ (k : Int) < 1 := by omega
              by_cases hh : 2 < l.length - k
              · have hh2 : (2 : Int) < ((l.length - k : Nat) : Int) := by omega
                have HN := Lib.hid (show lab l = none from lab_bad_sma HU.out (by omega) (.inr (.inl (by rw [List.length_drop]; exact hh))))
                go_wp2_with fail
                refine bodyPost_ret (v := .tuple #[.int .i64 0, .string ⟨#[]⟩, .string ⟨#[]⟩, .bool false]) (by simp [results, Tryz.results80, go_sem]) rfl ?_
                exact ⟨false, 0, [], [], rfl, Below.refl _ _, .inr ⟨rfl, HN.out⟩⟩
              · have hh2 : ¬ (2 : Int) < ((l.length - k : Nat) : Int) := by omega
                have HH := Lib.hid (show (l.drop k).length ≤ 2 by rw [List.length_drop]; omega)
                obtain ⟨hi, hhi⟩ : ∃ hi, hi = l.drop k := ⟨_, rfl⟩
                have HHI := Lib.hid hhi
                have hlk : l.length - k = hi.length := by rw [hhi, List.length_drop]
                rw [← hhi] at hx2
                have hkk : (hi.length : Int) ≤ 2 := by rw [← hlk]; omega
                rw [hlk] at hh2
                clear hhi
                go_wp2_with fail
                go_loopw [2, 3, 4, 75] (fun s2 s3 s4 s75 wr => w = wr ∧ s2 = .int .i64 (0) ∧ s3 = .string ⟨(l.take k).toArray⟩ ∧ s4 = .string ⟨hi.toArray⟩ ∧ ∃ i : Nat, s75 = .int .i64 i ∧ i ≤ hi.length ∧ Hid (∀ j (h : j < hi.length), j < i → big hi[j])) (fun _ _ _ s75 _ => (hi.length - intOf s75).toNat)
                case atStart => exact ⟨rfl, rfl, rfl, rfl, 0, rfl, by omega, fun j _ hj => absurd hj (by omega)⟩
                case round =>
                  obtain ⟨hw, rfl, rfl, rfl, i, rfl, hi2, HA⟩ := hrel
                  subst hw
                  by_cases hli : i < hi.length
                  · have hci : (i : Int) < (hi.length : Int) := by omega
                    go_wp2_with fail
                    refine (bg_any _ _).mono ?_
                    rintro e w' ⟨gb, rfl, hw', hgb⟩
                    subst hw'
                    have HGB := Lib.hid (show gb = true ↔ big hi[i] by rw [hgb]; unfold big; rw [ba_at hi i _ hli]; omega)
                    clear hgb
                    cases gb
                    · have HN := Lib.hid (show lab l = none from lab_bad_sma HU.out (by omega) (.inr (.inr ⟨hi[i], by rw [← HHI.out]; exact List.getElem_mem hli, fun hb => by simpa using HGB.out.2 hb⟩)))
                      go_wp2_with fail
                      refine bodyPost_ret (v := .tuple #[.int .i64 0, .string ⟨#[]⟩, .string ⟨#[]⟩, .bool false]) (by simp [results, Tryz.results80, go_sem]) rfl ?_
                      exact ⟨false, 0, [], [], rfl, Below.refl _ _, .inr ⟨rfl, HN.out⟩⟩
                    · go_wp2_with fail
                      go_roundw
                      case rel =>
                        refine ⟨by first | trivial | rfl, by first | trivial | rfl, by first | trivial | rfl, by first | trivial | rfl, i + 1, by simp, by omega, ?_⟩
                        intro j hj hji
                        rcases Nat.lt_or_ge j i with h | h
                        · exact HA.out j hj h
                        · obtain rfl : j = i := by omega
                          exact HGB.out.1 (by simp)
                      case measure => simp [intOf] <;> omega
                  · have hci : ¬ (i : Int) < (hi.length : Int) := by omega
                    have HA2 := Lib.hid (show ∀ c ∈ l.drop k, big c by
                      rw [← HHI.out]
                      intro c hc
                      obtain ⟨j, hj, rfl⟩ := List.getElem_of_mem hc
                      exact HA.out j hj (by omega))
                    have HN := Lib.hid (show lab l = some (0, l.take k, l.drop k) from lab_smalls HU.out (by omega) (by omega) HH.out HA2.out)
                    rw [← HHI.out] at HN
                    go_wp2_with fail
                    refine bodyPost_ret (v := .tuple #[.int .i64 (0), .string ⟨(l.take k).toArray⟩, .string ⟨hi.toArray⟩, .bool true]) (by simp [results, Tryz.results80, go_sem]) rfl ?_
                    exact ⟨true, 0, l.take k, hi, rfl, Below.refl _ _, .inl ⟨rfl, HN.out⟩⟩
    · have H0 := Lib.hid (HGD.out.1 (by simp))
      by_cases h48 : c0 = 48
      · have hq : ((((ByteArray.mk l.toArray)[0]'hsz).toNat : Int) != 48) = false := by rw [← hc0, h48]; rfl
        have hq2 : (((ByteArray.mk l.toArray)[0]'hsz).toNat : Int) = 48 := by rw [← hc0, h48]
        have H48e := Lib.hid (show l[0].toNat = 48 by have := HC0.out; omega)
        clear hc0
        go_wp2_with fail
        refine (sm_any _ _).mono ?_
        rintro e w' ⟨gs, rfl, hw', hgs⟩
        subst hw'
        have HGS := Lib.hid (show gs = true ↔ sma l[0] by rw [hgs]; unfold sma; have h4 := H48e.out; omega)
        clear hgs
        cases gs
        · have HN := Lib.hid (show lab l = none from lab_bad_first (fun h => ⟨fun hd => hd.2 H48e.out, fun hs => by simpa using HGS.out.2 hs⟩))
          have hx2 : (ByteArray.mk l.toArray).extract 0 l.length = ⟨l.toArray⟩ := by rw [ByteArray.extract_mk]; simp
          go_wp2_with fail
          refine bodyPost_ret (v := .tuple #[.int .i64 0, .string ⟨#[]⟩, .string ⟨#[]⟩, .bool false]) (by simp [results, Tryz.results80, go_sem]) rfl ?_
          exact ⟨false, 0, [], [], rfl, Below.refl _ _, .inr ⟨rfl, HN.out⟩⟩
        · exfalso
          have := HGS.out.1 (by simp)
          have h := H48e.out
          unfold sma at this
          omega
      · have hq : ((((ByteArray.mk l.toArray)[0]'hsz).toNat : Int) != 48) = true := by rw [← hc0]; simpa using h48
        have hq2 : ¬ (((ByteArray.mk l.toArray)[0]'hsz).toNat : Int) = 48 := by rw [← hc0]; exact h48
        have H48 := Lib.hid (show ∀ h : 0 < l.length, l[0].toNat ≠ 48 from fun h => by have := HC0.out; omega)
        clear hc0
        go_wp2_with fail
        go_loopw [6] (fun s6 wr => w = wr ∧ ∃ k : Nat, s6 = .int .i64 k ∧ k ≤ l.length ∧ Hid (∀ j (h : j < l.length), j < k → dig l[j])) (fun s6 _ => (l.length - intOf s6).toNat)
        case atStart => exact ⟨rfl, 0, rfl, by omega, fun j _ hj => absurd hj (by omega)⟩
        case round =>
          obtain ⟨hw, k, rfl, hk, HA⟩ := hrel
          subst hw
          by_cases hlt : k < l.length
          · have hcl : (k : Int) < (l.length : Int) := by omega
            go_wp2_with fail
            refine (in_any _ _).mono ?_
            rintro e w' ⟨gd, rfl, hw', hgd⟩
            subst hw'
            have HGD := Lib.hid (show gd = true ↔ dig l[k] by rw [hgd]; unfold dig; rw [ba_at l k _ hlt]; omega)
            clear hgd
            cases gd
            · have HU := Lib.hid (show Upto dig l k from ⟨hk, HA.out, fun _ hd => by simpa using HGD.out.2 hd⟩)
              have hk1 : 1 ≤ k := Nat.one_le_iff_ne_zero.2 (fun e => by subst e; exact HU.out.stop h0 H0.out)
              clear HA HGD
              have hx2 : (ByteArray.mk l.toArray).extract k l.length = ⟨(l.drop k).toArray⟩ := by rw [ByteArray.extract_mk]; congr 2; rw [List.take_of_length_le (by rw [List.length_drop]; omega)]
              have hkl := HU.out.le
              by_cases hk4 : k ≤ 4
              · have hmn : min (k : Int) 4 = (k : Int) := by omega
                have hki4 : ¬ 4 < (k : Int) := by omega
                have hki1 : ¬ (k : Int) < 1 := by omega
                have hx1 : (ByteArray.mk l.toArray).extract 0 k = ⟨(l.take k).toArray⟩ := by rw [ByteArray.extract_mk]; simp
                have HAT := Lib.hid (atoi_any (l.take k) (by rw [List.length_take]; omega) (by rw [List.length_take]; omega) HU.out.take w)
                go_wp2_with fail
                refine HAT.out.mono ?_
                rintro e w1 ⟨rfl, hb1⟩
                have HB1 := Lib.hid hb1
                clear hb1 HAT
                by_cases hh : 2 < l.length - k
                · have hh2 : (2 : Int) < ((l.length - k : Nat) : Int) := by omega
                  have HN := Lib.hid (show lab l = none from lab_bad_dig HU.out (by omega) (.inr (.inl (by rw [List.length_drop]; exact hh))))
                  go_wp2_with fail
                  refine bodyPost_ret (v := .tuple #[.int .i64 0, .string ⟨#[]⟩, .string ⟨#[]⟩, .bool false]) (by simp [results, Tryz.results80, go_sem]) rfl ?_
                  exact ⟨false, 0, [], [], rfl, HB1.out, .inr ⟨rfl, HN.out⟩⟩
                · have hh2 : ¬ (2 : Int) < ((l.length - k : Nat) : Int) := by omega
                  have HH := Lib.hid (show (l.drop k).length ≤ 2 by rw [List.length_drop]; omega)
                  obtain ⟨hi, hhi⟩ : ∃ hi, hi = l.drop k := ⟨_, rfl⟩
                  have HHI := Lib.hid hhi
                  have hlk : l.length - k = hi.length := by rw [hhi, List.length_drop]
                  rw [← hhi] at hx2
                  have hkk : (hi.length : Int) ≤ 2 := by rw [← hlk]; omega
                  rw [hlk] at hh2
                  clear hhi
                  go_wp2_with fail
                  go_loopw [2, 3, 4, 75] (fun s2 s3 s4 s75 wr => w1 = wr ∧ s2 = .int .i64 (val (l.take k)) ∧ s3 = .string ⟨([]).toArray⟩ ∧ s4 = .string ⟨hi.toArray⟩ ∧ ∃ i : Nat, s75 = .int .i64 i ∧ i ≤ hi.length ∧ Hid (∀ j (h : j < hi.length), j < i → big hi[j])) (fun _ _ _ s75 _ => (hi.length - intOf s75).toNat)
                  case atStart => exact ⟨rfl, rfl, rfl, rfl, 0, rfl, by omega, fun j _ hj => absurd hj (by omega)⟩
                  case round =>
                    obtain ⟨hw, rfl, rfl, rfl, i, rfl, hi2, HA⟩ := hrel
                    subst hw
                    by_cases hli : i < hi.length
                    · have hci : (i : Int) < (hi.length : Int) := by omega
                      go_wp2_with fail
                      refine (bg_any _ _).mono ?_
                      rintro e w' ⟨gb, rfl, hw', hgb⟩
                      subst hw'
                      have HGB := Lib.hid (show gb = true ↔ big hi[i] by rw [hgb]; unfold big; rw [ba_at hi i _ hli]; omega)
                      clear hgb
                      cases gb
                      · have HN := Lib.hid (show lab l = none from lab_bad_dig HU.out (by omega) (.inr (.inr ⟨hi[i], by rw [← HHI.out]; exact List.getElem_mem hli, fun hb => by simpa using HGB.out.2 hb⟩)))
                        go_wp2_with fail
                        refine bodyPost_ret (v := .tuple #[.int .i64 0, .string ⟨#[]⟩, .string ⟨#[]⟩, .bool false]) (by simp [results, Tryz.results80, go_sem]) rfl ?_
                        exact ⟨false, 0, [], [], rfl, HB1.out, .inr ⟨rfl, HN.out⟩⟩
                      · go_wp2_with fail
                        go_roundw
                        case rel =>
                          refine ⟨by first | trivial | rfl, by first | trivial | rfl, by first | trivial | rfl, by first | trivial | rfl, i + 1, by simp, by omega, ?_⟩
                          intro j hj hji
                          rcases Nat.lt_or_ge j i with h | h
                          · exact HA.out j hj h
                          · obtain rfl : j = i := by omega
                            exact HGB.out.1 (by simp)
                        case measure => simp [intOf] <;> omega
                    · have hci : ¬ (i : Int) < (hi.length : Int) := by omega
                      have HA2 := Lib.hid (show ∀ c ∈ l.drop k, big c by
                        rw [← HHI.out]
                        intro c hc
                        obtain ⟨j, hj, rfl⟩ := List.getElem_of_mem hc
                        exact HA.out j hj (by omega))
                      have HN := Lib.hid (show lab l = some (val (l.take k), [], l.drop k) from lab_digits HU.out (by omega) (by omega) HH.out HA2.out H48.out)
                      rw [← HHI.out] at HN
                      go_wp2_with fail
                      refine bodyPost_ret (v := .tuple #[.int .i64 (val (l.take k)), .string ⟨([]).toArray⟩, .string ⟨hi.toArray⟩, .bool true]) (by simp [results, Tryz.results80, go_sem]) rfl ?_
                      exact ⟨true, val (l.take k), [], hi, rfl, HB1.out, .inl ⟨rfl, HN.out⟩⟩
              · have hmn : min (k : Int) 4 = 4 := by omega
                have hki4 : 4 < (k : Int) := by omega
                have hki1 : ¬ (k : Int) < 1 := by omega
                have hx1 : (ByteArray.mk l.toArray).extract 0 4 = ⟨(l.take 4).toArray⟩ := by rw [ByteArray.extract_mk]; simp
                have HAT := Lib.hid (atoi_any (l.take 4) (by rw [List.length_take]; omega) (by rw [List.length_take]; omega) (fun c hc => by obtain ⟨j, hj, rfl⟩ := List.getElem_of_mem hc; rw [List.length_take] at hj; rw [List.getElem_take]; exact HU.out.all j (by omega) (by omega)) w)
                go_wp2_with fail
                refine HAT.out.mono ?_
                rintro e w1 ⟨rfl, hb1⟩
                have HB1 := Lib.hid hb1
                clear hb1 HAT
                have HN := Lib.hid (show lab l = none from lab_bad_dig HU.out (by omega) (.inl (by omega)))
                go_wp2_with fail
                refine bodyPost_ret (v := .tuple #[.int .i64 0, .string ⟨#[]⟩, .string ⟨#[]⟩, .bool false]) (by simp [results, Tryz.results80, go_sem]) rfl ?_
                exact ⟨false, 0, [], [], rfl, HB1.out, .inr ⟨rfl, HN.out⟩⟩
            · go_wp2_with fail
              go_roundw
              case rel =>
                refine ⟨by first | trivial | rfl, k + 1, by simp, by omega, ?_⟩
                intro j hj hji
                rcases Nat.lt_or_ge j k with h | h
                · exact HA.out j hj h
                · obtain rfl : j = k := by omega
                  exact HGD.out.1 (by simp)
              case measure => simp [intOf] <;> omega
          · have hcl : ¬ (k : Int) < (l.length : Int) := by omega
            have HU := Lib.hid (show Upto dig l k from ⟨hk, HA.out, fun h => absurd h hlt⟩)
            have hk1 : 1 ≤ k := by omega
            clear HA
            have hx2 : (ByteArray.mk l.toArray).extract k l.length = ⟨(l.drop k).toArray⟩ := by rw [ByteArray.extract_mk]; congr 2; rw [List.take_of_length_le (by rw [List.length_drop]; omega)]
            have hkl := HU.out.le
            by_cases hk4 : k ≤ 4
            · have hmn : min (k : Int) 4 = (k : Int) := by omega
              have hki4 : ¬ 4 < (k : Int) := by omega
              have hki1 : ¬ (k : Int) < 1 := by omega
              have hx1 : (ByteArray.mk l.toArray).extract 0 k = ⟨(l.take k).toArray⟩ := by rw [ByteArray.extract_mk]; simp
              have HAT := Lib.hid (atoi_any (l.take k) (by rw [List.length_take]; omega) (by rw [List.length_take]; omega) HU.out.take w)
              go_wp2_with fail
              refine HAT.out.mono ?_
              rintro e w1 ⟨rfl, hb1⟩
              have HB1 := Lib.hid hb1
              clear hb1 HAT
              by_cases hh : 2 < l.length - k
              · have hh2 : (2 : Int) < ((l.length - k : Nat) : Int) := by omega
                have HN := Lib.hid (show lab l = none from lab_bad_dig HU.out (by omega) (.inr (.inl (by rw [List.length_drop]; exact hh))))
                go_wp2_with fail
                refine bodyPost_ret (v := .tuple #[.int .i64 0, .string ⟨#[]⟩, .string ⟨#[]⟩, .bool false]) (by simp [results, Tryz.results80, go_sem]) rfl ?_
                exact ⟨false, 0, [], [], rfl, HB1.out, .inr ⟨rfl, HN.out⟩⟩
              · have hh2 : ¬ (2 : Int) < ((l.length - k : Nat) : Int) := by omega
                have HH := Lib.hid (show (l.drop k).length ≤ 2 by rw [List.length_drop]; omega)
                obtain ⟨hi, hhi⟩ : ∃ hi, hi = l.drop k := ⟨_, rfl⟩
                have HHI := Lib.hid hhi
                have hlk : l.length - k = hi.length := by rw [hhi, List.length_drop]
                rw [← hhi] at hx2
                have hkk : (hi.length : Int) ≤ 2 := by rw [← hlk]; omega
                rw [hlk] at hh2
                clear hhi
                go_wp2_with fail
                go_loopw [2, 3, 4, 75] (fun s2 s3 s4 s75 wr => w1 = wr ∧ s2 = .int .i64 (val (l.take k)) ∧ s3 = .string ⟨([]).toArray⟩ ∧ s4 = .string ⟨hi.toArray⟩ ∧ ∃ i : Nat, s75 = .int .i64 i ∧ i ≤ hi.length ∧ Hid (∀ j (h : j < hi.length), j < i → big hi[j])) (fun _ _ _ s75 _ => (hi.length - intOf s75).toNat)
                case atStart => exact ⟨rfl, rfl, rfl, rfl, 0, rfl, by omega, fun j _ hj => absurd hj (by omega)⟩
                case round =>
                  obtain ⟨hw, rfl, rfl, rfl, i, rfl, hi2, HA⟩ := hrel
                  subst hw
                  by_cases hli : i < hi.length
                  · have hci : (i : Int) < (hi.length : Int) := by omega
                    go_wp2_with fail
                    refine (bg_any _ _).mono ?_
                    rintro e w' ⟨gb, rfl, hw', hgb⟩
                    subst hw'
                    have HGB := Lib.hid (show gb = true ↔ big hi[i] by rw [hgb]; unfold big; rw [ba_at hi i _ hli]; omega)
                    clear hgb
                    cases gb
                    · have HN := Lib.hid (show lab l = none from lab_bad_dig HU.out (by omega) (.inr (.inr ⟨hi[i], by rw [← HHI.out]; exact List.getElem_mem hli, fun hb => by simpa using HGB.out.2 hb⟩)))
                      go_wp2_with fail
                      refine bodyPost_ret (v := .tuple #[.int .i64 0, .string ⟨#[]⟩, .string ⟨#[]⟩, .bool false]) (by simp [results, Tryz.results80, go_sem]) rfl ?_
                      exact ⟨false, 0, [], [], rfl, HB1.out, .inr ⟨rfl, HN.out⟩⟩
                    · go_wp2_with fail
                      go_roundw
                      case rel =>
                        refine ⟨by first | trivial | rfl, by first | trivial | rfl, by first | trivial | rfl, by first | trivial | rfl, i + 1, by simp, by omega, ?_⟩
                        intro j hj hji
                        rcases Nat.lt_or_ge j i with h | h
                        · exact HA.out j hj h
                        · obtain rfl : j = i := by omega
                          exact HGB.out.1 (by simp)
                      case measure => simp [intOf] <;> omega
                  · have hci : ¬ (i : Int) < (hi.length : Int) := by omega
                    have HA2 := Lib.hid (show ∀ c ∈ l.drop k, big c by
                      rw [← HHI.out]
                      intro c hc
                      obtain ⟨j, hj, rfl⟩ := List.getElem_of_mem hc
                      exact HA.out j hj (by omega))
                    have HN := Lib.hid (show lab l = some (val (l.take k), [], l.drop k) from lab_digits HU.out (by omega) (by omega) HH.out HA2.out H48.out)
                    rw [← HHI.out] at HN
                    go_wp2_with fail
                    refine bodyPost_ret (v := .tuple #[.int .i64 (val (l.take k)), .string ⟨([]).toArray⟩, .string ⟨hi.toArray⟩, .bool true]) (by simp [results, Tryz.results80, go_sem]) rfl ?_
                    exact ⟨true, val (l.take k), [], hi, rfl, HB1.out, .inl ⟨rfl, HN.out⟩⟩
            · have hmn : min (k : Int) 4 = 4 := by omega
              have hki4 : 4 < (k : Int) := by omega
              have hki1 : ¬ (k : Int) < 1 := by omega
              have hx1 : (ByteArray.mk l.toArray).extract 0 4 = ⟨(l.take 4).toArray⟩ := by rw [ByteArray.extract_mk]; simp
              have HAT := Lib.hid (atoi_any (l.take 4) (by rw [List.length_take]; omega) (by rw [List.length_take]; omega) (fun c hc => by obtain ⟨j, hj, rfl⟩ := List.getElem_of_mem hc; rw [List.length_take] at hj; rw [List.getElem_take]; exact HU.out.all j (by omega) (by omega)) w)
              go_wp2_with fail
              refine HAT.out.mono ?_
              rintro e w1 ⟨rfl, hb1⟩
              have HB1 := Lib.hid hb1
              clear hb1 HAT
              have HN := Lib.hid (show lab l = none from lab_bad_dig HU.out (by omega) (.inl (by omega)))
              go_wp2_with fail
              refine bodyPost_ret (v := .tuple #[.int .i64 0, .string ⟨#[]⟩, .string ⟨#[]⟩, .bool false]) (by simp [results, Tryz.results80, go_sem]) rfl ?_
              exact ⟨false, 0, [], [], rfl, HB1.out, .inr ⟨rfl, HN.out⟩⟩
end Go.Proofs.YtflklbhgjfonbaaGreatDoor.Lab

/- The law ReasonTotal answers true: the walk. -/
import Derived.Test.YtipbmpakdcmdoaaDoorLive
namespace Go.Proofs.YtipbmpakdcmdoaaDoor.ReasonTotal
open Go.RowKit Mem Thy Nest Day Thm Solve Val LawT

def BoolT (w : World) (e : Ending) (w' : World) : Prop := e = .returned (.bool true) ∧ Below w.heap.size w w'
set_option maxRecDepth 100000 in
set_option maxHeartbeats 1000000 in
theorem walk_nil (aB aK aN aO : Addr) (w : World) (hE : E4 w aB aK aN aO) : Calls Tryd.prog 7 #[.pointer none] w (BoolT w) := by
  have HL := Lib.hid (live_any aB aK aN aO w hE)
  clear hE
  go_enter Tryd.func7, Tryd.ntmps7
  go_wp2_with fail
  refine HL.out.mono ?_
  rintro e w1 ⟨rfl, hb⟩
  have HB := Lib.hid hb
  clear hb
  go_wp2_with fail
  go_ret
  exact ⟨rfl, HB.out⟩
theorem thOf_congr {n : Nat} {rs rs' : List Rw} {ov : List (Int × Int)} (h : rs'.map Rw.rl = rs.map Rw.rl) : thOf n rs' ov = thOf n rs ov := by unfold thOf; rw [h]
theorem place_half {q : Int} (_h : q ≠ 0) : place q / 2 = q.natAbs - 1 := by unfold place; split <;> omega
theorem right_rules {n : Nat} {rs rs' : List Rw} {ov : List (Int × Int)} (hr : Right n rs' ov) (h : rs'.map Rw.rl = rs.map Rw.rl) : ∀ r ∈ rs, (r.head ≠ 0 ∧ -(n : Int) ≤ r.head ∧ r.head ≤ n) ∧ ∀ x ∈ r.body, x ≠ 0 ∧ -(n : Int) ≤ x ∧ x ≤ n := fun r hm => by
  have hN := hr.names
  have h1 : r.rl ∈ rs'.map Rw.rl := by rw [h]; exact List.mem_map.2 ⟨r, hm, rfl⟩
  obtain ⟨r', hm', e⟩ := List.mem_map.1 h1
  have e1 : r'.head = r.head := congrArg Rl.head e
  have e2 : r'.body = r.body := congrArg Rl.body e
  refine ⟨?_, fun x hx => ?_⟩
  · rw [← e1]
    exact (litW_iff hN.1 hN.2).1 (Classical.byContradiction fun c => hr.n (.inl ⟨r', hm', .inl c⟩))
  · exact (litW_iff hN.1 hN.2).1 (Classical.byContradiction fun c => hr.n (.inl ⟨r', hm', .inr ⟨x, by rw [e2]; exact hx, c⟩⟩))
theorem total_at {n : Nat} {rs rs' : List Rw} {ov : List (Int × Int)} {S H : List Int} (hr : Right n rs' ov) (h : rs'.map Rw.rl = rs.map Rw.rl) (lS : S.length = 2 * n) (lH : H.length = 2 * n) (g : Thy.Good (thOf n rs' ov) (stOf S) (stOf H)) (f : Thy.Fin (thOf n rs' ov) (stOf S) (stOf H))
    (hb : ∀ r ∈ rs, ∀ x ∈ r.body, place x / 2 < place r.head / 2) {p : Nat} (hp : p < 2 * n) : ∃ (h1 : p < S.length) (h2 : p < H.length), S[p] ≠ 0 ∧ H[p] ≠ 0 := by
  have hl := right_rules hr h
  have l : (thOf n rs' ov).Lit (lit p) := ⟨lit_ne p, by simp only [thOf]; unfold lit; split <;> omega, by simp only [thOf]; unfold lit; split <;> omega⟩
  have hmem : ∀ r ∈ (thOf n rs' ov).rules, ∃ r' ∈ rs, r = r'.rl := fun r hr' => by
    have : r ∈ rs.map Rw.rl := h ▸ hr'
    obtain ⟨r', h1, h2⟩ := List.mem_map.1 this
    exact ⟨r', h1, h2.symm⟩
  have := total g f (fun r hr' x hx => by
    obtain ⟨r', h1, rfl⟩ := hmem r hr'
    exact (hl r' h1).2 x hx) (fun r hr' x hx => by
    obtain ⟨r', h1, rfl⟩ := hmem r hr'
    have h2 := hb r' h1 x hx
    have h3 := ((hl r' h1).2 x hx).1
    have h4 := (hl r' h1).1.1
    rw [place_half h3, place_half h4] at h2
    show x.natAbs < r'.head.natAbs
    omega) _ (lit p) (Nat.le_refl _) l
  rw [stOf_lit S (p := p) (by omega), stOf_lit H (p := p) (by omega)] at this
  exact ⟨by omega, by omega, this⟩
set_option maxHeartbeats 400000 in
theorem place4_any (q : Int) (h : q ≠ 0) (h1 : -120 ≤ q) (h2 : q ≤ 120) (w : World) :
    Calls Tryd.prog 31 #[.int .i64 q] w fun e w' => e = .returned (.int .i64 (place q : Nat)) ∧ w = w' := by
  by_cases hp : q < 0
  · have HP := Lib.hid (show -2 * q - 1 = ((place q : Nat) : Int) by unfold place; rw [if_neg (by omega)]; omega)
    go_enter Tryd.func31, Tryd.ntmps31
    go_wp2_with fail
    go_ret
    exact ⟨ret_int HP.out, rfl⟩
  · have HP := Lib.hid (show 2 * q - 2 = ((place q : Nat) : Int) by unfold place; rw [if_pos (by omega)]; omega)
    go_enter Tryd.func31, Tryd.ntmps31
    go_wp2_with fail
    go_ret
    exact ⟨ret_int HP.out, rfl⟩
set_option maxRecDepth 100000 in
set_option maxHeartbeats 1600000 in
theorem walk_ptr (b o : Nat) (N : Int) (rs : List Rw) (RA : Option Addr) (rc : Nat) (ov : List (Int × Int)) (OA : Option Addr) (oc : Nat) (aB aK aN aO : Addr) (w : World) (h : ThA w b o N rs RA rc ov OA oc) (hE : E4 w aB aK aN aO) :
    Calls Tryd.prog 7 #[.pointer (some ⟨b, o, none⟩)] w (BoolT w) := by
  have HL := Lib.hid (live_any aB aK aN aO w hE)
  have HA := Lib.hid h
  have HE := Lib.hid hE
  clear h hE
  go_enter Tryd.func7, Tryd.ntmps7
  go_wp2_with fail
  refine HL.out.mono ?_
  rintro e w1 ⟨rfl, hb1⟩
  have HB1 := Lib.hid hb1
  clear hb1
  go_wp2_with fail
  refine (few_any b o N rs RA rc ov OA oc _ (HA.out.ext HB1.out)).mono ?_
  rintro e w' ⟨⟨bf, rfl⟩, rfl⟩
  cases bf
  · go_wp2_with fail
    go_ret
    exact ⟨rfl, HB1.out⟩
  · go_wp2_with fail
    refine (theory_any b o N rs RA rc ov OA oc _ (HA.out.ext HB1.out)).mono ?_
    rintro e w2 ⟨rs', RA', rc', OA', oc', rfl, hrl, hR, hO, hb2⟩
    have HRl := Lib.hid hrl
    have HB2 := Lib.hid (ext_trans HB1.out hb2)
    have hl3 := HA.out.l3
    have HSo := Lib.hid (solve_any N rs' RA' rc' ov (by omega) OA' oc' aB aK aN aO w2 hR hO (HE.out.ext HB2.out).e)
    clear hrl hR hO hb2
    go_wp2_with fail
    refine HSo.out.mono ?_
    rintro e w3 ⟨kv, ev, rfl, hb3, hs⟩
    have HB3 := Lib.hid (ext_trans HB2.out hb3)
    clear hb3
    rcases hs with ⟨_, _, ⟨a, rfl⟩, rfl⟩ | ⟨hr, rfl, n, sb, hb, S, H, hn, rfl, hS, hH, lS, lH, hg, hf⟩
    · unfold errV
      go_wp2_with fail
      go_ret
      exact ⟨rfl, ext_trans HB3.out (ext_alloc _ _)⟩
    · subst hn
      have hrl2 := HRl.out
      have hn2 := hr.names
      have hn3 : n ≤ 120 := by omega
      have HRul := Lib.hid (right_rules hr hrl2)
      have HT := Lib.hid (fun (hb : ∀ r ∈ rs, ∀ x ∈ r.body, place x / 2 < place r.head / 2) p (hp : p < 2 * n) => total_at hr hrl2 lS lH hg hf hb hp)
      have HS := Lib.hid hS
      have HH := Lib.hid hH
      have HX4 := Lib.hid (fun ob => ext_trans HB3.out (ext_alloc w3 ob))
      clear hr hS hH lS lH hg hf hn2 hrl2
      go_wp2_with fail
      generalize hW : w3.alloc (.cells #[.slice (some ⟨sb, 0, none⟩) (2 * n) (2 * n), .slice (some ⟨hb, 0, none⟩) (2 * n) (2 * n)] 60) = W
      have HAW := Lib.hid (show ThA W b o n rs RA rc ov OA oc from hW ▸ HA.out.ext (ext_trans HB3.out (ext_alloc w3 _)))
      have HBW := Lib.hid (show Below w.heap.size w W from hW ▸ ext_trans HB3.out (ext_alloc w3 _))
      have HSW := Lib.hid (show Blk W sb 3 (ints S) from hW ▸ Sol.blk_ext HS.out (ext_alloc w3 _))
      have HHW := Lib.hid (show Blk W hb 3 (ints H) from hW ▸ Sol.blk_ext HH.out (ext_alloc w3 _))
      have HKW := Lib.hid (show Blk W w3.heap.size 60 [.slice (some ⟨sb, 0, none⟩) (2 * n) (2 * n), .slice (some ⟨hb, 0, none⟩) (2 * n) (2 * n)] from hW ▸ Blk.new w3 _ [_, _])
      have l1 := HA.out.l1
      have l2 := Lib.hid HA.out.l2
      clear hW
      go_loopw [7] (fun t7 wr => ∃ i q : Nat, t7 = .int .i64 i ∧ i ≤ rs.length ∧ wr = W.drewN q ∧ Hid (∀ j (h : j < rs.length), j < i → ∀ x ∈ rs[j].body, place x / 2 < place rs[j].head / 2)) (fun t7 _ => rs.length - (intOf t7).toNat)
      case atStart => exact ⟨0, 0, rfl, Nat.zero_le _, rfl, fun j h hj => absurd hj (by omega)⟩
      case round =>
        obtain ⟨i, q, rfl, hi, rfl, HI⟩ := hrel
        have c1 := HAW.out.c1
        by_cases hlt : i < rs.length
        · obtain ⟨b', o', rfl, r0, r1, r2⟩ := HAW.out.rules.row hlt
          obtain ⟨r, hr⟩ : ∃ r, r = rs[i] := ⟨_, rfl⟩
          rw [← hr] at r0 r1 r2
          have hbl : r.body.length ≤ 1048576 := hr ▸ l2.out _ (List.getElem_mem hlt)
          have HBd := Lib.hid (hr ▸ HAW.out.rules.bods _ (List.getElem_mem hlt))
          have HLit := Lib.hid (hr ▸ HRul.out _ (List.getElem_mem hlt))
          have HRj := Lib.hid hr
          clear hr
          go_wp2_with fail
          go_loopw [8] (fun t8 wr => ∃ k q : Nat, t8 = .int .i64 k ∧ k ≤ r.body.length ∧ wr = W.drewN q ∧ Hid (∀ m (h : m < r.body.length), m < k → place r.body[m] / 2 < place r.head / 2)) (fun t8 _ => r.body.length - (intOf t8).toNat)
          case atStart => exact ⟨0, q, rfl, Nat.zero_le _, rfl, fun m h hm => absurd hm (by omega)⟩
          case round =>
            obtain ⟨k, q, rfl, hk, hwr, HK⟩ := hrel
            have HQ := Lib.hid hwr
            have c1 : wr.cell? ⟨b, o + 1, none⟩ = some (.slice (some ⟨b', o', none⟩) rs.length rc) := by rw [hwr]; exact HAW.out.c1
            have r1 : wr.cell? ⟨b', o' + i * 3 + 1, none⟩ = some (.int .i64 r.head) := by rw [hwr]; exact r1
            have r2 : wr.cell? ⟨b', o' + i * 3 + 2, none⟩ = some (.slice r.A r.body.length r.c) := by rw [hwr]; exact r2
            have HBd2 := Lib.hid (show Rd wr r.A (ints r.body) from hwr ▸ HBd.out.ext (ext_drewN W q))
            clear hwr
            by_cases hkl : k < r.body.length
            · obtain ⟨b2, o2, hrA, hc⟩ := HBd2.out.int hkl
              have HLx := Lib.hid (HLit.out.2 _ (List.getElem_mem hkl))
              have HKs := Lib.hid (show place r.body[k] / 2 < place r.head / 2 → Hid (∀ m (h : m < r.body.length), m < k + 1 → place r.body[m] / 2 < place r.head / 2) from fun hn m h hm => by
                by_cases e : m = k
                · subst e; exact hn
                · exact HK.out m h (by omega))
              have HRA := Lib.hid hrA
              rw [HRA.out] at r2
              clear hrA
              generalize r.body[k] = x at *
              obtain ⟨x0, x1, x2⟩ := HLx.out
              obtain ⟨y0, y1, y2⟩ := HLit.out.1
              obtain ⟨px, hpx⟩ : ∃ px, px = place x := ⟨_, rfl⟩
              obtain ⟨py, hpy⟩ : ∃ py, py = place r.head := ⟨_, rfl⟩
              have hpxb : px ≤ 240 := by have := place_lt x0 x1 x2; omega
              have hpyb : py ≤ 240 := by have := place_lt y0 y1 y2; omega
              have HPx := Lib.hid (fun w => hpx ▸ place4_any x x0 (by omega) (by omega) w)
              have HPy := Lib.hid (fun w => hpy ▸ place4_any r.head y0 (by omega) (by omega) w)
              have HKt := Lib.hid (show px / 2 < py / 2 → _ from fun h => HKs.out (by rw [← hpx, ← hpy]; exact h))
              clear hpx hpy x0 y0
              have d1 : ((px : Nat) : Int).tdiv 2 = ((px / 2 : Nat) : Int) := by rw [Int.tdiv_eq_ediv_of_nonneg (by omega)]; omega
              have d2 : ((py : Nat) : Int).tdiv 2 = ((py / 2 : Nat) : Int) := by rw [Int.tdiv_eq_ediv_of_nonneg (by omega)]; omega
              have kn0 : (0 : Int) ≤ (k : Int) := by omega
              have kn1 : (k : Int) < (r.body.length : Int) := by omega
              have in0 : (0 : Int) ≤ (i : Int) := by omega
              have in1 : (i : Int) < (rs.length : Int) := by omega
              go_wp2_with fail
              go_quiet ((first | (go_at_call_of 31 (Value.int .i64 x); exact Sol.quiet_same (HPx.out _)) | (go_at_call_of 31 (Value.int .i64 r.head); exact Sol.quiet_same (HPy.out _))))
              clear d1 d2 c1 r1 r2 hc kn0 in0
              by_cases hge : py / 2 ≤ px / 2
              · have hg1 : (py : Int) / 2 ≤ (px : Int) / 2 := by omega
                have hg2 : decide ((py : Int) / 2 ≤ (px : Int) / 2) = true := by simp [hg1]
                go_wp2_with fail
                go_ret
                exact ⟨rfl, ext_trans HBW.out (by have := HQ.out; subst this; simpa using ext_drewN W (q + nq))⟩
              · have hg1 : ¬ (py : Int) / 2 ≤ (px : Int) / 2 := by omega
                have hg2 : decide ((py : Int) / 2 ≤ (px : Int) / 2) = false := by simp [hg1]
                have HN := Lib.hid (HKt.out (by omega))
                go_wp2_with fail
                go_roundw
                case rel => exact ⟨k + 1, q + nq, by go_num, by omega, by have := HQ.out; subst this; simp, HN.out⟩
                case measure => simp [intOf]; omega
            · obtain rfl : r.body.length = k := by omega
              go_wp2_with fail
              go_roundw
              case rel =>
                refine ⟨i + 1, q, by go_num, by omega, HQ.out, fun j h hj x hx => ?_⟩
                by_cases e : j = i
                · subst e
                  rw [← HRj.out] at hx ⊢
                  obtain ⟨m, hm, rfl⟩ := List.mem_iff_getElem.1 hx
                  exact HK.out m hm hm
                · exact HI.out j h (by omega) x hx
              case measure => simp [intOf]; omega
        · obtain rfl : rs.length = i := by omega
          have HTt := Lib.hid (fun p hp => HT.out (fun r hr x hx => by
            obtain ⟨j, hj, rfl⟩ := List.mem_iff_getElem.1 hr
            exact HI.out j hj hj x hx) p hp)
          go_wp2_with fail
          have k0 := HKW.out.cell 0 rfl
          have k1 := HKW.out.cell 1 rfl
          go_loop [9] (fun t9 => ∃ p : Nat, t9 = .int .i64 p ∧ p ≤ 2 * n) (fun t9 => 2 * n - (intOf t9).toNat)
          case atStart => exact ⟨0, rfl, Nat.zero_le _⟩
          case round =>
            obtain ⟨p, rfl, hp⟩ := hrel
            by_cases hlt2 : p < 2 * n
            · obtain ⟨h1, h2, f1, f2⟩ := HTt.out p hlt2
              have s1 := Sol.ints_at HSW.out h1
              have s2 := Sol.ints_at HHW.out h2
              have e1 : (S[p] == 0) = false := by simp [f1]
              have e2 : (H[p] == 0) = false := by simp [f2]
              generalize S[p] = va at *
              generalize H[p] = vc at *
              have hlt3 : (p : Int) < 2 * n := by omega
              clear f1 f2 h1 h2
              go_wp2_with fail
              go_round
              case rel => exact ⟨p + 1, by go_num, by omega⟩
              case measure => simp [intOf]; omega
            · have hlt3 : ¬ (p : Int) < 2 * n := by omega
              go_wp2_with fail
              go_ret
              exact ⟨rfl, ext_trans HBW.out (ext_drewN W q)⟩
end Go.Proofs.YtipbmpakdcmdoaaDoor.ReasonTotal

/- The law ReasonFirm answers true: the walk. -/
import Derived.Test.YtipbmpakdcmdoaaDoorLive
namespace Go.Proofs.YtipbmpakdcmdoaaDoor.ReasonFirm
open Go.RowKit Mem Thy Nest Day Thm Solve Val LawT

def BoolT (w : World) (e : Ending) (w' : World) : Prop := e = .returned (.bool true) ∧ Below w.heap.size w w'
set_option maxRecDepth 100000 in
set_option maxHeartbeats 1000000 in
theorem walk_nil (aB aK aN aO : Addr) (w : World) (hE : E4 w aB aK aN aO) : Calls Tryd.prog 6 #[.pointer none] w (BoolT w) := by
  have HL := Lib.hid (live_any aB aK aN aO w hE)
  clear hE
  go_enter Tryd.func6, Tryd.ntmps6
  go_wp2_with fail
  refine HL.out.mono ?_
  rintro e w1 ⟨rfl, hb⟩
  have HB := Lib.hid hb
  clear hb
  go_wp2_with fail
  go_ret
  exact ⟨rfl, HB.out⟩
theorem thOf_congr {n : Nat} {rs rs' : List Rw} {ov : List (Int × Int)} (h : rs'.map Rw.rl = rs.map Rw.rl) : thOf n rs' ov = thOf n rs ov := by unfold thOf; rw [h]
theorem firm_at {n : Nat} {rs : List Rw} {ov : List (Int × Int)} {S H : List Int} (hr : Right n rs ov) (lS : S.length = 2 * n) (lH : H.length = 2 * n) (g : Thy.Good (thOf n rs ov) (stOf S) (stOf H)) (f : Thy.Fin (thOf n rs ov) (stOf S) (stOf H)) {p : Nat} (hp : p < 2 * n) :
    ∃ (h1 : p < S.length) (h2 : p < H.length) (h3 : other p < S.length) (h4 : other p < H.length), (H[p] = 1 → H[other p] = 1 → S[p] = 1 ∧ S[other p] = 1) ∧ (S[p] = 1 → H[p] = 1) ∧ (H[p] = 2 → S[p] = 2) := by
  have ho : other p < 2 * n := by unfold other; split <;> omega
  have l : (thOf n rs ov).Lit (lit p) := ⟨lit_ne p, by simp only [thOf]; unfold lit; split <;> omega, by simp only [thOf]; unfold lit; split <;> omega⟩
  have := firm g f hr.o l
  rw [← lit_other, stOf_lit S (p := p) (by omega), stOf_lit H (p := p) (by omega), stOf_lit S (p := other p) (by omega), stOf_lit H (p := other p) (by omega)] at this
  exact ⟨by omega, by omega, by omega, by omega, this⟩
set_option maxRecDepth 100000 in
set_option maxHeartbeats 4000000 in
theorem walk_ptr (b o : Nat) (N : Int) (rs : List Rw) (RA : Option Addr) (rc : Nat) (ov : List (Int × Int)) (OA : Option Addr) (oc : Nat) (aB aK aN aO : Addr) (w : World) (h : ThA w b o N rs RA rc ov OA oc) (hE : E4 w aB aK aN aO) :
    Calls Tryd.prog 6 #[.pointer (some ⟨b, o, none⟩)] w (BoolT w) := by
  have HL := Lib.hid (live_any aB aK aN aO w hE)
  have HA := Lib.hid h
  have HE := Lib.hid hE
  clear h hE
  go_enter Tryd.func6, Tryd.ntmps6
  go_wp2_with fail
  refine HL.out.mono ?_
  rintro e w1 ⟨rfl, hb1⟩
  have HB1 := Lib.hid hb1
  clear hb1
  go_wp2_with fail
  refine (few_any b o N rs RA rc ov OA oc _ (HA.out.ext HB1.out)).mono ?_
  rintro e w' ⟨⟨bf, rfl⟩, rfl⟩
  cases bf
  · go_wp2_with fail
    go_ret
    exact ⟨rfl, HB1.out⟩
  · go_wp2_with fail
    refine (theory_any b o N rs RA rc ov OA oc _ (HA.out.ext HB1.out)).mono ?_
    rintro e w2 ⟨rs', RA', rc', OA', oc', rfl, hrl, hR, hO, hb2⟩
    have HRl := Lib.hid hrl
    have HB2 := Lib.hid (ext_trans HB1.out hb2)
    have hl3 := HA.out.l3
    have HSo := Lib.hid (solve_any N rs' RA' rc' ov (by omega) OA' oc' aB aK aN aO w2 hR hO (HE.out.ext HB2.out).e)
    clear hrl hR hO hb2
    go_wp2_with fail
    refine HSo.out.mono ?_
    rintro e w3 ⟨kv, ev, rfl, hb3, hs⟩
    have HB3 := Lib.hid (ext_trans HB2.out hb3)
    clear hb3
    rcases hs with ⟨_, _, ⟨a, rfl⟩, rfl⟩ | ⟨hr, rfl, n, sb, hb, S, H, hn, rfl, hS, hH, lS, lH, hg, hf⟩
    · unfold errV
      go_wp2_with fail
      go_ret
      exact ⟨rfl, ext_trans HB3.out (ext_alloc _ _)⟩
    · subst hn
      have hn2 := hr.names
      have hn3 : n ≤ 120 := by omega
      have HF := Lib.hid (fun p (hp : p < 2 * n) => firm_at hr lS lH hg hf hp)
      have HS := Lib.hid hS
      have HH := Lib.hid hH
      have y0 : ∀ ob, (w3.alloc ob).cell? ⟨b, o, none⟩ = some (.int .i64 n) := fun ob => cell_ext (ext_alloc _ _) (cell_ext HB3.out HA.out.c0)
      clear hr hS hH lS lH hg hf hn2
      go_wp2_with fail
      clear y0
      go_loop [8] (fun t8 => ∃ p : Nat, t8 = .int .i64 p ∧ p ≤ 2 * n) (fun t8 => 2 * n - (intOf t8).toNat)
      case atStart => exact ⟨0, rfl, Nat.zero_le _⟩
      case round =>
        obtain ⟨p, rfl, hp⟩ := hrel
        by_cases hlt : p < 2 * n
        · obtain ⟨h1, h2, h3, h4, f1, f2, f3⟩ := HF.out p hlt
          have s1 : ∀ ob, (w3.alloc ob).cell? ⟨sb, p, none⟩ = some (.int .i64 S[p]) := fun ob => Sol.ints_at (Sol.blk_ext HS.out (ext_alloc w3 ob)) h1
          have s2 : ∀ ob, (w3.alloc ob).cell? ⟨hb, p, none⟩ = some (.int .i64 H[p]) := fun ob => Sol.ints_at (Sol.blk_ext HH.out (ext_alloc w3 ob)) h2
          have s3 : ∀ ob, (w3.alloc ob).cell? ⟨sb, other p, none⟩ = some (.int .i64 S[other p]) := fun ob => Sol.ints_at (Sol.blk_ext HS.out (ext_alloc w3 ob)) h3
          have s4 : ∀ ob, (w3.alloc ob).cell? ⟨hb, other p, none⟩ = some (.int .i64 H[other p]) := fun ob => Sol.ints_at (Sol.blk_ext HH.out (ext_alloc w3 ob)) h4
          generalize S[p] = va at *
          generalize H[p] = vc at *
          generalize S[other p] = vb at *
          generalize H[other p] = vd at *
          clear h1 h2 h3 h4
          have hlt' : (p : Int) < 2 * n := by omega
          by_cases hpar : p % 2 = 0
          · have hm : (p : Int) % 2 = 0 := by omega
            have ho : other p = p + 1 := by unfold other; rw [if_pos hpar]
            rw [ho] at s3 s4
            have hlo : (p : Int) + 1 < 2 * n := by omega
            clear ho hpar
            by_cases c : vc = 1
            · subst c
              clear f2 f3
              by_cases d : vd = 1
              · subst d
                obtain ⟨rfl, rfl⟩ := f1 rfl rfl
                clear f1
                go_wp2_with fail
                go_round
                case rel => exact ⟨p + 1, by go_num, by omega⟩
                case measure => simp [intOf]; omega
              · have d' : (vd == 1) = false := by simp [d]
                clear f1 d
                by_cases a : va = 1
                · subst a
                  go_wp2_with fail
                  go_round
                  case rel => exact ⟨p + 1, by go_num, by omega⟩
                  case measure => simp [intOf]; omega
                · have a' : (va == 1) = false := by simp [a]
                  clear a
                  go_wp2_with fail
                  go_round
                  case rel => exact ⟨p + 1, by go_num, by omega⟩
                  case measure => simp [intOf]; omega
            · have c' : (vc == 1) = false := by simp [c]
              have c2 : (vc != 1) = true := by simp [c]
              have a' : (va == 1) = false := by simp; exact fun e => c (f2 e)
              clear f1 f2 c
              by_cases e : vc = 2
              · have e2 := f3 e
                subst e e2
                clear f3
                go_wp2_with fail
                go_round
                case rel => exact ⟨p + 1, by go_num, by omega⟩
                case measure => simp [intOf]; omega
              · have e' : (vc == 2) = false := by simp [e]
                clear e f3
                go_wp2_with fail
                go_round
                case rel => exact ⟨p + 1, by go_num, by omega⟩
                case measure => simp [intOf]; omega
          · obtain ⟨m, rfl⟩ : ∃ m, p = m + 1 := ⟨p - 1, by omega⟩
            have hm : ((m + 1 : Nat) : Int) % 2 = 1 := by omega
            have ho : other (m + 1) = m := by unfold other; rw [if_neg hpar]; omega
            rw [ho] at s3 s4
            have hm2 : ((m : Int) + 1) % 2 = 1 := by omega
            have hod : (m : Int) + 1 + 1 - 2 = m := by omega
            have hlo : (m : Int) < 2 * n := by omega
            clear ho hpar
            by_cases c : vc = 1
            · subst c
              clear f2 f3
              by_cases d : vd = 1
              · subst d
                obtain ⟨rfl, rfl⟩ := f1 rfl rfl
                clear f1
                go_wp2_with fail
                go_round
                case rel => exact ⟨m + 1 + 1, by go_num, by omega⟩
                case measure => simp [intOf]; omega
              · have d' : (vd == 1) = false := by simp [d]
                clear f1 d
                by_cases a : va = 1
                · subst a
                  go_wp2_with fail
                  go_round
                  case rel => exact ⟨m + 1 + 1, by go_num, by omega⟩
                  case measure => simp [intOf]; omega
                · have a' : (va == 1) = false := by simp [a]
                  clear a
                  go_wp2_with fail
                  go_round
                  case rel => exact ⟨m + 1 + 1, by go_num, by omega⟩
                  case measure => simp [intOf]; omega
            · have c' : (vc == 1) = false := by simp [c]
              have c2 : (vc != 1) = true := by simp [c]
              have a' : (va == 1) = false := by simp; exact fun e => c (f2 e)
              clear f1 f2 c
              by_cases e : vc = 2
              · have e2 := f3 e
                subst e e2
                clear f3
                go_wp2_with fail
                go_round
                case rel => exact ⟨m + 1 + 1, by go_num, by omega⟩
                case measure => simp [intOf]; omega
              · have e' : (vc == 2) = false := by simp [e]
                clear e f3
                go_wp2_with fail
                go_round
                case rel => exact ⟨m + 1 + 1, by go_num, by omega⟩
                case measure => simp [intOf]; omega
        · have hlt' : ¬ (p : Int) < 2 * n := by omega
          go_wp2_with fail
          go_ret
          exact ⟨rfl, ext_trans HB3.out (ext_alloc _ _)⟩
end Go.Proofs.YtipbmpakdcmdoaaDoor.ReasonFirm

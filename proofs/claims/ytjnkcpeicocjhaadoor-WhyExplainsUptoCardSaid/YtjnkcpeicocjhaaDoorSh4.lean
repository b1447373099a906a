/- The document's Solved: everything is looked at again and again, until nothing more follows. The document's Solved: the walk. The document's Checked: whether each step follows from those ahead of it. -/
import Derived.Test.YtjnkcpeicocjhaaDoorSh2
import Derived.Laws.MakeOwn
import Derived.Deep.LoopGhost
import Derived.Test.YtjnkcpeicocjhaaDoorWhySoundWalk
import Derived.Deep.RegionHeld3
namespace Go.Proofs.YtjnkcpeicocjhaaDoor.Sh
open Go.RowKit Mem Thy Nest Day Thm Sol Val Solve LawT

theorem four_info : (Tryd.prog.info? 77).map (fun i => (i.zero, i.size, i.bytes)) = some (some (.agg #[.bool false, .bool false, .bool false, .bool false]), 4, 4) := by kernel_rfl
theorem make_marks (n : Nat) (hn : n ≤ 1000000) (w : World) : (Instr.makeSlice 78 (.int .i64 (n : Int)) (.int .i64 (n : Int))).run Tryd.prog w = .ok (.slice (some ⟨w.heap.size, 0, none⟩) n n) (w.alloc (.cells (marks (List.replicate n 0) (List.replicate n 0)).toArray 77)) := by
  obtain ⟨i0, hi, hz0, hz1, hz2⟩ := info_parts four_info
  have h := run_makeSlice (P := Tryd.prog) w 78 77 i0 _ Tryd.underlying78 hi hz0 .i64 .i64 n n (by omega) (by omega) (by rw [hz1]; simp; omega) (by rw [hz2]; omega) (by omega)
  rw [hz1] at h
  simp only [Int.toNat_natCast] at h
  have e : madeCells (Value.agg #[.bool false, .bool false, .bool false, .bool false]).cells (n * 4) = (marks (List.replicate n 0) (List.replicate n 0)).toArray := by
    rw [marks_zeros]
    apply Array.ext
    · simp [madeCells]
    · intro j h1 h2
      have hj : j % 4 < 4 := Nat.mod_lt _ (by omega)
      obtain ⟨m, hm⟩ : ∃ m, m = j % 4 := ⟨_, rfl⟩
      have hm4 : m = 0 ∨ m = 1 ∨ m = 2 ∨ m = 3 := by omega
      have hs : (Value.agg #[.bool false, .bool false, .bool false, .bool false]).cells = #[.bool false, .bool false, .bool false, .bool false] := by simp [Value.cells]
      simp only [madeCells, hs, Array.getElem_map, Array.getElem_range, List.getElem_toArray, List.getElem_replicate]
      show (#[Value.bool false, .bool false, .bool false, .bool false] : Array Value)[j % 4]! = _
      rw [← hm]
      rcases hm4 with rfl | rfl | rfl | rfl <;> rfl
  rw [e] at h
  exact h
def mkSh (w : World) (b o n : Nat) (rs : List Rw) (RA : Option Addr) (rc : Nat) (ov : List (Int × Int)) (OA : Option Addr) (oc : Nat) : ShP := ⟨w, w.heap.size + 1, w.heap.size, b, o, n, rs, RA, rc, ov, OA, oc⟩
section
variable {w : World} {b o n : Nat} {rs : List Rw} {RA : Option Addr} {rc : Nat} {ov : List (Int × Int)} {OA : Option Addr} {oc : Nat}
theorem mkSh_ok (h : ThA w b o n rs RA rc ov OA oc) (hr : Right n rs ov) : (mkSh w b o n rs RA rc ov OA oc).Ok :=
  ⟨h, hr, by simp [mkSh], by simp [mkSh], by simp [mkSh]⟩
set_option maxHeartbeats 400000 in
theorem nothing_any (h : ThA w b o n rs RA rc ov OA oc) (hr : Right n rs ov) :
    Calls Tryd.prog 56 #[.pointer (some ⟨b, o, none⟩)] w fun e w' => e = .returned (.pointer (some ⟨(mkSh w b o n rs RA rc ov OA oc).B, 0, none⟩)) ∧ Sh w' (mkSh w b o n rs RA rc ov OA oc) (List.replicate (2 * n) 0) (List.replicate (2 * n) 0) := by
  have c0 := h.c0
  have hn := hr.names
  obtain ⟨M, hM⟩ : ∃ M : Nat, M = 2 * n := ⟨_, rfl⟩
  have hw2 : IntKind.i64.wrap (2 * (n : Int)) = (M : Int) := by rw [IntWalk.i64_in _ (by omega)]; omega
  have hmk := make_marks M (by omega)
  have HM := Lib.hid hM
  clear h hr hM
  go_enter Tryd.func56, Tryd.ntmps56
  go_wp2_with fail
  go_ret
  have hM := HM.out
  subst hM
  have x1 := ext_alloc w (.cells (marks (List.replicate (2 * n) 0) (List.replicate (2 * n) 0)).toArray 77)
  have x2 := ext_alloc (w.alloc (.cells (marks (List.replicate (2 * n) 0) (List.replicate (2 * n) 0)).toArray 77)) (.cells #[.pointer (some ⟨b, o, none⟩), .slice (some ⟨w.heap.size, 0, none⟩) (2 * n) (2 * n)] 80)
  refine ⟨rfl, ext_trans x1 x2, ?_, blk_ext (Blk.new w _ _) x2, by simp [mkSh], by simp [mkSh]⟩
  have := Blk.new (w.alloc (.cells (marks (List.replicate (2 * n) 0) (List.replicate (2 * n) 0)).toArray 77)) 80 [.pointer (some ⟨b, o, none⟩), .slice (some ⟨w.heap.size, 0, none⟩) (2 * n) (2 * n)]
  simpa [mkSh] using this
end
theorem Sh.put {w : World} {p : ShP} {S H : List Int} (h : Sh w p S H) (ok : p.Ok) (a b : Bool) {q : Int} (hq : p.th.Lit q) (hz : pick a (stOf S) (stOf H) q = 0 ∨ pick a (stOf S) (stOf H) q = val b) :
    Sh (w.setCell ⟨p.lb, place q * 4 + kind a b, none⟩ (.bool true)) p (setS a b q S) (setH a b q H) := by
  refine ⟨h.below.setCell ok.d2 _, blk_set h.blk ok.ne _, ?_, ?_, ?_⟩
  · rw [← marks_set (by rw [h.ls, h.lh]) a b (lit_bd hq).1 (by rw [h.ls]; exact lit_place hq) hz]
    exact h.l.set _ _
  · cases a <;> simp [setS, h.ls]
  · cases a <;> simp [setH, h.lh]
theorem nextS_set' {S : List Int} {a b : Bool} {q : Int} (hq : q ≠ 0) (h : place q < S.length) : stOf (setS a b q S) = nextS a b q (stOf S) := ChkW.nextS_set hq h
theorem Sh.good {w : World} {p : ShP} {S H : List Int} (h : Sh w p S H) (g : Thy.Good p.th (stOf S) (stOf H)) {a b : Bool} {q : Int} (hq : p.th.Lit q) (f : Fol p.th (stOf S) (stOf H) a b q) : Thy.Good p.th (stOf (setS a b q S)) (stOf (setH a b q H)) := by
  have hp := lit_place hq
  rw [ChkW.nextS_set hq.1 (by rw [h.ls]; exact hp), ChkW.nextH_set hq.1 (by rw [h.lh]; exact hp)]
  exact g.put hq f
set_option maxHeartbeats 400000 in
theorem literal_any (p : Nat) (hp : p ≤ 1000) (w : World) : Calls Tryd.prog 57 #[.int .i64 p] w fun e w' => e = .returned (.int .i64 (lit p)) ∧ w = w' := by
  by_cases h : p % 2 = 0
  · have hI : (p : Int) % 2 = 0 := by omega
    have HE := Lib.hid (show (p : Int) / 2 + 1 = lit p by unfold lit; rw [if_pos h]; omega)
    go_enter Tryd.func57, Tryd.ntmps57
    go_wp2_with fail
    go_ret
    exact ⟨ret_int HE.out, rfl⟩
  · have hI : (p : Int) % 2 = 1 := by omega
    have HE := Lib.hid (show -((p : Int) / 2 + 1) = lit p by unfold lit; rw [if_neg h]; omega)
    go_enter Tryd.func57, Tryd.ntmps57
    go_wp2_with fail
    go_ret
    exact ⟨ret_int HE.out, rfl⟩
/-- the looks ahead of one -/
def Seen (kc : Int) (pl : Nat) (a b : Bool) (q : Int) : Prop := kc < (kind a b : Nat) ∨ (((kind a b : Nat) : Int) = kc ∧ place q < pl)
structure PrR (t : Th) (S0 H0 S H : List Int) (ag : Bool) (kc : Int) (pl : Nat) : Prop where
  g : Thy.Good t (stOf S) (stOf H)
  z : ag = true → Zs S H < Zs S0 H0
  e : ag = false → S = S0 ∧ H = H0 ∧ ∀ a b q, Seen kc pl a b q → t.Lit q → pick a (stOf S0) (stOf H0) q ≠ val b → ¬ Fol t (stOf S0) (stOf H0) a b q
theorem PrR.start {t : Th} {S H : List Int} (g : Thy.Good t (stOf S) (stOf H)) : PrR t S H S H false 3 0 := ⟨g, (fun h => by cases h), fun _ => ⟨rfl, rfl, fun a b q h _ => by
  have := kind_lt a b
  unfold Seen at h
  omega⟩⟩
theorem PrR.next {t : Th} {S0 H0 S H : List Int} {ag : Bool} {kc : Int} {n : Nat} (x : PrR t S0 H0 S H ag kc (2 * n)) (ht : t.names = n) : PrR t S0 H0 S H ag (kc - 1) 0 :=
  ⟨x.g, x.z, fun e => ⟨(x.e e).1, (x.e e).2.1, fun a b q h l => (x.e e).2.2 a b q (by
    have hp := place_lt l.1 l.2.1 l.2.2
    rw [ht] at hp
    unfold Seen at h ⊢
    omega) l⟩⟩
theorem PrR.no {t : Th} {S0 H0 S H : List Int} {ag : Bool} {a b : Bool} {pl : Nat} (x : PrR t S0 H0 S H ag (kind a b : Nat) pl) (h : pick a (stOf S) (stOf H) (lit pl) ≠ val b → ¬ Fol t (stOf S) (stOf H) a b (lit pl)) : PrR t S0 H0 S H ag (kind a b : Nat) (pl + 1) :=
  ⟨x.g, x.z, fun e => by
    obtain ⟨rfl, rfl, k⟩ := x.e e
    refine ⟨rfl, rfl, fun a' b' q h1 h2 h3 => ?_⟩
    by_cases c : a' = a ∧ b' = b ∧ place q = pl
    · obtain ⟨rfl, rfl, rfl⟩ := c
      rw [Thy.lit_place h2.1] at h
      exact h h3
    · refine k a' b' q ?_ h2 h3
      unfold Seen at *
      rcases h1 with h1 | ⟨h1, h4⟩
      · exact .inl h1
      · refine .inr ⟨h1, ?_⟩
        have ea : a' = a ∧ b' = b := by cases a' <;> cases b' <;> cases a <;> cases b <;> simp_all [kind]
        have : place q ≠ pl := fun e => c ⟨ea.1, ea.2, e⟩
        omega⟩
theorem PrR.yes {t : Th} {S0 H0 S H : List Int} {ag : Bool} {a b : Bool} {q kc kc2 : Int} {pl pl2 : Nat} (x : PrR t S0 H0 S H ag kc pl) (g : Thy.Good t (stOf (setS a b q S)) (stOf (setH a b q H))) (hq : q ≠ 0) (hS : place q < S.length) (hH : place q < H.length) (z : pick a (stOf S) (stOf H) q = 0) : PrR t S0 H0 (setS a b q S) (setH a b q H) true kc2 pl2 :=
  ⟨g, fun _ => by
    have h1 := zs_set (b := b) hq hS hH z
    cases ag
    · obtain ⟨rfl, rfl, _⟩ := x.e rfl
      exact h1
    · have := x.z rfl
      omega, fun h => by cases h⟩
theorem PrR.fin {t : Th} {S0 H0 S H : List Int} {pl : Nat} (x : PrR t S0 H0 S H false (-1) pl) : Fin t (stOf S) (stOf H) := by
  obtain ⟨rfl, rfl, k⟩ := x.e rfl
  intro a b q l f z
  exact k a b q (.inl (by omega)) l (by rw [z]; exact (val_ne b).symm) f
end Go.Proofs.YtjnkcpeicocjhaaDoor.Sh
namespace Go.Proofs.YtjnkcpeicocjhaaDoor.Sh
open Go.RowKit Mem Thy Nest Day Thm Sol Val Solve LawT

/-- what Solved hands on -/
def SolvedPost (p : ShP) (w : World) (e : Ending) (w' : World) : Prop :=
  Below w.heap.size w w' ∧ e = .returned (.pointer (some ⟨p.B, 0, none⟩)) ∧ ∃ S H, Sh w' p S H ∧ Thy.Good p.th (stOf S) (stOf H) ∧ Thy.Fin p.th (stOf S) (stOf H)
theorem kind_of {kc : Int} (h0 : 0 ≤ kc) (h3 : kc ≤ 3) : ∃ a b, kc = ((kind a b : Nat) : Int) := by
  have h : kc = 0 ∨ kc = 1 ∨ kc = 2 ∨ kc = 3 := by omega
  rcases h with rfl | rfl | rfl | rfl
  · exact ⟨true, true, rfl⟩
  · exact ⟨true, false, rfl⟩
  · exact ⟨false, true, rfl⟩
  · exact ⟨false, false, rfl⟩
theorem lit_in {p : ShP} {pl : Nat} (h : pl < 2 * p.n) : p.th.Lit (lit pl) := ⟨lit_ne pl, by show -(p.n : Int) ≤ lit pl; unfold lit; split <;> omega, by show lit pl ≤ (p.n : Int); unfold lit; split <;> omega⟩
theorem good_start (t : Th) (n : Nat) : Thy.Good t (stOf (List.replicate n 0)) (stOf (List.replicate n 0)) := by rw [stOf_zeros]; exact .start
set_option maxRecDepth 100000 in
set_option maxHeartbeats 2000000 in
theorem solved_any (w : World) (b o n : Nat) (rs : List Rw) (RA : Option Addr) (rc : Nat) (ov : List (Int × Int)) (OA : Option Addr) (oc : Nat) (h : ThA w b o n rs RA rc ov OA oc) (hr : Right n rs ov) :
    Calls Tryd.prog 27 #[.pointer (some ⟨b, o, none⟩)] w (SolvedPost (mkSh w b o n rs RA rc ov OA oc) w) := by
  have HA := Lib.hid h
  have OK := Lib.hid (mkSh_ok h hr)
  have HNt := Lib.hid (nothing_any h hr)
  have hn := hr.names
  have HG := Lib.hid (good_start (thOf n rs ov) (2 * n))
  clear h hr
  obtain ⟨p, hp⟩ : ∃ p, p = mkSh w b o n rs RA rc ov OA oc := ⟨_, rfl⟩
  have hpn : p.n = n := by rw [hp]; rfl
  have HPth := Lib.hid (show p.th = thOf n rs ov by rw [hp]; rfl)
  have HPw := Lib.hid (show p.w0 = w by rw [hp]; rfl)
  rw [← hp] at OK HNt
  rw [← HPth.out] at HG
  rw [← hp]
  clear hp
  go_enter Tryd.func27, Tryd.ntmps27
  go_wp2_with fail
  refine HNt.out.mono ?_
  rintro e w1 ⟨rfl, hs⟩
  have HS := Lib.hid hs
  clear hs HNt
  go_wp2_with fail
  go_loopg [4] (Zs (List.replicate (2 * n) 0) (List.replicate (2 * n) 0) + 1) (fun k t wr => ∃ (S0 H0 : List Int) (ag : Bool), t = .bool ag ∧ Hid (Sh wr p S0 H0) ∧ Hid (Thy.Good p.th (stOf S0) (stOf H0)) ∧ Hid (ag = true → Zs S0 H0 + 1 ≤ k) ∧ Hid (ag = false → Fin p.th (stOf S0) (stOf H0)))
  case atStart => exact ⟨_, _, true, rfl, HS.out, HG.out, fun _ => Nat.le_refl _, fun h => by simp at h⟩
  case round =>
    clear HS HG
    obtain ⟨S0, H0, ag, rfl, HS0, HG0, HZ0, HF0⟩ := hrel
    cases ag
    · go_wp2_with fail
      go_ret
      exact ⟨HPw.out ▸ HS0.out.below, rfl, S0, H0, HS0.out, HG0.out, HF0.out (by simp)⟩
    · go_wp2_with fail
      go_loopw [4, 5] (fun t4 t5 wq => ∃ (S1 H1 : List Int) (ag : Bool) (kc : Int), t4 = .bool ag ∧ t5 = .int .i64 kc ∧ -1 ≤ kc ∧ kc ≤ 3 ∧ Hid (Sh wq p S1 H1) ∧ Hid (PrR p.th S0 H0 S1 H1 ag kc 0)) (fun _ t5 _ => (intOf t5 + 1).toNat)
      case atStart => exact ⟨S0, H0, false, 3, rfl, rfl, by omega, by omega, HS0.out, PrR.start HG0.out⟩
      case round =>
        obtain ⟨S1, H1, ag, kc, rfl, rfl, hk1, hk2, HS1, HP1⟩ := hrel
        by_cases hk : 0 ≤ kc
        · obtain ⟨a, b', rfl⟩ := kind_of hk hk2
          go_wp2_with fail
          go_loopw [4, 6] (fun t4 t6 wq => ∃ (S2 H2 : List Int) (ag : Bool) (pl : Nat), t4 = .bool ag ∧ t6 = .int .i64 pl ∧ pl ≤ 2 * n ∧ Hid (Sh wq p S2 H2) ∧ Hid (PrR p.th S0 H0 S2 H2 ag (kind a b' : Nat) pl)) (fun _ t6 _ => 2 * n - (intOf t6).toNat)
          case atStart => exact ⟨S1, H1, ag, 0, rfl, rfl, by omega, HS1.out, HP1.out⟩
          case round =>
            clear HS1 HP1
            obtain ⟨S2, H2, ag, pl, rfl, rfl, hpl, HS2, HP2⟩ := hrel
            have c0 := (HA.out.ext (HPw.out ▸ HS2.out.below)).c0
            by_cases hlt : pl < 2 * n
            · have HL := Lib.hid (lit_in (p := p) (pl := pl) (by omega))
              have hltI : (pl : Int) < 2 * (n : Int) := by omega
              go_wp2_with fail
              refine (literal_any pl (by omega) _).mono ?_
              rintro e w' ⟨rfl, rfl⟩
              go_wp2_with fail
              refine (has_any p S2 H2 OK.out a b' _ HL.out _ HS2.out).mono ?_
              rintro e w2 ⟨rfl, n1, rfl⟩
              have HS3 := Lib.hid (HS2.out.ext (ext_drewN wr n1))
              have HP3 := Lib.hid HP2.out
              by_cases hv : pick a (stOf S2) (stOf H2) (lit pl) = val b'
              · have HV := Lib.hid hv
                have hv' : (pick a (stOf S2) (stOf H2) (lit pl) == val b') = true := by simp [hv]
                generalize (pick a (stOf S2) (stOf H2) (lit pl) == val b') = g at *
                subst hv'
                clear hv
                go_wp2_with fail
                go_roundw
                case rel => exact ⟨S2, H2, ag, pl + 1, rfl, by go_num, by omega, HS3.out, HP3.out.no fun h => absurd HV.out h⟩
                case measure => simp [intOf]; omega
              · have HV := Lib.hid hv
                have hv' : (pick a (stOf S2) (stOf H2) (lit pl) == val b') = false := by simp [hv]
                generalize (pick a (stOf S2) (stOf H2) (lit pl) == val b') = g at *
                subst hv'
                clear hv
                go_wp2_with fail
                refine (can_any p S2 H2 OK.out a b' _ HL.out _ HS3.out).mono ?_
                rintro e w3 ⟨bf, rfl, hb1, hb2⟩
                have HB1 := Lib.hid hb1
                have HS4 := Lib.hid (HS3.out.ext hb2)
                clear hb1 hb2
                cases bf
                · go_wp2_with fail
                  go_roundw
                  case rel => exact ⟨S2, H2, ag, pl + 1, rfl, by go_num, by omega, HS4.out, HP3.out.no fun _ h => by simpa using HB1.out.2 h⟩
                  case measure => simp [intOf]; omega
                · have HF := Lib.hid (HB1.out.1 (by simp))
                  have HZ := Lib.hid (Good_free HP2.out.g HF.out)
                  have HP := Lib.hid (HS4.out.put OK.out a b' HL.out HZ.out)
                  have HG4 := Lib.hid (HS4.out.good HP2.out.g HL.out HF.out)
                  have y0 := HS4.out.blk.cell 1 rfl
                  have y1 := HS4.out.l.free (pl * 4 + kind a b')
                  have y2 := HS4.out.at_ a b' HL.out
                  rw [place_lit] at y2
                  have hk4 := kind_lt a b'
                  have hP5 := HP.out
                  rw [place_lit] at hP5
                  have HP5 := Lib.hid hP5
                  clear hP5
                  rw [hpn] at y0
                  clear c0
                  have hk4' : ((kind a b' : Nat) : Int) < 4 := by omega
                  go_wp2_with fail
                  go_roundw
                  case rel => exact ⟨_, _, true, pl + 1, rfl, by go_num, by omega, HP5.out, HP3.out.yes HG4.out HL.out.1 (by rw [HS4.out.ls]; exact lit_place HL.out) (by rw [HS4.out.lh]; exact lit_place HL.out) (HZ.out.resolve_right HV.out)⟩
                  case measure => simp [intOf]; omega
            · obtain rfl : pl = 2 * n := by omega
              have hltI : ¬ ((2 * n : Nat) : Int) < 2 * (n : Int) := by omega
              go_wp2_with fail
              go_roundw
              case rel => exact ⟨S2, H2, ag, _, rfl, rfl, by omega, by omega, HS2.out, (hpn ▸ HP2.out).next (by rw [HPth.out, hpn]; simp [thOf])⟩
              case measure => simp [intOf]
        · obtain rfl : kc = -1 := by omega
          go_wp2_with fail
          have hk := HZ0.out (by simp)
          go_roundg (gk - 1)
          · exact ⟨S1, H1, ag, rfl, HS1.out, HP1.out.g, fun e => by have := HP1.out.z e; omega, fun e => by subst e; exact HP1.out.fin⟩
          · omega
end Go.Proofs.YtjnkcpeicocjhaaDoor.Sh
namespace Go.Proofs.YtjnkcpeicocjhaaDoor.Sh
open Go.RowKit Mem Thy Nest Day Thm Sol Val Solve LawT ChkW

set_option maxHeartbeats 400000 in
theorem islit_any (b o n : Nat) (q : Int) (w : World) (h : w.cell? ⟨b, o, none⟩ = some (.int .i64 n)) (hn : n ≤ 120) :
    Calls Tryd.prog 26 #[.pointer (some ⟨b, o, none⟩), .int .i64 q] w (BoolIs w (q ≠ 0 ∧ -(n : Int) ≤ q ∧ q ≤ n)) := by
  by_cases c0 : q = 0
  · subst c0
    go_enter Tryd.func26, Tryd.ntmps26
    go_wp2_with fail
    go_ret
    exact ⟨_, rfl, by simp, rfl⟩
  · have e0 : (q != 0) = true := by simp [c0]
    by_cases c1 : q ≤ n
    · by_cases c2 : -(n : Int) ≤ q
      · have HP := Lib.hid (show q ≠ 0 ∧ -(n : Int) ≤ q ∧ q ≤ n from ⟨c0, c2, c1⟩)
        have e1 : decide (q ≤ (n : Int)) = true := by simp [c1]
        have e2 : decide (-(n : Int) ≤ q) = true := by simp [c2]
        clear c0
        go_enter Tryd.func26, Tryd.ntmps26
        go_wp2_with fail
        go_ret
        exact ⟨_, rfl, iff_of_true rfl HP.out, rfl⟩
      · have HP := Lib.hid (show ¬ (q ≠ 0 ∧ -(n : Int) ≤ q ∧ q ≤ n) from fun h => c2 h.2.1)
        have e1 : decide (q ≤ (n : Int)) = true := by simp [c1]
        have e2 : decide (-(n : Int) ≤ q) = false := by simp [c2]
        clear c0 c2
        go_enter Tryd.func26, Tryd.ntmps26
        go_wp2_with fail
        go_ret
        exact ⟨_, rfl, iff_of_false (by simp) HP.out, rfl⟩
    · have HP := Lib.hid (show ¬ (q ≠ 0 ∧ -(n : Int) ≤ q ∧ q ≤ n) from fun h => c1 h.2.2)
      have e1 : decide (q ≤ (n : Int)) = false := by simp [c1]
      clear c0 c1
      go_enter Tryd.func26, Tryd.ntmps26
      go_wp2_with fail
      go_ret
      exact ⟨_, rfl, iff_of_false (by simp) HP.out, rfl⟩
set_option maxHeartbeats 400000 in
theorem kindof_any (a b : Bool) (q : Int) (w : World) :
    Calls Tryd.prog 29 #[.agg #[.bool a, .bool b, .int .i64 q]] w fun e w' => e = .returned (.int .i64 (kind a b : Nat)) ∧ Below w.heap.size w w' := by
  cases a <;> cases b
  all_goals
    go_enter Tryd.func29, Tryd.ntmps29
    go_wp2_with fail
    go_ret
    exact ⟨rfl, ext_alloc _ _⟩
set_option maxRecDepth 100000 in
set_option maxHeartbeats 2000000 in
theorem checked_any (w : World) (b o n : Nat) (rs : List Rw) (RA : Option Addr) (rc : Nat) (ov : List (Int × Int)) (OA : Option Addr) (oc : Nat) (h : ThA w b o n rs RA rc ov OA oc) (hr : Right n rs ov)
    (l : List Sp) (hl : l.length ≤ 1048576) (LA : Option Addr) (lc : Nat) (hLr : Rd w LA (l.flatMap spCells)) :
    Calls Tryd.prog 30 #[.pointer (some ⟨b, o, none⟩), .slice LA l.length lc] w (BoolOf w (Chk (thOf n rs ov) l (fun _ => 0) (fun _ => 0))) := by
  have HA := Lib.hid h
  have HLr := Lib.hid hLr
  have OK := Lib.hid (mkSh_ok h hr)
  have HNt := Lib.hid (nothing_any h hr)
  have hn := hr.names
  have HG := Lib.hid (good_start (thOf n rs ov) (2 * n))
  clear h hr hLr
  obtain ⟨p, hp⟩ : ∃ p, p = mkSh w b o n rs RA rc ov OA oc := ⟨_, rfl⟩
  have hpn : p.n = n := by rw [hp]; rfl
  have HPth := Lib.hid (show p.th = thOf n rs ov by rw [hp]; rfl)
  have HPw := Lib.hid (show p.w0 = w by rw [hp]; rfl)
  rw [← hp] at OK HNt
  rw [← HPth.out] at HG
  rw [← HPth.out]
  clear hp
  go_enter Tryd.func30, Tryd.ntmps30
  go_wp2_with fail
  refine HNt.out.mono ?_
  rintro e w1 ⟨rfl, hs⟩
  have HS := Lib.hid hs
  clear hs HNt
  go_wp2_with fail
  go_loopw [6] (fun t6 wr => ∃ (j : Nat) (S H : List Int), t6 = .int .i64 j ∧ j ≤ l.length ∧ Hid (Sh wr p S H) ∧ Hid (Thy.Good p.th (stOf S) (stOf H)) ∧ Hid (Chk p.th l (fun _ => 0) (fun _ => 0) ↔ Chk p.th (l.drop j) (stOf S) (stOf H))) (fun t6 _ => l.length - (intOf t6).toNat)
  case atStart => exact ⟨0, _, _, rfl, Nat.zero_le _, HS.out, HG.out, by show _ ↔ _; rw [stOf_zeros]; rfl⟩
  case round =>
    clear HS HG
    obtain ⟨j, S, H, rfl, hj, HS, HG, HC⟩ := hrel
    have HB := Lib.hid (show Below w.heap.size w wr from HPw.out ▸ HS.out.below)
    by_cases hlt : j < l.length
    · obtain ⟨b', o', rfl, r0, r1, r2⟩ := step_at (HLr.out.ext HB.out) hlt
      have hbl : b' < w.heap.size := by
        obtain ⟨b2, o2, e2, _, _, r22⟩ := step_at HLr.out hlt
        cases e2
        exact cell_lt r22
      obtain ⟨x, hx⟩ : ∃ x, x = l[j] := ⟨_, rfl⟩
      rw [← hx] at r0 r1 r2
      have HCx := Lib.hid (show Chk p.th l (fun _ => 0) (fun _ => 0) ↔ p.th.Lit x.q ∧ Fol p.th (stOf S) (stOf H) x.a x.b x.q ∧ Chk p.th (l.drop (j + 1)) (nextS x.a x.b x.q (stOf S)) (nextH x.a x.b x.q (stOf H)) by
        rw [HC.out, List.drop_eq_getElem_cons hlt, ← hx]
        rfl)
      clear hx
      obtain ⟨xa, xb, xq⟩ := x
      simp only at r0 r1 r2 HCx
      have c0 := (HA.out.ext HB.out).c0
      have hn120 : n ≤ 120 := by omega
      go_wp2_with fail
      refine (islit_any b o n xq _ c0 hn120).mono ?_
      rintro e w' ⟨bl, rfl, hb1, rfl⟩
      have HL1 := Lib.hid (show bl = true ↔ p.th.Lit xq by rw [hb1, HPth.out]; rfl)
      clear hb1 c0
      cases bl
      · go_wp2_with fail
        go_ret
        refine ⟨_, rfl, ?_, HB.out⟩
        have h : ¬ p.th.Lit xq := fun h => by simpa using HL1.out.2 h
        exact iff_of_false (by simp) fun c => h (HCx.out.1 c).1
      · have HLq := Lib.hid (HL1.out.1 (by simp))
        go_wp2_with fail
        refine (kindof_any xa xb xq _).mono ?_
        rintro e w2 ⟨rfl, hb2⟩
        have HS2 := Lib.hid (HS.out.ext hb2)
        have HB2 := Lib.hid (ext_trans HB.out hb2)
        have q2 := cell_ext hb2 r2
        clear hb2 r0 r1 r2
        go_wp2_with fail
        refine (can_any p S H OK.out xa xb xq HLq.out _ HS2.out).mono ?_
        rintro e w3 ⟨bf, rfl, hb1, hb2⟩
        have HF := Lib.hid hb1
        have HS3 := Lib.hid (HS2.out.ext hb2)
        have HB3 := Lib.hid (ext_trans HB2.out hb2)
        have q3 := cell_ext hb2 q2
        clear hb1 hb2 q2
        cases bf
        · go_wp2_with fail
          go_ret
          refine ⟨_, rfl, ?_, HB3.out⟩
          have h : ¬ Fol p.th (stOf S) (stOf H) xa xb xq := fun h => by simpa using HF.out.2 h
          exact iff_of_false (by simp) fun c => h (HCx.out.1 c).2.1
        · have HFo := Lib.hid (HF.out.1 (by simp))
          have HS4 := Lib.hid (HS3.out.ext (ext_drewN w3 1))
          have HZ := Lib.hid (Good_free HG.out HFo.out)
          have HP := Lib.hid (HS4.out.put OK.out xa xb HLq.out HZ.out)
          have HG4 := Lib.hid (HS4.out.good HG.out HLq.out HFo.out)
          have HPS := Lib.hid (show place xq < S.length by rw [HS3.out.ls]; exact lit_place HLq.out)
          have HPH := Lib.hid (show place xq < H.length by rw [HS3.out.lh]; exact lit_place HLq.out)
          have HCs := Lib.hid (show Chk p.th l (fun _ => 0) (fun _ => 0) ↔ Chk p.th (l.drop (j + 1)) (stOf (setS xa xb xq S)) (stOf (setH xa xb xq H)) by
            rw [HCx.out, nextS_set HLq.out.1 HPS.out, nextH_set HLq.out.1 HPH.out]
            exact ⟨fun h => h.2.2, fun h => ⟨HLq.out, HFo.out, h⟩⟩)
          clear HPS HPH
          have y0 := HS3.out.blk.cell 1 rfl
          have y1 := HS3.out.l.free (place xq * 4 + kind xa xb)
          have y2 := HS3.out.at_ xa xb HLq.out
          have hk0 : (0 : Int) ≤ ((kind xa xb : Nat) : Int) := by omega
          have hk4 : ((kind xa xb : Nat) : Int) < 4 := by have := kind_lt xa xb; omega
          have hp0 : (0 : Int) ≤ ((place xq : Nat) : Int) := by omega
          have hp1 : ((place xq : Nat) : Int) < ((2 * p.n : Nat) : Int) := by have := lit_place HLq.out; omega
          have hne1 : p.B ≠ p.lb := OK.out.ne
          have hne2 : b' ≠ p.lb := by have := OK.out.d2; rw [HPw.out] at this; omega
          obtain ⟨z0, z1, z2⟩ := lit_bd HLq.out
          rw [hpn] at z1 z2
          have HPl := Lib.hid (fun w => ReasonTotal.place4_any xq z0 (by omega) (by omega) w)
          clear z0
          generalize place xq = pq at *
          generalize kind xa xb = kq at *
          obtain ⟨M, hM⟩ : ∃ M, M = 2 * p.n := ⟨_, rfl⟩
          rw [← hM] at y0 hp1
          clear hM
          generalize (pick xa (stOf S) (stOf H) xq == val xb) = bq at *
          go_wp2_with fail
          go_region_held3 (fun w' => w'.cell? ⟨p.B, 1, none⟩ = some (.slice (some ⟨p.lb, 0, none⟩) M M) ∧ w'.cell? ⟨b', o' + j * 3 + 2, none⟩ = some (.int .i64 xq))
            ((first | exact ⟨y0, q3⟩ | exact ⟨cell_set_other (show _ = _ from y0) hne1 _, cell_set_other (show _ = _ from q3) hne2 _⟩))
            ((go_at_call 28; refine (HPl.out _).mono ?_; rintro e w' ⟨rfl, rfl⟩))
          go_wp2_with fail
          go_roundw
          case rel =>
            exact ⟨j + 1, _, _, by go_num, by omega, HP.out, HG4.out, HCs.out⟩
          case measure => simp [intOf]; omega
    · obtain rfl : l.length = j := by omega
      go_wp2_with fail
      go_ret
      refine ⟨_, rfl, ?_, HB.out⟩
      refine iff_of_true rfl (HC.out.2 ?_)
      rw [List.drop_length]
      trivial
end Go.Proofs.YtjnkcpeicocjhaaDoor.Sh

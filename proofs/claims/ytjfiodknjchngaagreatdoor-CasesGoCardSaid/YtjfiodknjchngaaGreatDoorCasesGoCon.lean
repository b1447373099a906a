/- CasesGo: the document's course of a case in memory: where it stands, whether a move can be done. CasesGo: a step at the document's course. CasesGo: the moves that may be done: the program's May. CasesGo: the moves that may be done: the document's May. CasesGo: codes, Since, the same texts. The law CasesGo: the walk. The law CasesGo: from the arguments as they read to the walk. -/
import Derived.Test.YtjfiodknjchngaaGreatDoorCeF
import Derived.Test.YtjfiodknjchngaaGreatDoorCeL
import Derived.BigQuiet
import Derived.Deep.RegionHeld3
import Derived.Deep.RegionLaw
import Derived.Deep.AppendLies
import Derived.Test.YtjfiodknjchngaaGreatDoorCgP
import Derived.Test.YtjfiodknjchngaaGreatDoorCdBoth
import Derived.Test.YtjfiodknjchngaaGreatDoorOpenPl
import Derived.Test.YtjfiodknjchngaaGreatDoorRows
import Derived.Test.YtjfiodknjchngaaGreatDoorLaid
namespace Go.Proofs.YtjfiodknjchngaaGreatDoor.Cg
open Go.RowKit Mem Nest Srs Cf Fk Msi CdP CdM Err Solve Sol App Ce

/-- a case's course stands at block C: what was done, and by which moves -/
structure Rc (B : World) (C b o yb : Nat) (on : Int) (us : List Nat) (xs : List St) (w : World) : Prop where
  below : Below B.heap.size B w
  hC : B.heap.size + 2 ≤ C
  len : us.length = xs.length
  blk : ∃ SA sc UA uc, Blk w C 50 [.pointer (some ⟨b, o, none⟩), .pointer (some ⟨yb, 0, none⟩), .int .i64 on, .slice SA xs.length sc, .slice UA us.length uc] ∧
    w.ownsRow (C + 1) 59 3 (.slice SA xs.length sc) xs.length (xs.flatMap stCells) ∧ w.ownsRow (C + 1) 3 1 (.slice UA us.length uc) us.length (nats us)
theorem Rc.ext {B : World} {C b o yb : Nat} {on : Int} {us : List Nat} {xs : List St} {w w' : World} (h : Rc B C b o yb on us xs w) (hb : Below w.heap.size w w') : Rc B C b o yb on us xs w' := by
  obtain ⟨h1, h2, h3, SA, sc, UA, uc, h4, h5, h6⟩ := h
  exact ⟨ext_trans h1 hb, h2, h3, SA, sc, UA, uc, blk_ext2 h4 hb, own_ext h5 hb, own_ext h6 hb⟩
def stageOf (st : List UInt8) (ms : List Mv) (us : List Nat) : List UInt8 := match us.getLast? with
  | some u => (ms[u]?.map (·.to_)).getD st
  | none => st
def sinceOf (on : Int) (xs : List St) : Int := match xs.getLast? with
  | some x => x.day
  | none => on
def StagePost (s : List UInt8) (n : Int) (w : World) (e : Ending) (w' : World) : Prop := e = .returned (.tuple #[.string ⟨s.toArray⟩, .int .i64 n]) ∧ Below w.heap.size w w'
set_option maxRecDepth 100000 in
set_option maxHeartbeats 2000000 in
theorem rcstage (B : World) (C b o yb : Nat) (on : Int) (us : List Nat) (xs : List St) (st : List UInt8) (fin : List (List UInt8)) (ms : List Mv) (FA : Option Addr) (fc : Nat) (MA : Option Addr) (mc : Nat) (w : World) (h : Rc B C b o yb on us xs w) (hP : PIn B b o st fin ms FA fc MA mc) (hu : ∀ u ∈ us, u < ms.length) (hl : us.length ≤ 100000) :
    Calls Tryz.prog 14 #[.pointer (some ⟨C, 0, none⟩)] w (StagePost (stageOf st ms us) (sinceOf on xs) w) := by
  obtain ⟨SA, sc, UA, uc, hk, hs, ho⟩ := h.blk
  have hPw := hP.ext h.below
  have k0 := hk.cell 0 rfl
  have k2 := hk.cell 2 rfl
  have k3 := hk.cell 3 rfl
  have k4 := hk.cell 4 rfl
  have p0 := hPw.c0
  have p2 := hPw.c2
  have HD := Lib.hid (ext_drewN w)
  unfold stageOf sinceOf
  rcases List.eq_nil_or_concat us with e | ⟨l, u, e⟩
  · subst e
    have e2 : xs = [] := List.eq_nil_of_length_eq_zero (by have := h.len; simpa using this.symm)
    subst e2
    simp only [List.getLast?_nil]
    clear h hk hs ho hPw hP
    go_enter Tryz.func14, Tryz.ntmps14
    go_wp2_with fail
    go_quiet (fail)
    go_wp2_with fail
    go_ret2
    exact ⟨rfl, HD.out _⟩
  · rw [List.concat_eq_append] at e
    rcases List.eq_nil_or_concat xs with e3 | ⟨xl, x, e3⟩
    · have := h.len
      rw [e, e3] at this
      simp at this
    rw [List.concat_eq_append] at e3
    have hll : us.length = l.length + 1 := by rw [e]; simp
    have hxl : xs.length = l.length + 1 := by rw [← h.len]; exact hll
    have hum : u < ms.length := hu u (by rw [e]; simp)
    obtain ⟨ub, uo, e4, hy⟩ := (Rd.of_own ho).at_ (k := l.length) (by simp [nats]; omega)
    have hy' : w.cell? ⟨ub, uo + l.length, none⟩ = some (.int .i64 (u : Int)) := by rw [hy]; simp [nats, e]
    obtain ⟨sb, so, e5, hx⟩ := (Rd.of_own hs).row stCells_len (k := l.length) (by omega) (by omega)
    have hxe : xs[l.length]'(by omega) = x := by
      have h1 : xl.length = l.length := by have := hxl; rw [e3] at this; simpa using this
      have h2 : xs[l.length]? = some x := by rw [e3, ← h1]; simp
      rw [List.getElem?_eq_getElem (by omega)] at h2
      exact Option.some.inj h2
    have hx2 := hx 2 (.int .i64 x.day) (by rw [hxe]; rfl)
    rw [← Nat.add_assoc] at hx2
    obtain ⟨bb, oo, e6, hm⟩ := mv_at hPw.m hum
    have hm2 := hm.c2
    rw [show us.getLast? = some u by rw [e]; simp, show xs.getLast? = some x by rw [e3]; simp]
    simp only [List.getElem?_eq_getElem hum, Option.map_some, Option.getD_some]
    subst e4 e5 e6
    rw [hll] at k4
    rw [hxl] at k3
    obtain ⟨n, hn⟩ : ∃ n, n = l.length := ⟨_, rfl⟩
    rw [← hn] at k3 k4 hy' hx2 hll
    generalize ms[u] = m at hm2
    have hn1 : (n : Int) ≤ 100000 := by omega
    have hn2 : ((n : Int) + 1 == 0) = false := by simp; omega
    have hn3 : (((n + 1 : Nat) : Int) == 0) = false := by simp; omega
    have hn4 : (n : Int) + 1 - 1 = (n : Int) := by omega
    have hul : (u : Int) < (ms.length : Int) := by omega
    clear h hk hs ho hPw hP e e3 hll hxl hy hx hxe hm hu hl
    clear hn
    go_enter Tryz.func14, Tryz.ntmps14
    go_wp2_with fail
    go_quiet (fail)
    go_wp2_with fail
    go_ret2
    exact ⟨rfl, HD.out _⟩
def MayPost (P : Int → Prop) (w : World) (e : Ending) (w' : World) : Prop := ∃ c, P c ∧ e = .returned (.int .i64 c) ∧ Below w.heap.size w w'
theorem count_take (us : List Nat) (i k : Nat) (h : k < us.length) : (us.take (k + 1)).count i = (us.take k).count i + if us[k] = i then 1 else 0 := by
  rw [List.take_succ_eq_append_getElem h, List.count_append]
  simp only [List.count_cons, List.count_nil]
  by_cases c : us[k] = i
  · simp [c]
  · simp [c]
set_option maxRecDepth 100000 in
set_option maxHeartbeats 4000000 in
theorem rcmay (B : World) (C b o yb : Nat) (on : Int) (us : List Nat) (xs : List St) (d : Kd) (s : Sd) (st : List UInt8) (fin : List (List UInt8)) (ms : List Mv) (FA : Option Addr) (fc : Nat) (MA : Option Addr) (mc : Nat) (YH : Option Addr) (yc : Nat) (w : World) (h : Rc B C b o yb on us xs w) (hP : PIn B b o st fin ms FA fc MA mc) (hY : CdA B yb 0 d.cd YH yc) (hok : d.cd.hol.length ≤ 1048576)
    (hu : ∀ u ∈ us, u < ms.length) (hl : us.length ≤ 100000) (i : Nat) (m : Mv) (hm : ms[i]? = some m) (hsi : s.since = sinceOf on xs) (q : Int) :
    Calls Tryz.prog 57 #[.pointer (some ⟨C, 0, none⟩), .int .i64 (i : Int), .int .i64 q] w (MayPost (CanP d s m (us.count i) q) w) := by
  have HS := Lib.hid (fun (w1 : World) (hb : Below w.heap.size w w1) => rcstage B C b o yb on us xs st fin ms FA fc MA mc w1 (h.ext hb) hP hu hl)
  obtain ⟨SA, sc, UA, uc, hk, hs, ho⟩ := h.blk
  have hi : i < ms.length := (List.getElem?_eq_some_iff.1 hm).1
  have hPw := hP.ext h.below
  obtain ⟨bb, oo, e0, hx⟩ := mv_at hPw.m hi
  rw [(List.getElem?_eq_some_iff.1 hm).2] at hx
  subst e0
  have HK := Lib.hid hk
  have HO := Lib.hid (Rd.of_own ho)
  have HY := Lib.hid (hY.ext h.below)
  have k0 := hk.cell 0 rfl
  have p2 := hPw.c2
  have hil : (i : Int) < (ms.length : Int) := by omega
  obtain ⟨xn, xf, xt, xw, x1, x2, x3, x4⟩ := m
  obtain ⟨c0, c1, c2, c3, c4, c5, c6, c7⟩ := hx
  simp only at c0 c1 c2 c3 c4 c5 c6 c7
  have HSi := Lib.hid hsi
  have HPc := Lib.hid (show ∀ c, CanP d s ⟨xn, xf, xt, xw, x1, x2, x3, x4⟩ (us.count i) q c → CanP d s ⟨xn, xf, xt, xw, x1, x2, x3, x4⟩ (us.count i) q c from fun _ h => h)
  have xa := ext_alloc w (.cells #[.string ⟨xn.toArray⟩, .string ⟨xf.toArray⟩, .string ⟨xt.toArray⟩, .string ⟨xw.toArray⟩, .int .i64 x1, .int .i64 x2, .int .i64 x3, .int .i64 x4] 96)
  have ba := Blk.new w 96 [.string ⟨xn.toArray⟩, .string ⟨xf.toArray⟩, .string ⟨xt.toArray⟩, .string ⟨xw.toArray⟩, .int .i64 x1, .int .i64 x2, .int .i64 x3, .int .i64 x4]
  obtain ⟨V, hV⟩ : ∃ V, V = w.alloc (.cells #[.string ⟨xn.toArray⟩, .string ⟨xf.toArray⟩, .string ⟨xt.toArray⟩, .string ⟨xw.toArray⟩, .int .i64 x1, .int .i64 x2, .int .i64 x3, .int .i64 x4] 96) := ⟨_, rfl⟩
  obtain ⟨R, hR⟩ : ∃ R, R = w.heap.size := ⟨_, rfl⟩
  rw [← hV] at xa ba
  rw [← hR] at ba
  have HX := Lib.hid xa
  have k1 := cell_ext xa (hk.cell 1 rfl)
  have k4 := cell_ext xa (hk.cell 4 rfl)
  have m4 := ba.cell 4 rfl
  have m5 := ba.cell 5 rfl
  have m6 := ba.cell 6 rfl
  have m7 := ba.cell 7 rfl
  have hl2 : (us.length : Int) ≤ 100000 := by omega
  clear hk hs ho hPw hP hY h hm hsi xa ba hi
  go_enter Tryz.func57, Tryz.ntmps57
  go_upto_region 2 with fail
  rw [← hV, ← hR]
  clear hV hR c0 c1 c2 c3 c4 c5 c6 c7 p2 k0
  go_wp2_with fail
  go_loopw [8, 9] (fun s8 s9 wr => ∃ k : Nat, s8 = .int .i64 ((us.take k).count i : Nat) ∧ s9 = .int .i64 k ∧ k ≤ us.length ∧ wr = V) (fun _ s9 _ => us.length - (intOf s9).toNat)
  case atStart => exact ⟨0, by simp, rfl, Nat.zero_le _, rfl⟩
  case round =>
    obtain ⟨k, rfl, rfl, hk, rfl⟩ := hrel
    have hcb : (us.take k).count i ≤ 100000 := by have := List.count_le_length (a := i) (l := us.take k); simp at this; omega
    have hcb2 : (((us.take k).count i : Nat) : Int) ≤ 100000 := by omega
    by_cases hlt : k < us.length
    · have hcl : (k : Int) < (us.length : Int) := by omega
      have HCt := Lib.hid (count_take us i k hlt)
      obtain ⟨ub, uo, e4, hy⟩ := (HO.out.ext HX.out).at_ (k := k) (by simpa [nats] using hlt)
      have hy' : wr.cell? ⟨ub, uo + k, none⟩ = some (.int .i64 (us[k] : Int)) := by rw [hy]; simp [nats]
      subst e4
      clear hy
      generalize us[k] = u at hy' HCt
      generalize (us.take k).count i = n at *
      by_cases hz : u = i
      · have HC2 := Lib.hid (show ((us.take (k + 1)).count i : Nat) = n + 1 from by rw [HCt.out, if_pos hz])
        subst hz
        go_wp2_with fail
        go_roundw
        case rel => exact ⟨k + 1, by rw [HC2.out]; go_num, by go_num, by omega, by trivial⟩
        case measure => show us.length - (k + 1) < us.length - k; omega
      · have HC2 := Lib.hid (show ((us.take (k + 1)).count i : Nat) = n from by rw [HCt.out, if_neg hz]; rfl)
        have hz' : ((u : Int) == (i : Int)) = false := by simp; omega
        have hz2 : (u == i) = false := by simp [hz]
        go_wp2_with fail
        go_roundw
        case rel => exact ⟨k + 1, by rw [HC2.out], by go_num, by omega, by trivial⟩
        case measure => show us.length - (k + 1) < us.length - k; omega
    · have hcl : ¬ (k : Int) < (us.length : Int) := by omega
      rw [show us.take k = us from List.take_of_length_le (by omega)] at *
      generalize hcn : us.count i = n at *
      clear hcn
      obtain ⟨qb, hq⟩ : ∃ qb : Bool, qb = decide (0 < x4 ∧ x4 ≤ (n : Int)) := ⟨_, rfl⟩
      have HQ := Lib.hid hq
      clear hq
      obtain ⟨V, rfl⟩ : ∃ V, V = wr := ⟨_, rfl⟩
      go_upto_region 8 with fail
      go_cut [52] (fun t w9 => t = .bool qb ∧ V = w9)
      case first =>
        by_cases g1 : 0 < x4
        · by_cases g2 : x4 ≤ (n : Int)
          · have hq := HQ.out
            rw [show decide (0 < x4 ∧ x4 ≤ (n : Int)) = true by simp [g1, g2]] at hq
            subst hq
            go_wp2_with fail
            go_meet
            exact ⟨rfl, rfl⟩
          · have hq := HQ.out
            rw [show decide (0 < x4 ∧ x4 ≤ (n : Int)) = false by simp [g2]] at hq
            subst hq
            go_wp2_with fail
            go_meet
            exact ⟨rfl, rfl⟩
        · have hq := HQ.out
          rw [show decide (0 < x4 ∧ x4 ≤ (n : Int)) = false by simp [g1]] at hq
          subst hq
          go_wp2_with fail
          go_meet
          exact ⟨rfl, rfl⟩
      case rest =>
        obtain ⟨rfl, rfl⟩ := hcut
        cases qb with
        | true =>
          have HQt := Lib.hid (show 0 < x4 ∧ x4 ≤ (n : Int) from of_decide_eq_true HQ.out.symm)
          go_wp2_with fail
          go_ret
          exact ⟨8, .inl ⟨HQt.out, rfl⟩, rfl, HX.out⟩
        | false =>
          have HQf := Lib.hid (show ¬ (0 < x4 ∧ x4 ≤ (n : Int)) from of_decide_eq_false HQ.out.symm)
          obtain ⟨z, hz⟩ : ∃ z, z = zeroT ⟨xn, xf, xt, xw, x1, x2, x3, x4⟩ := ⟨_, rfl⟩
          have HZ := Lib.hid hz
          clear hz
          go_upto_region 10 with fail
          go_cut [68] (fun t w9 => t = .bool z ∧ V = w9)
          case first =>
            by_cases g1 : x1 = 0
            · by_cases g2 : x2 = 0
              · by_cases g3 : x3 = 0
                · have hz := HZ.out
                  rw [show zeroT ⟨xn, xf, xt, xw, x1, x2, x3, x4⟩ = true by unfold zeroT; simp [g1, g2, g3]] at hz
                  subst hz
                  subst g1 g2 g3
                  go_wp2_with fail
                  go_meet
                  exact ⟨rfl, rfl⟩
                · have hz := HZ.out
                  rw [show zeroT ⟨xn, xf, xt, xw, x1, x2, x3, x4⟩ = false by unfold zeroT; simp [g3]] at hz
                  subst hz
                  subst g1 g2
                  have g3' : (x3 == 0) = false := by simp [g3]
                  clear g3
                  go_wp2_with fail
                  go_meet
                  exact ⟨rfl, rfl⟩
              · have hz := HZ.out
                rw [show zeroT ⟨xn, xf, xt, xw, x1, x2, x3, x4⟩ = false by unfold zeroT; simp [g2]] at hz
                subst hz
                subst g1
                have g2' : (x2 == 0) = false := by simp [g2]
                clear g2
                go_wp2_with fail
                go_meet
                exact ⟨rfl, rfl⟩
            · have hz := HZ.out
              rw [show zeroT ⟨xn, xf, xt, xw, x1, x2, x3, x4⟩ = false by unfold zeroT; simp [g1]] at hz
              subst hz
              have g1' : (x1 == 0) = false := by simp [g1]
              clear g1
              go_wp2_with fail
              go_meet
              exact ⟨rfl, rfl⟩
          case rest =>
            obtain ⟨rfl, rfl⟩ := hcut
            cases z with
            | true =>
              go_wp2_with fail
              go_ret
              exact ⟨0, .inr ⟨HQf.out, .inl ⟨HZ.out.symm, rfl⟩⟩, rfl, HX.out⟩
            | false =>
              have HSt := Lib.hid (HS.out V HX.out)
              go_wp2_with fail
              refine HSt.out.mono ?_
              rintro e w5 ⟨rfl, hb5⟩
              have HX5 := Lib.hid (ext_trans HX.out hb5)
              have k1 := cell_ext hb5 k1
              have m4 := cell_ext hb5 m4
              have m5 := cell_ext hb5 m5
              have m6 := cell_ext hb5 m6
              clear hb5 HSt k4 m7
              go_wp2_with fail
              have hdr : Below w5.heap.size w5 w5.drew := ext_drewN w5 1
              have HDr := Lib.hid hdr
              have q1 := cell_ext hdr k1
              have r4 := cell_ext hdr m4
              have r5 := cell_ext hdr m5
              have r6 := cell_ext hdr m6
              clear hdr
              go_region_held3 (fun w' => w'.cell? ⟨C, 1, none⟩ = some (.pointer (some ⟨yb, 0, none⟩)) ∧ w'.cell? ⟨R, 4, none⟩ = some (.int .i64 x1) ∧ w'.cell? ⟨R, 5, none⟩ = some (.int .i64 x2) ∧ w'.cell? ⟨R, 6, none⟩ = some (.int .i64 x3))
                ((first | exact ⟨q1, r4, r5, r6⟩ | exact ⟨cell_ext hb6 q1, cell_ext hb6 r4, cell_ext hb6 r5, cell_ext hb6 r6⟩))
                ((first
                  | (go_at_call 41; refine (rdue_any d.cd hok yb 0 YH yc (sinceOf on xs) x1 x2 x3 _ (((HY.out.ext HX5.out)).ext HDr.out)).mono ?_; rintro e w6 ⟨⟨r1, r2⟩, hD, rfl, hb6⟩; have HDd := Lib.hid hD; have hcode := hD.code; clear hD)))
              have HX6 := Lib.hid (ext_trans HX5.out (ext_trans HDr.out hb6))
              have HDs := Lib.hid (show DueP d.cd s.since x1 x2 x3 (r1, r2) from by rw [HSi.out]; exact HDd.out)
              clear hb6 q1 r4 r5 r6 k1 m4 m5 m6 HDd
              by_cases hr : r2 = 0
              · subst hr
                by_cases hg : r1 < q
                · have HG := Lib.hid hg
                  go_wp2_with fail
                  go_ret
                  exact ⟨4, .inr ⟨HQf.out, .inr ⟨HZ.out.symm, _, HDs.out, .inl ⟨.inr HG.out, rfl⟩⟩⟩, rfl, HX6.out⟩
                · have HG := Lib.hid (show q ≤ r1 by omega)
                  go_wp2_with fail
                  go_ret
                  exact ⟨0, .inr ⟨HQf.out, .inr ⟨HZ.out.symm, _, HDs.out, .inr ⟨⟨rfl, HG.out⟩, rfl⟩⟩⟩, rfl, HX6.out⟩
              · have HG := Lib.hid hr
                have hp : 0 < r2 := by rcases hcode with e | e | e | e <;> omega
                clear hr hcode
                go_wp2_with fail
                go_ret
                exact ⟨4, .inr ⟨HQf.out, .inr ⟨HZ.out.symm, _, HDs.out, .inl ⟨.inl HG.out, rfl⟩⟩⟩, rfl, HX6.out⟩
end Go.Proofs.YtjfiodknjchngaaGreatDoor.Cg
namespace Go.Proofs.YtjfiodknjchngaaGreatDoor.Cg
open Go.RowKit Mem Nest Srs Cf Fk Msi CdP CdM Err Solve Sol App Ce

/-- which blocks stay behind the document's step -/
structure Fd (C : Nat) (w w' : World) : Prop where
  os : w'.os = w.os
  tape : w'.tape = w.tape
  output : w'.output = w.output
  size : w.heap.size ≤ w'.heap.size
  low : ∀ k, k < C → k < w.heap.size → w'.heap[k]? = w.heap[k]?
  kind : ∀ (k : Nat) (c : Array Value) (T : TypeId) (fz : Nat × Nat), w.heap[k]? = some (.cells c T fz) → T ≠ 50 → T ≠ 59 → T ≠ 3 → w'.heap[k]? = some (.cells c T fz)
theorem Fd.trans {C : Nat} {w w1 w2 : World} (h : Fd C w w1) (k : Fd C w1 w2) : Fd C w w2 :=
  ⟨k.os.trans h.os, k.tape.trans h.tape, k.output.trans h.output, Nat.le_trans h.size k.size, fun b hb hs => (k.low b hb (Nat.lt_of_lt_of_le hs h.size)).trans (h.low b hb hs), fun b c T fz hb h1 h2 h3 => k.kind b c T fz (h.kind b c T fz hb h1 h2 h3) h1 h2 h3⟩
theorem Fd.of {C : Nat} {w w' : World} (h : Below w.heap.size w w') : Fd C w w' :=
  ⟨h.os, h.tape, h.output, h.size, fun k _ hs => h.block k hs, fun k c T fz hk _ _ _ => by rw [h.block k (Array.getElem?_eq_some_iff.1 hk).1]; exact hk⟩
theorem Fd.set {C : Nat} {w : World} {cs : List Value} (h : Blk w C 50 cs) (j : Nat) (v : Value) : Fd C w (w.setCell ⟨C, j, none⟩ v) :=
  ⟨rfl, rfl, rfl, by simp, fun k hk _ => set_at w C j v (by omega), fun k c T fz hk h1 _ _ => by
    have hne : k ≠ C := by
      rintro rfl
      unfold Blk at h
      rw [h] at hk
      simp only [Option.some.injEq, Obj.cells.injEq] at hk
      exact h1 hk.2.1.symm
    rw [set_at w C j v hne]
    exact hk⟩
theorem Fd.grown {C : Nat} {w w' : World} {e : TypeId} {size n : Nat} {v : Value} {xs : List Value} (ho : w.ownsRow (C + 1) e size v n xs) (hg : w.grownBy w' v.ownBlock) (he : e = 59 ∨ e = 3) : Fd C w w' :=
  ⟨hg.os, hg.tape, hg.output, hg.size, fun k hk hs => hg.block k hs (fun e1 => by have := (ho.lt k e1.symm).1; omega), fun k c T fz hk _ h2 h3 => by
    have hne : some k ≠ v.ownBlock := by
      intro e1
      obtain ⟨c', fz', h'⟩ := Lib.ownsRow_kind ho k e1.symm
      rw [h'] at hk
      simp only [Option.some.injEq, Obj.cells.injEq] at hk
      rcases he with he | he
      · exact h2 (hk.2.1.symm.trans he)
      · exact h3 (hk.2.1.symm.trans he)
    rw [hg.block k (Array.getElem?_eq_some_iff.1 hk).1 hne]
    exact hk⟩
/-- an own row stays where its block does -/
theorem own_keep {w w' : World} {base : Nat} {e : TypeId} {size n : Nat} {v : Value} {xs : List Value} (h : w.ownsRow base e size v n xs) (hk : ∀ g c fz, v.ownBlock = some g → w.heap[g]? = some (.cells c e fz) → w'.heap[g]? = some (.cells c e fz)) : w'.ownsRow base e size v n xs := by
  refine ⟨h.1, ?_⟩
  rcases h.2 with h2 | ⟨g, cap, cur, hv, hg, hb, h1⟩
  · exact .inl h2
  · exact .inr ⟨g, cap, cur, hv, hg, hk g cur _ (by rw [hv]; rfl) hb, h1⟩
theorem own_grown {w w' : World} {b1 b2 : Nat} {e1 e2 : TypeId} {s1 s2 n1 n2 : Nat} {v1 v2 : Value} {x1 x2 : List Value} (h : w.ownsRow b1 e1 s1 v1 n1 x1) (ho : w.ownsRow b2 e2 s2 v2 n2 x2) (hg : w.grownBy w' v2.ownBlock) (hne : e1 ≠ e2) : w'.ownsRow b1 e1 s1 v1 n1 x1 :=
  own_keep h fun g c fz _ hk => by
    have hng : some g ≠ v2.ownBlock := by
      intro e
      obtain ⟨c', fz', h'⟩ := Lib.ownsRow_kind ho g e.symm
      rw [h'] at hk
      simp only [Option.some.injEq, Obj.cells.injEq] at hk
      exact hne hk.2.1.symm
    rw [hg.block g (Array.getElem?_eq_some_iff.1 hk).1 hng]
    exact hk
theorem Cs.fd {B : World} {C : Nat} {d : Kd} {s : Sd} {w w' : World} (h : Cs B d s w) (hf : Fd C w w') (hC : B.heap.size + 2 ≤ C) : Cs B d s w' := by
  obtain ⟨h1, h2, h3, h4, SA, sc, h5, h6⟩ := h
  refine ⟨⟨hf.os.trans h1.os, hf.tape.trans h1.tape, hf.output.trans h1.output, Nat.le_trans h1.size hf.size, fun k hk => (hf.low k (by omega) (Nat.lt_of_lt_of_le hk h1.size)).trans (h1.block k hk)⟩, h2, ?_, h4, SA, sc, ?_, ?_⟩
  · exact (hf.low _ (by omega) h3.lt).trans h3
  · exact (hf.low _ (by omega) h5.lt).trans h5
  · exact own_keep h6 fun g c fz _ hb => hf.kind g c _ fz hb (by decide) (by decide) (by decide)
theorem Rc.fr {B : World} {C b o yb : Nat} {on : Int} {us : List Nat} {xs : List St} {w w' : World} (h : Rc B C b o yb on us xs w) (hf : Fr B w w') (hb : Below B.heap.size B w') : Rc B C b o yb on us xs w' := by
  obtain ⟨h1, h2, h3, SA, sc, UA, uc, h4, h5, h6⟩ := h
  refine ⟨hb, h2, h3, SA, sc, UA, uc, ?_, ?_, ?_⟩
  · exact hf.block C _ _ _ h4 (by omega) (by decide) (by decide)
  · exact own_keep h5 fun g c fz hg hk => hf.block g c _ fz hk (by have := (h5.lt g hg).1; omega) (by decide) (by decide)
  · exact own_keep h6 fun g c fz hg hk => hf.block g c _ fz hk (by have := (h6.lt g hg).1; omega) (by decide) (by decide)
/-- program's state and the document's lists -/
structure Cor (d : Kd) (s : Sd) (us : List Nat) (xs : List St) : Prop where
  steps : s.steps = xs
  stage : s.stage = stageOf d.st d.ms us
  since : s.since = sinceOf d.first xs
  last : Ce.lastF d s = sinceOf d.first xs
  ulen : s.used.length = d.ms.length
  used : ∀ i, i < d.ms.length → s.used[i]? = some (us.count i)
  bd : ∀ u ∈ us, u < d.ms.length
  len : us.length = xs.length
theorem cor_start (d : Kd) : Cor d ⟨d.st, d.first, [], List.replicate d.ms.length 0⟩ [] [] :=
  ⟨rfl, rfl, rfl, rfl, by simp, fun i hi => by simp [hi], fun u hu => by simp at hu, rfl⟩
theorem cor_step {d : Kd} {s : Sd} {us : List Nat} {xs : List St} {m : Mv} {i u : Nat} {x : St} (h : Cor d s us xs) (hm : d.ms[i]? = some m) (hu : s.used[i]? = some u) : Cor d (nxt s m i u x) (us ++ [i]) (xs ++ [x]) := by
  have hi : i < d.ms.length := (List.getElem?_eq_some_iff.1 hm).1
  refine ⟨by simp [nxt, h.steps], by simp [nxt, stageOf, hm], by simp [nxt, sinceOf], by simp [nxt, Ce.lastF, sinceOf], by simp [nxt, h.ulen], fun k hk => ?_, fun v hv => ?_, by simp [h.len]⟩
  · show (s.used.set i (u + 1))[k]? = _
    rw [List.count_append]
    by_cases e : i = k
    · subst e
      have h1 := h.used i hk
      rw [hu] at h1
      have h2 := Option.some.inj h1
      rw [List.getElem?_set_self (by rw [h.ulen]; exact hk), h2]
      simp
    · rw [List.getElem?_set_ne e, h.used k hk]
      simp [e]
  · rcases List.mem_append.1 hv with hv | hv
    · exact h.bd v hv
    · rw [List.mem_singleton] at hv
      omega
theorem can_same {d : Kd} {s : Sd} {m : Mv} {u : Nat} {on c c' : Int} (h : CanP d s m u on c) (h' : CanP d s m u on c') : c = c' := by
  rcases h with ⟨h1, rfl⟩ | ⟨h1, ⟨h2, rfl⟩ | ⟨h2, o, ho, ⟨h3, rfl⟩ | ⟨h3, rfl⟩⟩⟩ <;> rcases h' with ⟨k1, rfl⟩ | ⟨k1, ⟨k2, rfl⟩ | ⟨k2, o', ho', ⟨k3, rfl⟩ | ⟨k3, rfl⟩⟩⟩
  all_goals first
    | rfl
    | exact absurd h1 k1
    | exact absurd k1 h1
    | exact absurd (h2.symm.trans k2) (by decide)
    | (obtain rfl := ho.same ho'; exfalso; omega)
theorem dop_same {d : Kd} {s s1 s2 : Sd} {x : St} {c1 c2 : Int} (h : DoP d s x c1 s1) (h' : DoP d s x c2 s2) : c1 = c2 ∧ s1 = s2 := by
  rcases h with ⟨h1, rfl, rfl⟩ | ⟨h1, ⟨h2, rfl, rfl⟩ | ⟨h2, i, m, u, a1, a2, a3, a4, h5⟩⟩ <;> rcases h' with ⟨k1, rfl, rfl⟩ | ⟨k1, ⟨k2, rfl, rfl⟩ | ⟨k2, i', m', u', b1, b2, b3, b4, k5⟩⟩
  · exact ⟨rfl, rfl⟩
  · exact absurd h1 k1
  · exact absurd h1 k1
  · exact absurd k1 h1
  · exact ⟨rfl, rfl⟩
  · rcases h2 with h2 | h2
    · rw [h2] at k2; cases k2
    · exact absurd (List.any_eq_true.2 ⟨m', List.mem_of_getElem? b1, b4⟩) (by rw [h2]; decide)
  · exact absurd k1 h1
  · rcases k2 with k2 | k2
    · rw [k2] at h2; cases h2
    · exact absurd (List.any_eq_true.2 ⟨m, List.mem_of_getElem? a1, a4⟩) (by rw [k2]; decide)
  · have hii : i = i' := by
      rcases Nat.lt_trichotomy i i' with c | c | c
      · exact absurd (List.any_eq_true.2 ⟨m, List.mem_of_getElem? (show (d.ms.take i')[i]? = some m by rw [List.getElem?_take]; simp [c, a1]), a4⟩) (by rw [b3]; decide)
      · exact c
      · exact absurd (List.any_eq_true.2 ⟨m', List.mem_of_getElem? (show (d.ms.take i)[i']? = some m' by rw [List.getElem?_take]; simp [c, b1]), b4⟩) (by rw [a3]; decide)
    subst hii
    rw [a1] at b1
    rw [a2] at b2
    obtain rfl := Option.some.inj b1
    obtain rfl := Option.some.inj b2
    rcases h5 with ⟨e1, rfl, rfl⟩ | ⟨e1, ⟨e2, e3, rfl⟩ | ⟨rfl, e3, rfl⟩⟩ <;> rcases k5 with ⟨f1, rfl, rfl⟩ | ⟨f1, ⟨f2, f3, rfl⟩ | ⟨rfl, f3, rfl⟩⟩
    · exact ⟨rfl, rfl⟩
    · exact absurd f1 e1
    · exact absurd f1 e1
    · exact absurd e1 f1
    · exact ⟨can_same e3 f3, rfl⟩
    · exact absurd (can_same e3 f3) e2
    · exact absurd e1 f1
    · exact absurd (can_same f3 e3) f2
    · exact ⟨rfl, rfl⟩
/-- names and the stages from which they lead are given once -/
def Uni (ms : List Mv) : Prop := ∀ (i j : Nat) (m m' : Mv), ms[i]? = some m → ms[j]? = some m' → m.name = m'.name → m.frm = m'.frm → i = j
theorem uni_of {ms : List Mv} (h : badTo ms ms.length = false) : Uni ms := by
  have key : ∀ (i j : Nat) (m m' : Mv), i < j → ms[i]? = some m → ms[j]? = some m' → m.name = m'.name → m.frm = m'.frm → False := by
    intro i j m m' hij h1 h2 hn hf
    have hj : j < ms.length := (List.getElem?_eq_some_iff.1 h2).1
    have hb : badAt ms j = true := by
      unfold badAt
      rw [h2]
      simp only [Bool.or_eq_true]
      refine .inr (List.any_eq_true.2 ⟨m, List.mem_of_getElem? (show (ms.take j)[i]? = some m by rw [List.getElem?_take]; simp [hij, h1]), ?_⟩)
      unfold sameB
      rw [hn, hf]
      simp
    have : badTo ms ms.length = true := List.any_eq_true.2 ⟨j, List.mem_range.2 hj, hb⟩
    rw [h] at this
    cases this
  intro i j m m' h1 h2 hn hf
  rcases Nat.lt_trichotomy i j with c | c | c
  · exact (key i j m m' c h1 h2 hn hf).elim
  · exact c
  · exact (key j i m' m c h2 h1 hn.symm hf.symm).elim
theorem hit_iff {stage mv : List UInt8} {m : Mv} : hitB stage mv m = true ↔ m.name = mv ∧ m.frm = stage := by
  unfold hitB
  simp [Bool.and_eq_true, beq_iff_eq]
theorem uni_first {ms : List Mv} (hU : Uni ms) {i : Nat} {m : Mv} {stage mv : List UInt8} (hm : ms[i]? = some m) (hh : hitB stage mv m = true) : (ms.take i).any (hitB stage mv) = false := by
  rw [List.any_eq_false]
  intro y hy hb
  obtain ⟨j, hj, e⟩ := List.mem_iff_getElem.1 hy
  have hji : j < i := by simp at hj; omega
  have hy' : ms[j]? = some y := by
    rw [List.getElem_take] at e
    rw [List.getElem?_eq_getElem (by simp at hj; omega), e]
  obtain ⟨a1, a2⟩ := hit_iff.1 hh
  obtain ⟨b1, b2⟩ := hit_iff.1 hb
  have := hU i j m y hm hy' (a1.trans b1.symm) (a2.trans b2.symm)
  omega
theorem any_f {α : Type} (p : α → Bool) (l : List α) {k : Nat} (h : k < l.length) (ha : (l.take k).any p = false) (hk : p l[k] = false) : (l.take (k + 1)).any p = false := by
  rw [List.take_succ_eq_append_getElem h, List.any_append, ha]
  simp [hk]
theorem can_code {d : Kd} {s : Sd} {m : Mv} {u : Nat} {on c : Int} (h : CanP d s m u on c) : 0 ≤ c := by
  rcases h with ⟨_, rfl⟩ | ⟨_, ⟨_, rfl⟩ | ⟨_, o, _, ⟨_, rfl⟩ | ⟨_, rfl⟩⟩⟩ <;> omega
theorem rst_info : (Tryz.prog.info? 59).map (fun i => (i.zero, i.size, i.bytes)) = some (some (.agg #[.string ⟨#[]⟩, .string ⟨#[]⟩, .int .i64 0]), 3, 40) := by kernel_rfl
def RdPost (B : World) (C b o yb : Nat) (d : Kd) (s : Sd) (x : St) (w : World) (e : Ending) (w' : World) : Prop := ∃ c s' us' xs', DoP d s x c s' ∧ e = .returned (.int .i64 c) ∧ Cor d s' us' xs' ∧ Rc B C b o yb d.first us' xs' w' ∧ Fd C w w'
theorem gd_day (n : Int) : dayB n = true ↔ Gd n := by
  unfold dayB Gd
  simp
set_option maxRecDepth 100000 in
set_option maxHeartbeats 40000000 in
theorem rcdo (B : World) (C b o yb : Nat) (us : List Nat) (xs : List St) (d : Kd) (s : Sd) (x : St) (FA : Option Addr) (fc : Nat) (MA : Option Addr) (mc : Nat) (YH : Option Addr) (yc : Nat) (w : World) (h : Rc B C b o yb d.first us xs w) (hP : PIn B b o d.st d.fin d.ms FA fc MA mc) (hY : CdA B yb 0 d.cd YH yc) (hok : d.cd.hol.length ≤ 1048576)
    (hfl : d.fin.length ≤ 1000) (hml : d.ms.length ≤ 1000) (hC : Cor d s us xs) (hl : us.length ≤ 100000) (hU : Uni d.ms) :
    Calls Tryz.prog 21 #[.pointer (some ⟨C, 0, none⟩), .agg #[.string ⟨x.mv.toArray⟩, .string ⟨x.who.toArray⟩, .int .i64 x.day]] w (RdPost B C b o yb d s x w) := by
  have xa := ext_alloc w (.cells #[.string ⟨x.mv.toArray⟩, .string ⟨x.who.toArray⟩, .int .i64 x.day] 59)
  have ba := Blk.new w 59 [.string ⟨x.mv.toArray⟩, .string ⟨x.who.toArray⟩, .int .i64 x.day]
  obtain ⟨V, hV⟩ : ∃ V, V = w.alloc (.cells #[.string ⟨x.mv.toArray⟩, .string ⟨x.who.toArray⟩, .int .i64 x.day] 59) := ⟨_, rfl⟩
  obtain ⟨R, hR⟩ : ∃ R, R = w.heap.size := ⟨_, rfl⟩
  rw [← hV] at xa ba
  rw [← hR] at ba
  have HX := Lib.hid xa
  have HRv := Lib.hid (h.ext xa)
  have HBl := Lib.hid ba
  have HP := Lib.hid hP
  have HY := Lib.hid hY
  have HC := Lib.hid hC
  have HUn := Lib.hid hU
  obtain ⟨SA, sc, UA, uc, hk0, hs0, hu0⟩ := h.blk
  have HK0 := Lib.hid hk0
  have HS0 := Lib.hid hs0
  have HU0 := Lib.hid hu0
  have HGl := Lib.hid (show (∀ g, (Value.slice SA xs.length sc).ownBlock = some g → C + 1 ≤ g ∧ g < R) ∧ ∀ g, (Value.slice UA us.length uc).ownBlock = some g → C + 1 ≤ g ∧ g < R from ⟨fun g hg => by rw [hR]; exact hs0.lt g hg, fun g hg => by rw [hR]; exact hu0.lt g hg⟩)
  have HCR := Lib.hid (show C < R from by rw [hR]; exact hk0.lt)
  have HDp := Lib.hid (show ∀ c s', DoP d s x c s' → DoP d s x c s' from fun _ _ h => h)
  have hstg := rcstage B C b o yb d.first us xs d.st d.fin d.ms FA fc MA mc V (h.ext xa) hP hC.bd hl
  rw [← hC.stage, ← hC.since] at hstg
  have HSt := Lib.hid hstg
  clear xa ba h hP hY hC hU hk0 hs0 hu0 hstg
  go_enter Tryz.func21, Tryz.ntmps21
  go_upto_region 1 with fail
  rw [← hV, ← hR]
  clear hV hR
  go_wp2_with fail
  refine HSt.out.mono ?_
  rintro e w1 ⟨rfl, hb1⟩
  have HX1 := Lib.hid (ext_trans HX.out hb1)
  have HB1 := Lib.hid (blk_ext2 HBl.out hb1)
  have HR1 := Lib.hid (HRv.out.ext hb1)
  have s2 := HB1.out.cell 2 rfl
  clear hb1 HSt
  obtain ⟨stage, hstage⟩ : ∃ stage, stage = s.stage := ⟨_, rfl⟩
  obtain ⟨since, hsince⟩ : ∃ since, since = s.since := ⟨_, rfl⟩
  have HSg := Lib.hid hstage
  have HSc := Lib.hid hsince
  rw [← hstage, ← hsince]
  clear hstage hsince
  obtain ⟨q, hq⟩ : ∃ q, q = dayB x.day := ⟨_, rfl⟩
  have HDay := Lib.hid (show Calls Tryz.prog 13 #[.int .i64 x.day] w1 (RetB q w1) from by rw [hq]; exact isday_any x.day w1)
  have HQd := Lib.hid (show q = true ↔ Gd x.day from by rw [hq]; exact gd_day _)
  clear hq
  have HLs := Lib.hid (show Ce.lastF d s = since from by rw [HSc.out, HC.out.last, HC.out.since])
  cases q with
  | false =>
    go_wp2_with fail
    refine HDay.out.mono ?_
    rintro e w' ⟨rfl, rfl⟩
    go_wp2_with fail
    go_ret
    exact ⟨4, s, us, xs, HDp.out _ _ (.inl ⟨.inl (fun h => by have := HQd.out.2 h; cases this), rfl, rfl⟩), rfl, HC.out, HR1.out, Fd.of HX1.out⟩
  | true =>
  by_cases g1 : x.day < since
  · have HG := Lib.hid g1
    go_wp2_with fail
    refine HDay.out.mono ?_
    rintro e w' ⟨rfl, rfl⟩
    go_wp2_with fail
    go_ret
    exact ⟨4, s, us, xs, HDp.out _ _ (.inl ⟨.inr (by rw [HLs.out]; exact HG.out), rfl, rfl⟩), rfl, HC.out, HR1.out, Fd.of HX1.out⟩
  have HG := Lib.hid (show ¬ (¬ Gd x.day ∨ x.day < Ce.lastF d s) from by rw [HLs.out]; intro h; rcases h with h | h; exact h (HQd.out.1 rfl); exact g1 h)
  have HPw := Lib.hid (HP.out.ext HR1.out.below)
  have p1 := HPw.out.c1
  have p2 := HPw.out.c2
  have HK1 := Lib.hid (blk_ext2 HK0.out HX1.out)
  have k0 := HK1.out.cell 0 rfl
  have s0 := HB1.out.cell 0 rfl
  have HFin := Lib.hid (innames_any d.fin (by omega) FA fc stage w1 HPw.out.f)
  obtain ⟨db, hdb⟩ : ∃ db, db = d.fin.contains stage := ⟨_, rfl⟩
  rw [← hdb] at HFin
  have HDb := Lib.hid (show doneB d s = db from by unfold doneB; rw [hdb, HSg.out])
  clear hdb
  go_wp2_with fail
  refine HDay.out.mono ?_
  rintro e w' ⟨rfl, rfl⟩
  go_wp2_with fail
  refine HFin.out.mono ?_
  rintro e w' ⟨rfl, rfl⟩
  go_wp2_with fail
  go_loopw [9, 10] (fun s9 s10 wr => ∃ (a : Int) (k : Nat), s9 = .int .i64 a ∧ s10 = .int .i64 k ∧ k ≤ d.ms.length ∧ Hid (Below w1.heap.size w1 wr) ∧ Hid ((a = -1 ∧ (d.ms.take k).any (hitB stage x.mv) = false) ∨ ∃ (i : Nat) (m : Mv), i < k ∧ a = (i : Int) ∧ d.ms[i]? = some m ∧ hitB stage x.mv m = true)) (fun _ s10 _ => d.ms.length - (intOf s10).toNat)
  case atStart => exact ⟨-1, 0, rfl, rfl, Nat.zero_le _, Below.refl _ _, .inl ⟨rfl, by simp⟩⟩
  case round =>
    obtain ⟨a, k, rfl, rfl, hk, HB, HA⟩ := hrel
    have p1 := cell_ext HB.out p1
    have p2 := cell_ext HB.out p2
    have k0 := cell_ext HB.out k0
    have s0 := cell_ext HB.out s0
    have s2 := cell_ext HB.out s2
    have hd := ext_drewN wr
    have HDr := Lib.hid hd
    clear hd
    by_cases hlt : k < d.ms.length
    · have hcl : (k : Int) < (d.ms.length : Int) := by omega
      obtain ⟨bb, oo, e0, hx⟩ := mv_at (HPw.out.m.ext HB.out) hlt
      subst e0
      have HAf := Lib.hid (fun hf => any_f (hitB stage x.mv) d.ms hlt hf)
      have HMk := Lib.hid (show d.ms[k]? = some d.ms[k] from List.getElem?_eq_getElem hlt)
      generalize hy : d.ms[k] = y at hx HAf HMk
      clear hy
      have c0 := hx.c0
      have c1 := hx.c1
      clear hx
      cases f1 : (y.frm == stage) with
      | false =>
        have HN := Lib.hid (show (a = -1 ∧ (d.ms.take (k + 1)).any (hitB stage x.mv) = false) ∨ ∃ (i : Nat) (m : Mv), i < k + 1 ∧ a = (i : Int) ∧ d.ms[i]? = some m ∧ hitB stage x.mv m = true from by
          rcases HA.out with ⟨h1, h2⟩ | ⟨i, m, h1, h2, h3, h4⟩
          · exact .inl ⟨h1, HAf.out h2 (by unfold hitB; rw [f1]; simp)⟩
          · exact .inr ⟨i, m, by omega, h2, h3, h4⟩)
        go_wp2_with fail
        go_quiet (fail)
        go_wp2_with fail
        go_roundw
        case rel => exact ⟨a, k + 1, rfl, by go_num, by omega, ext_trans HB.out (HDr.out _), HN.out⟩
        case measure => show d.ms.length - (k + 1) < d.ms.length - k; omega
      | true =>
        cases f2 : (y.name == x.mv) with
        | false =>
          have HN := Lib.hid (show (a = -1 ∧ (d.ms.take (k + 1)).any (hitB stage x.mv) = false) ∨ ∃ (i : Nat) (m : Mv), i < k + 1 ∧ a = (i : Int) ∧ d.ms[i]? = some m ∧ hitB stage x.mv m = true from by
            rcases HA.out with ⟨h1, h2⟩ | ⟨i, m, h1, h2, h3, h4⟩
            · exact .inl ⟨h1, HAf.out h2 (by unfold hitB; rw [f2]; rfl)⟩
            · exact .inr ⟨i, m, by omega, h2, h3, h4⟩)
          go_wp2_with fail
          go_quiet (fail)
          go_wp2_with fail
          go_roundw
          case rel => exact ⟨a, k + 1, rfl, by go_num, by omega, ext_trans HB.out (HDr.out _), HN.out⟩
          case measure => show d.ms.length - (k + 1) < d.ms.length - k; omega
        | true =>
          have HN := Lib.hid (show ((k : Int) = -1 ∧ (d.ms.take (k + 1)).any (hitB stage x.mv) = false) ∨ ∃ (i : Nat) (m : Mv), i < k + 1 ∧ (k : Int) = (i : Int) ∧ d.ms[i]? = some m ∧ hitB stage x.mv m = true from .inr ⟨k, y, by omega, rfl, HMk.out, by unfold hitB; rw [f1, f2]; rfl⟩)
          go_wp2_with fail
          go_quiet (fail)
          go_wp2_with fail
          go_roundw
          case rel => exact ⟨k, k + 1, rfl, by go_num, by omega, ext_trans HB.out (HDr.out _), HN.out⟩
          case measure => show d.ms.length - (k + 1) < d.ms.length - k; omega
    · have hcl : ¬ (k : Int) < (d.ms.length : Int) := by omega
      have HR2 := Lib.hid (HR1.out.ext HB.out)
      have HX2 := Lib.hid (ext_trans HX1.out HB.out)
      have hke : k = d.ms.length := by omega
      have hAo := HA.out
      rw [hke] at hAo
      rcases hAo with ⟨rfl, hno⟩ | ⟨i, m, hi, rfl, hm, hh⟩
      · have HNo := Lib.hid (show d.ms.any (hitB s.stage x.mv) = false from by rw [List.take_length] at hno; rw [← HSg.out]; exact hno)
        clear hno HA hke
        cases db with
        | true =>
          go_wp2_with fail
          go_ret
          exact ⟨11, s, us, xs, HDp.out _ _ (.inr ⟨HG.out, .inl ⟨.inr HNo.out, rfl, rfl⟩⟩), rfl, HC.out, HR2.out, Fd.of HX2.out⟩
        | false =>
          go_wp2_with fail
          go_ret
          exact ⟨11, s, us, xs, HDp.out _ _ (.inr ⟨HG.out, .inl ⟨.inr HNo.out, rfl, rfl⟩⟩), rfl, HC.out, HR2.out, Fd.of HX2.out⟩
      · have HHit := Lib.hid (show d.ms[i]? = some m ∧ s.used[i]? = some (us.count i) ∧ (d.ms.take i).any (hitB s.stage x.mv) = false ∧ hitB s.stage x.mv m = true from ⟨hm, HC.out.used i hi, uni_first HUn.out hm (by rw [← HSg.out]; exact hh), by rw [← HSg.out]; exact hh⟩)
        have hi0 : ¬ ((i : Int) < 0) := by omega
        have hil : (i : Int) < (d.ms.length : Int) := by omega
        clear hm hh HA hke
        cases db with
        | true =>
          go_wp2_with fail
          go_ret
          exact ⟨11, s, us, xs, HDp.out _ _ (.inr ⟨HG.out, .inl ⟨.inl HDb.out, rfl, rfl⟩⟩), rfl, HC.out, HR2.out, Fd.of HX2.out⟩
        | false =>
          obtain ⟨bb, oo, e0, hx⟩ := mv_at (HPw.out.m.ext HB.out) hi
          rw [(List.getElem?_eq_some_iff.1 HHit.out.1).2] at hx
          subst e0
          have c3 := hx.c3
          have s1 := (blk_ext2 HB1.out HB.out).cell 1 rfl
          have HBl2 := Lib.hid (blk_ext2 HB1.out HB.out)
          have HK2 := Lib.hid (blk_ext2 HK1.out HB.out)
          have HS2 := Lib.hid (own_ext (own_ext HS0.out HX1.out) HB.out)
          have HU2 := Lib.hid (own_ext (own_ext HU0.out HX1.out) HB.out)
          clear hx
          by_cases g : m.who = x.who
          · rw [g] at c3
            have HGw := Lib.hid g
            have HMay := Lib.hid (fun n => rcmay B C b o yb d.first us xs d s d.st d.fin d.ms FA fc (some ⟨bb, oo, none⟩) mc YH yc (wr.drewN n) (HR2.out.ext (ext_drewN _ n)) HP.out HY.out hok HC.out.bd hl i m HHit.out.1 HC.out.since x.day)
            clear g
            go_wp2_with fail
            go_quiet (fail)
            go_wp2_with fail
            refine (HMay.out _).mono ?_
            rintro e w5 ⟨c, hc, rfl, hb5⟩
            have hb5 := ext_trans (ext_drewN wr nq) hb5
            have HX5 := Lib.hid (ext_trans HX2.out hb5)
            have HR5 := Lib.hid (HR2.out.ext hb5)
            have HCn := Lib.hid hc
            by_cases hz : c = 0
            · subst hz
              have HK5 := Lib.hid (blk_ext2 HK2.out hb5)
              have HS5 := Lib.hid (own_ext HS2.out hb5)
              have HU5 := Lib.hid (own_ext HU2.out hb5)
              have HBl5 := Lib.hid (blk_ext2 HBl2.out hb5)
              obtain ⟨j0, hj, hz0, hz1, hz2⟩ := info_parts rst_info
              have HJ := Lib.hid hj
              have HJ0 := Lib.hid hz0
              have HJ1 := Lib.hid hz1
              have HJ2 := Lib.hid hz2
              clear hj hz0 hz1 hz2
              have HLx := Lib.hid (show xs.length ≤ 100000 from by have := HC.out.len; omega)
              have hlx := HLx.out
              clear hb5 hc HMay p1 p2 c3 s0 s1 s2 k0
              have hd : Below w5.heap.size w5 w5.drew := ext_drewN w5 1
              have d3 := cell_ext hd (HK5.out.cell 3 rfl)
              have f0 := cell_ext hd (HBl5.out.cell 0 rfl)
              have f1 := cell_ext hd (HBl5.out.cell 1 rfl)
              have f2 := cell_ext hd (HBl5.out.cell 2 rfl)
              have y3 := fun ob => cell_ext (ext_alloc w5 ob) (HK5.out.cell 3 rfl)
              have hs5 : C + 1 ≤ w5.heap.size := HK5.out.lt
              clear hd
              go_wp2_with fail
              go_cut [] (fun w9 => ∃ (S2 : Option Addr) (c2 : Nat), Hid (Blk w9 C 50 [.pointer (some ⟨b, o, none⟩), .pointer (some ⟨yb, 0, none⟩), .int .i64 d.first, .slice S2 (xs.length + 1) c2, .slice UA us.length uc] ∧ w9.ownsRow (C + 1) 59 3 (.slice S2 (xs.length + 1) c2) (xs.length + 1) (xs.flatMap stCells ++ [.string ⟨x.mv.toArray⟩, .string ⟨x.who.toArray⟩, .int .i64 x.day]) ∧
                w9.ownsRow (C + 1) 3 1 (.slice UA us.length uc) us.length (nats us) ∧ Below B.heap.size B w9 ∧ Fd C w w9))
              case first =>
                go_region_law (first
                  | (refine step_append_lies _ rfl (.tmp 110) (.tmp 112) 27 rfl (C + 1) 59 j0 _ 3 40 Tryz.underlying27 HJ.out HJ0.out HJ1.out HJ2.out rfl (by omega) (.slice SA xs.length sc) xs.length _ rfl (own_ext (World.ownsRow.alloc HS5.out _) (ext_drewN _ 1)) ⟨w5.heap.size, 0, none⟩ 1 1 [.string ⟨x.mv.toArray⟩, .string ⟨x.who.toArray⟩, .int .i64 x.day] rfl rfl (fun j v hj => cell_ext (ext_drewN _ 1) (new_cells w5 [.string ⟨x.mv.toArray⟩, .string ⟨x.who.toArray⟩, .int .i64 x.day] _ _ rfl j v hj)) (by intro v hv; simp only [List.mem_cons, List.not_mem_nil, or_false] at hv; rcases hv with rfl | rfl | rfl <;> rfl) (by omega) (by simp only [maxLen]; omega) (by omega) (by simp; omega) _ rfl ?_; intro g5 c5 w7 hown1 hg1 _ _; have HO7 := Lib.hid hown1; have HG7 := Lib.hid hg1; have HK7 := Lib.hid (blk_far (blk_ext2 (blk_ext2 HK5.out (ext_alloc _ _)) (ext_drewN _ 1)) hg1 (fun h => by have := (HGl.out.1 _ h).1; omega)); have y1 := HK7.out.cell 3 rfl; have y2 := HK7.out.free 3; clear hown1 hg1))
                all_goals (
                  go_wp2_with fail
                  go_meet
                  refine ⟨some ⟨g5, 0, none⟩, c5, Lib.hid ⟨HK7.out.set 3 _, ownsRow_setCell_below HO7.out (a := ⟨C, 3, none⟩) (Nat.lt_succ_self C) _, ownsRow_setCell_below (own_grown (own_ext (World.ownsRow.alloc HU5.out _) (ext_drewN _ 1)) (own_ext (World.ownsRow.alloc HS5.out _) (ext_drewN _ 1)) HG7.out (by decide)) (a := ⟨C, 3, none⟩) (Nat.lt_succ_self C) _, ?_, ((Fd.of (ext_trans HX5.out (ext_trans (ext_alloc _ _) (ext_drewN _ 1)))).trans (Fd.grown (own_ext (World.ownsRow.alloc HS5.out _) (ext_drewN _ 1)) HG7.out (.inl rfl))).trans (Fd.set HK7.out 3 _)⟩⟩
                  have hBC := HR5.out.hC
                  have hBs := HR5.out.below.size
                  exact Below.setCell (p := ⟨C, 3, none⟩) (Below.grown (HR5.out.below.trans ((ext_trans (ext_alloc w5 _) (ext_drewN _ 1)).mono hBs)) HG7.out (by simp; omega) (fun g hg => by have := (HGl.out.1 g hg).1; omega)) (by show B.heap.size ≤ C; omega) _)
              case rest =>
                clear d3 f0 f1 f2 y3
                obtain ⟨S2, c2, HM⟩ := hcut
                obtain ⟨w9, rfl⟩ : ∃ w9, w9 = wc := ⟨_, rfl⟩
                have k4 := HM.out.1.cell 4 rfl
                have hs9 : C + 1 ≤ w9.heap.size := HM.out.1.lt
                have hBC := HR5.out.hC
                obtain ⟨i0, hi0', hz0, hz1, hz2⟩ := info_parts Sol.int_info
                have HI := Lib.hid hi0'
                have HZ0 := Lib.hid hz0
                have HZ1 := Lib.hid hz1
                have HZ2 := Lib.hid hz2
                clear hi0' hz0 hz1 hz2
                go_wp2_with (at_builtin; refine wpList_append_own _ rfl _ _ _ rfl (C + 1) 3 i0 _ 1 8 Tryz.underlying24 HI.out HZ0.out HZ1.out HZ2.out rfl (by omega) (.slice UA us.length uc) us.length _ rfl (World.ownsRow.alloc HM.out.2.2.1 _) ⟨w9.heap.size, 0, none⟩ 1 1 [.int .i64 (i : Int)] rfl rfl (new_cells w9 [.int .i64 (i : Int)] _ _ rfl) (by intro v hv; simp only [List.mem_singleton] at hv; subst hv; rfl) (by simp only [maxLen]; omega) (by omega) (by simp; omega) ?_; intro v2 wn hown1 hg1 _; obtain ⟨U2, u2, rfl, _, _⟩ := own_slice hown1; have HOn := Lib.hid hown1; have HGn := Lib.hid hg1; have HKn := Lib.hid (blk_far (blk_ext2 HM.out.1 (ext_alloc w9 _)) hg1 (fun h => by have := (HM.out.2.2.1.lt _ h).1; omega)); have y1 := HKn.out.cell 4 rfl; have y2 := HKn.out.free 4; clear hown1 hg1)
                go_ret
                refine ⟨0, nxt s m i (us.count i) x, us ++ [i], xs ++ [x], HDp.out _ _ (.inr ⟨HG.out, .inr ⟨HDb.out, i, m, us.count i, HHit.out.1, HHit.out.2.1, HHit.out.2.2.1, HHit.out.2.2.2, .inr ⟨HGw.out, .inr ⟨rfl, HCn.out, rfl⟩⟩⟩⟩), rfl, cor_step HC.out HHit.out.1 HHit.out.2.1, ⟨?_, hBC, by simp [HC.out.len], S2, c2, U2, u2, ?_, ?_, ?_⟩, ?_⟩
                · have hBs := HM.out.2.2.2.1.size
                  exact Below.setCell (p := ⟨C, 4, none⟩) (Below.grown (HM.out.2.2.2.1.trans ((ext_alloc w9 _).mono hBs)) HGn.out (by simp; omega) (fun g hg => by have := (HM.out.2.2.1.lt g hg).1; omega)) (by show B.heap.size ≤ C; omega) _
                · rw [List.length_append, List.length_append]
                  exact HKn.out.set 4 _
                · rw [List.length_append, List.flatMap_append]
                  exact ownsRow_setCell_below (own_grown (World.ownsRow.alloc HM.out.2.1 _) (World.ownsRow.alloc HM.out.2.2.1 _) HGn.out (by decide)) (a := ⟨C, 4, none⟩) (Nat.lt_succ_self C) _
                · rw [List.length_append]
                  have h := ownsRow_setCell_below HOn.out (a := ⟨C, 4, none⟩) (Nat.lt_succ_self C) (.slice U2 (us.length + 1) u2)
                  rw [show nats (us ++ [i]) = nats us ++ [.int .i64 (i : Int)] by simp [nats]]
                  exact h
                · exact ((HM.out.2.2.2.2.trans (Fd.of (ext_alloc w9 _))).trans (Fd.grown (World.ownsRow.alloc HM.out.2.2.1 _) HGn.out (.inr rfl))).trans (Fd.set HKn.out 4 _)
            · have hcp : 0 < c := by have := can_code hc; omega
              have HZ := Lib.hid hz
              clear hz hb5 hc HMay
              go_wp2_with fail
              go_ret
              exact ⟨c, s, us, xs, HDp.out _ _ (.inr ⟨HG.out, .inr ⟨HDb.out, i, m, us.count i, HHit.out.1, HHit.out.2.1, HHit.out.2.2.1, HHit.out.2.2.2, .inr ⟨HGw.out, .inl ⟨HZ.out, HCn.out, rfl⟩⟩⟩⟩), rfl, HC.out, HR5.out, Fd.of HX5.out⟩
          · have g1 : (m.who == x.who) = false := by simp [g]
            have g2 : (m.who != x.who) = true := by simp [g]
            have HGw := Lib.hid g
            clear g
            go_wp2_with fail
            go_quiet (fail)
            go_wp2_with fail
            go_ret
            exact ⟨9, s, us, xs, HDp.out _ _ (.inr ⟨HG.out, .inr ⟨HDb.out, i, m, us.count i, HHit.out.1, HHit.out.2.1, HHit.out.2.2.1, HHit.out.2.2.2, .inl ⟨HGw.out, rfl, rfl⟩⟩⟩), rfl, HC.out, HR2.out.ext (HDr.out _), Fd.of (ext_trans HX2.out (HDr.out _))⟩
end Go.Proofs.YtjfiodknjchngaaGreatDoor.Cg
namespace Go.Proofs.YtjfiodknjchngaaGreatDoor.Cg
open Go.RowKit Mem Nest Srs Cf Fk Msi CdP CdM Err Solve Sol App Ce

/-- whether move i may be done on a day -/
def okM (d : Kd) (s : Sd) (q : Int) (i : Nat) : Prop := ∃ m u, d.ms[i]? = some m ∧ s.used[i]? = some u ∧ m.frm = s.stage ∧ doneB d s = false ∧ Gd q ∧ ¬ q < Ce.lastF d s ∧ CanP d s m u q 0
noncomputable instance okM_dec (d : Kd) (s : Sd) (q : Int) (i : Nat) : Decidable (okM d s q i) := Classical.propDecidable _
noncomputable def mayTo (d : Kd) (s : Sd) (q : Int) : Nat → List (List UInt8)
  | 0 => []
  | k + 1 => if okM d s q k then mayTo d s q k ++ [(d.ms[k]?.map (·.name)).getD []] else mayTo d s q k
theorem may_yes {d : Kd} {s : Sd} {q : Int} {k : Nat} {m : Mv} (h : okM d s q k) (hm : d.ms[k]? = some m) : mayTo d s q (k + 1) = mayTo d s q k ++ [m.name] := by
  show (if okM d s q k then _ else _) = _
  rw [if_pos h, hm]
  rfl
theorem may_no {d : Kd} {s : Sd} {q : Int} {k : Nat} (h : ¬ okM d s q k) : mayTo d s q (k + 1) = mayTo d s q k := by
  show (if okM d s q k then _ else _) = _
  rw [if_neg h]
theorem may_len (d : Kd) (s : Sd) (q : Int) : ∀ k, (mayTo d s q k).length ≤ k
  | 0 => by simp [mayTo]
  | k + 1 => by
    have := may_len d s q k
    by_cases h : okM d s q k
    · show (if okM d s q k then mayTo d s q k ++ [(d.ms[k]?.map (·.name)).getD []] else mayTo d s q k).length ≤ _
      rw [if_pos h]
      simp
      omega
    · rw [may_no h]
      omega
set_option maxRecDepth 100000 in
set_option maxHeartbeats 1000000 in
theorem cdoneq (B : World) (d : Kd) (s : Sd) (w : World) (h : Cs B d s w) : Calls Tryz.prog 23 #[.pointer (some ⟨B.heap.size + 1, 0, none⟩)] w (fun e w' => e = .returned (.bool (doneB d s)) ∧ ∃ m, w' = w.drewN m) := by
  obtain ⟨SA, sc, hk, ho⟩ := h.case_
  have c1 := hk.cell 1 rfl
  have c4 := hk.cell 4 rfl
  have HC := Lib.hid (show ∀ n, Calls Tryz.prog 49 #[.slice d.FA d.fin.length d.fc, .string ⟨s.stage.toArray⟩] (w.drewN n) (fun e w' => e = .returned (.bool (doneB d s)) ∧ ∃ m, w' = w.drewN m) from fun n =>
    (hass_any d.fin (by have := h.fx.fl; omega) d.FA d.fc s.stage (w.drewN n) ((h.fx.f.rd.ext h.below).ext (ext_drewN w n))).mono fun e w' ⟨h1, h2⟩ => ⟨h1, n, h2.symm⟩)
  obtain ⟨q, hq⟩ : ∃ q, q = doneB d s := ⟨_, rfl⟩
  rw [← hq] at HC ⊢
  clear h hk ho hq
  go_enter Tryz.func23, Tryz.ntmps23
  go_upto_region 1 with fail
  go_quiet (exact HC.out _)
  go_wp2_with fail
  go_ret
  exact ⟨rfl, nq, rfl⟩
def ErrB (w : World) (e : Ending) (w' : World) : Prop := (∃ a : Addr, e = .returned (.iface 232 (.pointer (some a)))) ∧ Below w.heap.size w w'
set_option maxRecDepth 100000 in
set_option maxHeartbeats 16000000 in
theorem cmay (B : World) (d : Kd) (s : Sd) (w : World) (A : Nat → Addr) (h : Cs B d s w) (hE : E6 w A) (q : Int) (hul : s.used.length = d.ms.length) :
    Calls Tryz.prog 18 #[.pointer (some ⟨B.heap.size + 1, 0, none⟩), .int .i64 q] w (StrsPost (Lib.compact (sortS (mayTo d s q d.ms.length))) w) := by
  obtain ⟨SA, sc, hk, ho⟩ := h.case_
  have hfx := h.fx.ext h.below
  have HM := Lib.hid hfx.m.rd
  have hml := hfx.ml
  have k2 := hk.cell 2 rfl
  have HKd := Lib.hid hk
  have HCs := Lib.hid h
  have HE := Lib.hid hE
  obtain ⟨K, hK⟩ : ∃ K, K = B.heap.size + 1 := ⟨_, rfl⟩
  rw [← hK] at k2 HKd ⊢
  have HKq := Lib.hid hK
  obtain ⟨i0, hi, hz0, hz1, hz2⟩ := info_parts str_infoS
  have HI := Lib.hid hi
  have HZ0 := Lib.hid hz0
  have HZ1 := Lib.hid hz1
  have HZ2 := Lib.hid hz2
  have HUl := Lib.hid hul
  clear h hk ho hfx hE hK hi hz0 hz1 hz2 hul
  go_enter Tryz.func18, Tryz.ntmps18
  go_wp2_with fail
  go_loopw [5, 14] (fun s5 s14 wr => ∃ k : Nat, s14 = .int .i64 k ∧ k ≤ d.ms.length ∧ Hid (Below w.heap.size w wr) ∧ Hid (wr.ownsRow w.heap.size 9 1 s5 (mayTo d s q k).length (Srs.strs (mayTo d s q k)))) (fun _ s14 _ => d.ms.length - (intOf s14).toNat)
  case atStart => exact ⟨0, rfl, Nat.zero_le _, Below.refl _ _, World.ownsRow_nil _ _ _ _⟩
  case round =>
    obtain ⟨k, rfl, hk, HB, HO⟩ := hrel
    have hlk := may_len d s q k
    by_cases hlt : k < d.ms.length
    · have hcl : (k : Int) < (d.ms.length : Int) := by omega
      have HYes := Lib.hid (fun (hm : okM d s q k) => may_yes hm (List.getElem?_eq_getElem hlt))
      have HNo := Lib.hid (fun (hm : ¬ okM d s q k) => may_no hm)
      have HMk := Lib.hid (show d.ms[k]? = some d.ms[k] from List.getElem?_eq_getElem hlt)
      obtain ⟨u, hu⟩ : ∃ u, s.used[k]? = some u := ⟨_, List.getElem?_eq_getElem (by rw [HUl.out]; exact hlt)⟩
      have HU := Lib.hid hu
      obtain ⟨bb, oo, e0, hx⟩ := mv_at (HM.out.ext HB.out) hlt
      have HMA := Lib.hid e0
      generalize hy : d.ms[k] = y at hx HYes HMk
      clear hy hu
      obtain ⟨c0, c1, c2, c3, c4, c5, c6, c7⟩ := hx
      have xa := ext_alloc wr (.cells #[.string ⟨y.name.toArray⟩, .string ⟨y.frm.toArray⟩, .string ⟨y.to_.toArray⟩, .string ⟨y.who.toArray⟩, .int .i64 y.n, .int .i64 y.u, .int .i64 y.r, .int .i64 y.most] 106)
      have ba := Blk.new wr 106 [.string ⟨y.name.toArray⟩, .string ⟨y.frm.toArray⟩, .string ⟨y.to_.toArray⟩, .string ⟨y.who.toArray⟩, .int .i64 y.n, .int .i64 y.u, .int .i64 y.r, .int .i64 y.most]
      obtain ⟨V, hV⟩ : ∃ V, V = wr.alloc (.cells #[.string ⟨y.name.toArray⟩, .string ⟨y.frm.toArray⟩, .string ⟨y.to_.toArray⟩, .string ⟨y.who.toArray⟩, .int .i64 y.n, .int .i64 y.u, .int .i64 y.r, .int .i64 y.most] 106) := ⟨_, rfl⟩
      obtain ⟨R, hR⟩ : ∃ R, R = wr.heap.size := ⟨_, rfl⟩
      rw [← hV] at xa ba
      rw [← hR] at ba
      have HX := Lib.hid (ext_trans HB.out xa)
      have HOv := Lib.hid (own_ext HO.out xa)
      have HBa := Lib.hid ba
      have m0 := ba.cell 0 rfl
      have m1 := ba.cell 1 rfl
      have k4 := cell_ext HX.out (HKd.out.cell 4 rfl)
      have HCv := Lib.hid (HCs.out.ext HX.out)
      have HEv := Lib.hid (HE.out.below HX.out)
      clear xa ba
      go_upto_region 5 with fail
      rw [← hV, ← hR]
      clear hV hR e0 c0 c1 c2 c3 c4 c5 c6 c7
      go_cut [47] (fun t w9 => ∃ b : Bool, t = .bool b ∧ Hid (b = true → okM d s q k) ∧ Hid (b = false → ¬ okM d s q k) ∧ Hid (Below V.heap.size V w9))
      case first =>
        cases f1 : (y.frm == s.stage) with
        | false =>
          have HF := Lib.hid (show ¬ okM d s q k from fun ⟨m, _, h1, _, h2, _⟩ => by
            rw [HMk.out] at h1
            obtain rfl := Option.some.inj h1
            rw [h2] at f1
            simp at f1)
          have HD := Lib.hid (ext_drewN V)
          go_quiet (fail)
          go_wp2_with fail
          go_meet
          exact ⟨false, rfl, (fun h => by cases h), fun _ => HF.out, HD.out _⟩
        | true =>
          have hfs : y.frm = s.stage := by simpa using f1
          have HFs := Lib.hid hfs
          rw [hfs] at m1
          clear hfs f1
          have HD1 := Lib.hid (ext_drewN V)
          have HDq := Lib.hid (show ∀ n, Calls Tryz.prog 23 #[.pointer (some ⟨K, 0, none⟩)] (V.drewN n) (fun e w' => e = .returned (.bool (doneB d s)) ∧ ∃ m, w' = V.drewN m) from fun n => by
            rw [HKq.out]
            exact (cdoneq B d s _ (HCv.out.ext (ext_drewN V n))).mono fun e w' ⟨h1, m, h2⟩ => ⟨h1, _, h2.trans (World.drewN_drewN _ _ _)⟩)
          have HLq := Lib.hid (show ∀ n, Calls Tryz.prog 53 #[.pointer (some ⟨K, 0, none⟩)] (V.drewN n) (RetI (Ce.lastF d s) (V.drewN n)) from fun n => by rw [HKq.out]; exact clast B d s _ (HCv.out.ext (ext_drewN V n)))
          have HDn := Lib.hid (show ∀ v, Below V.heap.size V v → Calls Tryz.prog 23 #[.pointer (some ⟨K, 0, none⟩)] v (RetG (doneB d s) v) from fun v hb => by rw [HKq.out]; exact cdone B d s v (HCv.out.ext hb))
          have HLa := Lib.hid (show ∀ v, Below V.heap.size V v → Calls Tryz.prog 53 #[.pointer (some ⟨K, 0, none⟩)] v (RetI (Ce.lastF d s) v) from fun v hb => by rw [HKq.out]; exact clast B d s v (HCv.out.ext hb))
          have HCn := Lib.hid (show ∀ v, Below V.heap.size V v → Calls Tryz.prog 54 #[.pointer (some ⟨K, 0, none⟩), .int .i64 (k : Int), .int .i64 q] v (CPost A (CanP d s y u q) v) from fun v hb => by rw [HKq.out]; exact ccan B d s v A (HCv.out.ext hb) (HEv.out.below hb) k y u HMk.out HU.out q)
          obtain ⟨db, hdb⟩ : ∃ db, db = doneB d s := ⟨_, rfl⟩
          rw [← hdb] at HDn HDq
          have HDb := Lib.hid hdb
          obtain ⟨la, hla⟩ : ∃ la, la = Ce.lastF d s := ⟨_, rfl⟩
          rw [← hla] at HLa HLq
          have HLe := Lib.hid hla
          clear hdb hla
          cases db with
          | true =>
            have HF := Lib.hid (show ¬ okM d s q k from fun ⟨_, _, _, _, _, h2, _⟩ => by rw [← HDb.out] at h2; cases h2)
            go_quiet ((go_at_call 23; exact HDq.out _))
            go_wp2_with fail
            go_meet
            exact ⟨false, rfl, (fun h => by cases h), fun _ => HF.out, HD1.out _⟩
          | false =>
            by_cases g1 : Gd q
            · have HG1 := Lib.hid g1
              by_cases g2 : q < la
              · have HF := Lib.hid (show ¬ okM d s q k from fun ⟨_, _, _, _, _, _, _, h2, _⟩ => h2 (by rw [← HLe.out]; exact g2))
                have g3 : ¬ la ≤ q := by omega
                have g4 : decide (la ≤ q) = false := by simp; omega
                clear g1
                go_quiet ((first
                  | (go_at_call 23; exact HDq.out _)
                  | (go_at_call 34; exact Calls.quiet_of_same (Dut.day_yes _ HG1.out _))
                  | (go_at_call 53; exact Calls.quiet_of_same ((HLq.out _).mono fun e w' h => ⟨h.1, h.2.symm⟩))))
                go_wp2_with fail
                go_meet
                exact ⟨false, rfl, (fun h => by cases h), fun _ => HF.out, HD1.out _⟩
              · have HG2 := Lib.hid (show ¬ q < Ce.lastF d s from by rw [← HLe.out]; exact g2)
                have hdr : Below V.heap.size V V.drew := ext_drewN V 1
                have HDr := Lib.hid hdr
                have r1 := cell_ext hdr m1
                have r4 := cell_ext hdr k4
                clear hdr g1
                have g3 : la ≤ q := by omega
                by_cases z : CanP d s y u q 0
                · have HCx := Lib.hid (show ∀ v, Below V.heap.size V v → Calls Tryz.prog 54 #[.pointer (some ⟨K, 0, none⟩), .int .i64 (k : Int), .int .i64 q] v (fun e w' => e = .returned .nilIface ∧ Below v.heap.size v w') from fun v hb => (HCn.out v hb).mono fun e w' ⟨c, hc, he, hb⟩ => ⟨by rw [he, can_same hc z, errC_zero], hb⟩)
                  have HY := Lib.hid (show okM d s q k from ⟨y, u, HMk.out, HU.out, HFs.out, HDb.out.symm, HG1.out, HG2.out, z⟩)
                  clear z HCn
                  go_region_held3 (fun w' => w'.cell? ⟨R, 1, none⟩ = some (.string ⟨s.stage.toArray⟩) ∧ w'.cell? ⟨K, 4, none⟩ = some (.string ⟨s.stage.toArray⟩))
                    ((first | exact ⟨r1, r4⟩ | exact ⟨cell_ext hb2 (cell_ext hb1 r1), cell_ext hb2 (cell_ext hb1 r4)⟩ | exact ⟨cell_ext hb1 r1, cell_ext hb1 r4⟩))
                    ((first
                      | (go_at_call 23; refine (HDn.out _ HDr.out).mono ?_; rintro e w1 ⟨rfl, hb1⟩)
                      | (go_at_call 34; refine (Dut.day_yes _ HG1.out _).mono ?_; rintro e w2 ⟨rfl, rfl⟩)
                      | (go_at_call 53; refine (HLa.out _ (ext_trans HDr.out hb1)).mono ?_; rintro e w2 ⟨rfl, rfl⟩)
                      | (go_at_call 54; refine (HCx.out _ (ext_trans HDr.out hb1)).mono ?_; rintro e w3 ⟨rfl, hb2⟩)))
                  have HBb := Lib.hid (ext_trans HDr.out (ext_trans hb1 hb2))
                  go_wp2_with fail
                  go_meet
                  exact ⟨true, rfl, fun _ => HY.out, (fun h => by cases h), HBb.out⟩
                · have HCx := Lib.hid (show ∀ v, Below V.heap.size V v → Calls Tryz.prog 54 #[.pointer (some ⟨K, 0, none⟩), .int .i64 (k : Int), .int .i64 q] v (ErrB v) from fun v hb => (HCn.out v hb).mono fun e w' ⟨c, hc, he, hb⟩ => by
                    have hcz : c ≠ 0 := fun e => z (e ▸ hc)
                    exact ⟨⟨A (c - 1).toNat, he.trans (by rw [show errC A c = errV (A (c - 1).toNat) from if_neg hcz]; rfl)⟩, hb⟩)
                  have HF := Lib.hid (show ¬ okM d s q k from fun ⟨m, u', h1, h2, _, _, _, _, h3⟩ => by
                    rw [HMk.out] at h1
                    rw [HU.out] at h2
                    obtain rfl := Option.some.inj h1
                    obtain rfl := Option.some.inj h2
                    exact z h3)
                  clear z HCn
                  go_region_held3 (fun w' => w'.cell? ⟨R, 1, none⟩ = some (.string ⟨s.stage.toArray⟩) ∧ w'.cell? ⟨K, 4, none⟩ = some (.string ⟨s.stage.toArray⟩))
                    ((first | exact ⟨r1, r4⟩ | exact ⟨cell_ext hb2 (cell_ext hb1 r1), cell_ext hb2 (cell_ext hb1 r4)⟩ | exact ⟨cell_ext hb1 r1, cell_ext hb1 r4⟩))
                    ((first
                      | (go_at_call 23; refine (HDn.out _ HDr.out).mono ?_; rintro e w1 ⟨rfl, hb1⟩)
                      | (go_at_call 34; refine (Dut.day_yes _ HG1.out _).mono ?_; rintro e w2 ⟨rfl, rfl⟩)
                      | (go_at_call 53; refine (HLa.out _ (ext_trans HDr.out hb1)).mono ?_; rintro e w2 ⟨rfl, rfl⟩)
                      | (go_at_call 54; refine (HCx.out _ (ext_trans HDr.out hb1)).mono ?_; rintro e w3 ⟨⟨ad, rfl⟩, hb2⟩)))
                  have HBb := Lib.hid (ext_trans HDr.out (ext_trans hb1 hb2))
                  go_wp2_with fail
                  go_meet
                  exact ⟨false, rfl, (fun h => by cases h), fun _ => HF.out, HBb.out⟩
            · have HG1 := Lib.hid g1
              have HF := Lib.hid (show ¬ okM d s q k from fun ⟨_, _, _, _, _, _, h2, _⟩ => g1 h2)
              clear g1
              go_quiet ((first
                | (go_at_call 23; exact HDq.out _)
                | (go_at_call 34; exact Calls.quiet_of_same (Dut.day_no _ HG1.out _))))
              go_wp2_with fail
              go_meet
              exact ⟨false, rfl, (fun h => by cases h), fun _ => HF.out, HD1.out _⟩
      case rest =>
        obtain ⟨b, rfl, HT, HF, HBc⟩ := hcut
        have HBe := Lib.hid (ext_trans HX.out HBc.out)
        have HOe := Lib.hid (own_ext HOv.out HBc.out)
        have m0 := cell_ext HBc.out m0
        cases b with
        | false =>
          have HN := Lib.hid (HNo.out (HF.out rfl))
          go_wp2_with fail
          go_roundw
          case rel => exact ⟨k + 1, by go_num, by omega, HBe.out, by show World.ownsRow _ _ _ _ _ _ _; rw [HN.out]; exact HOe.out⟩
          case measure => show d.ms.length - (k + 1) < d.ms.length - k; omega
        | true =>
          have HN := Lib.hid (HYes.out (HT.out rfl))
          obtain ⟨L, hL⟩ : ∃ L, L = mayTo d s q k := ⟨_, rfl⟩
          rw [← hL] at HN HOe hlk
          clear hL
          go_wp2_with (at_builtin; refine wpList_append_own _ rfl _ _ _ rfl w.heap.size 9 i0 _ 1 16 Tryz.underlying39 HI.out HZ0.out HZ1.out HZ2.out rfl (by omega) u5 L.length _ rfl (World.ownsRow.alloc HOe.out _) ⟨wc.heap.size, 0, none⟩ 1 1 [.string ⟨y.name.toArray⟩] rfl rfl (new_cells wc [.string ⟨y.name.toArray⟩] _ _ rfl) (by intro v hv; simp only [List.mem_singleton] at hv; subst hv; rfl) (by simp only [maxLen]; omega) (by omega) (by have := HBe.out.size; simp; omega) ?_; intro v2 wn hown1 hg1 _; have HO4 := Lib.hid hown1; have HB6 := Lib.hid (And.intro trivial (grown_ext (HBe.out.trans ((ext_alloc wc _).mono HBe.out.size)) rfl (World.ownsRow.alloc HOe.out _) hg1)); clear hown1 hg1)
          go_roundw
          case rel => exact ⟨k + 1, by go_num, by omega, HB6.out.2, by show World.ownsRow _ _ _ _ _ _ _; rw [HN.out]; have h := HO4.out; rw [strsS_app, List.length_append]; simpa [Srs.strs, encStr] using h⟩
          case measure => show d.ms.length - (k + 1) < d.ms.length - k; omega
    · have hcl : ¬ (k : Int) < (d.ms.length : Int) := by omega
      obtain rfl : k = d.ms.length := by omega
      obtain ⟨A1, c1, rfl, _⟩ := own_slice HO.out
      obtain ⟨L, hL⟩ : ∃ L, L = mayTo d s q d.ms.length := ⟨_, rfl⟩
      rw [← hL] at HO hlk
      have HLq := Lib.hid hL
      have HLen := Lib.hid (show L.length ≤ 100000 by omega)
      rw [← hL]
      clear hL hlk
      go_wp2_with fail
      refine (sorts_any w.heap.size L HLen.out A1 c1 _ HO.out).mono ?_
      rintro e w6 ⟨rfl, ho6, hg6⟩
      have HB6 := Lib.hid (grown_ext HB.out rfl HO.out hg6)
      have hsl := sortS_len L
      obtain ⟨ss, hss⟩ : ∃ ss, ss = sortS L := ⟨_, rfl⟩
      rw [← hss] at ho6 hsl
      rw [← hsl] at ho6 HLen ⊢
      have HSS := Lib.hid (show Lib.compact (sortS (mayTo d s q d.ms.length)) = Lib.compact ss by rw [hss, HLq.out])
      have HO6 := Lib.hid ho6
      have HCa := Lib.hid (compacts_any ss HLen.out A1 c1 _ w HO6.out HB6.out)
      obtain ⟨cs, hcs⟩ : ∃ cs, cs = Lib.compact ss := ⟨_, rfl⟩
      rw [← hcs] at HCa HSS
      clear ho6 hg6 HO hss hcs hsl HO6 HI HZ0 HZ1 HZ2
      go_wp2_with fail
      refine HCa.out.mono ?_
      rintro e w7 ⟨A7, c7, rfl, hr7, hb7⟩
      have HR7 := Lib.hid hr7
      have HB7 := Lib.hid hb7
      clear hr7 hb7 HCa
      go_wp2_with fail
      go_ret
      show StrsPost (Lib.compact (sortS (mayTo d s q d.ms.length))) w _ _
      rw [HSS.out]
      exact ⟨A7, c7, rfl, HR7.out, HB7.out⟩
end Go.Proofs.YtjfiodknjchngaaGreatDoor.Cg
namespace Go.Proofs.YtjfiodknjchngaaGreatDoor.Cg
open Go.RowKit Mem Nest Srs Cf Fk Msi CdP CdM Err Solve Sol App Ce

theorem ins_at (out : List Tx) (x : Tx) (j : Nat) (h1 : ∀ y ∈ out.take j, y < x) (h2 : ∀ (h : j < out.length), ¬ out[j] < x) : insS out x = out.take j ++ [x] ++ out.drop j := by
  have e : out = out.take j ++ out.drop j := (List.take_append_drop j out).symm
  have t1 : (out.drop j).takeWhile (fun y => decide (y < x)) = [] := by
    by_cases h : j < out.length
    · rw [List.drop_eq_getElem_cons h, List.takeWhile_cons, if_neg (by simpa using h2 h)]
    · rw [List.drop_eq_nil_of_le (by omega)]
      rfl
  have t2 : (out.drop j).dropWhile (fun y => decide (y < x)) = out.drop j := by
    by_cases h : j < out.length
    · rw [List.drop_eq_getElem_cons h, List.dropWhile_cons, if_neg (by simpa using h2 h)]
    · rw [List.drop_eq_nil_of_le (by omega)]
      rfl
  have a1 : out.takeWhile (fun y => decide (y < x)) = out.take j := by
    conv => lhs; rw [e]
    rw [List.takeWhile_append_of_pos (by simpa using h1), t1, List.append_nil]
  have a2 : out.dropWhile (fun y => decide (y < x)) = out.drop j := by
    conv => lhs; rw [e]
    rw [List.dropWhile_append_of_pos (by simpa using h1), t2]
  unfold insS
  rw [a1, a2]
  simp
theorem ins_len (out : List Tx) (x : Tx) : (insS out x).length = out.length + 1 := by
  unfold insS
  have h : (out.takeWhile (fun y => decide (y < x)) ++ out.dropWhile (fun y => decide (y < x))).length = out.length := by rw [List.takeWhile_append_dropWhile]
  rw [List.length_append] at h
  simp only [List.length_append, List.length_cons]
  omega
noncomputable def rTo (d : Kd) (s : Sd) (q : Int) (k : Nat) : List Tx := (mayTo d s q k).foldl insS []
theorem rto_yes {d : Kd} {s : Sd} {q : Int} {k : Nat} {m : Mv} (h : okM d s q k) (hm : d.ms[k]? = some m) : rTo d s q (k + 1) = insS (rTo d s q k) m.name := by
  unfold rTo
  rw [may_yes h hm, List.foldl_append]
  rfl
theorem rto_no {d : Kd} {s : Sd} {q : Int} {k : Nat} (h : ¬ okM d s q k) : rTo d s q (k + 1) = rTo d s q k := by
  unfold rTo
  rw [may_no h]
theorem rto_len (d : Kd) (s : Sd) (q : Int) : ∀ k, (rTo d s q k).length ≤ k
  | 0 => by simp [rTo, mayTo]
  | k + 1 => by
    have := rto_len d s q k
    by_cases h : okM d s q k
    · have hk : k < d.ms.length := by
        obtain ⟨m, u, h1, _⟩ := h
        exact (List.getElem?_eq_some_iff.1 h1).1
      rw [rto_yes h (List.getElem?_eq_getElem hk), ins_len]
      omega
    · rw [rto_no h]
      omega
theorem rto_none {d : Kd} {s : Sd} {q : Int} (h : ∀ i, ¬ okM d s q i) : ∀ k, rTo d s q k = []
  | 0 => rfl
  | k + 1 => by rw [rto_no (h k), rto_none h k]
theorem take_lt {out : List Tx} {x : Tx} {j : Nat} (hj : j < out.length) (h1 : ∀ y ∈ out.take j, y < x) (h2 : out[j] < x) : ∀ y ∈ out.take (j + 1), y < x := by
  intro y hy
  rw [List.take_succ_eq_append_getElem hj, List.mem_append, List.mem_singleton] at hy
  rcases hy with hy | rfl
  · exact h1 y hy
  · exact h2
theorem rd_fromS {w : World} {b o : Nat} {cs : List Value} (h : Rd w (some ⟨b, o, none⟩) cs) (k : Nat) : Rd w (some ⟨b, o + k, none⟩) (cs.drop k) := fun j u hj => by
  rw [List.getElem?_drop] at hj
  obtain ⟨b', o', e, hc⟩ := h _ u hj
  cases e
  exact ⟨b, o + k, rfl, by rw [Nat.add_assoc]; exact hc⟩
theorem own_monoS {w : World} {base base' : Nat} {e : TypeId} {size : Nat} {v : Value} {n : Nat} {xs : List Value} (h : w.ownsRow base e size v n xs) (hb : base' ≤ base) : w.ownsRow base' e size v n xs := by
  obtain ⟨h1, h2⟩ := h
  refine ⟨h1, ?_⟩
  rcases h2 with h2 | ⟨g, cap, cur, h3, h4, h5⟩
  · exact .inl h2
  · exact .inr ⟨g, cap, cur, h3, Nat.le_trans hb h4, h5⟩
theorem strsS_drop (l : List Tx) (k : Nat) : Srs.strs (l.drop k) = (Srs.strs l).drop k := by simp [Srs.strs]
theorem rd_from' {w : World} {b : Nat} {cs : List Value} (h : Rd w (some ⟨b, 0, none⟩) cs) (k : Nat) : Rd w (some ⟨b, k, none⟩) (cs.drop k) := by
  have := rd_fromS h k
  rwa [Nat.zero_add] at this
set_option maxRecDepth 100000 in
set_option maxHeartbeats 16000000 in
theorem rcmays (B : World) (C b o yb : Nat) (us : List Nat) (xs : List St) (d : Kd) (s : Sd) (FA : Option Addr) (fc : Nat) (MA : Option Addr) (mc : Nat) (YH : Option Addr) (yc : Nat) (w : World) (h : Rc B C b o yb d.first us xs w) (hP : PIn B b o d.st d.fin d.ms FA fc MA mc) (hY : CdA B yb 0 d.cd YH yc) (hok : d.cd.hol.length ≤ 1048576)
    (hfl : d.fin.length ≤ 1000) (hml : d.ms.length ≤ 1000) (hC : Cor d s us xs) (hl : us.length ≤ 100000) (q : Int) :
    Calls Tryz.prog 19 #[.pointer (some ⟨C, 0, none⟩), .int .i64 q] w (StrsPost (rTo d s q d.ms.length) w) := by
  have HRc := Lib.hid h
  have HP := Lib.hid hP
  have HY := Lib.hid hY
  have HC := Lib.hid hC
  obtain ⟨SA, sc, UA, uc, hk0, hs0, hu0⟩ := h.blk
  have HK0 := Lib.hid hk0
  have hstg := rcstage B C b o yb d.first us xs d.st d.fin d.ms FA fc MA mc w h hP hC.bd hl
  rw [← hC.stage, ← hC.since] at hstg
  have HSt := Lib.hid hstg
  obtain ⟨i0, hi, hz0, hz1, hz2⟩ := info_parts str_infoS
  have HI := Lib.hid hi
  have HZ0 := Lib.hid hz0
  have HZ1 := Lib.hid hz1
  have HZ2 := Lib.hid hz2
  clear h hP hY hC hk0 hs0 hu0 hstg hi hz0 hz1 hz2
  go_enter Tryz.func19, Tryz.ntmps19
  go_wp2_with fail
  refine HSt.out.mono ?_
  rintro e w1 ⟨rfl, hb1⟩
  have HX1 := Lib.hid hb1
  have HR1 := Lib.hid (HRc.out.ext hb1)
  have HK1 := Lib.hid (blk_ext2 HK0.out hb1)
  clear hb1 HSt
  obtain ⟨stage, hstage⟩ : ∃ stage, stage = s.stage := ⟨_, rfl⟩
  obtain ⟨since, hsince⟩ : ∃ since, since = s.since := ⟨_, rfl⟩
  have HSg := Lib.hid hstage
  have HSc := Lib.hid hsince
  rw [← hstage, ← hsince]
  clear hstage hsince
  obtain ⟨dy, hq⟩ : ∃ dy, dy = dayB q := ⟨_, rfl⟩
  have HDay := Lib.hid (show Calls Tryz.prog 13 #[.int .i64 q] w1 (RetB dy w1) from by rw [hq]; exact isday_any q w1)
  have HQd := Lib.hid (show dy = true ↔ Gd q from by rw [hq]; exact gd_day _)
  clear hq
  have HLs := Lib.hid (show Ce.lastF d s = since from by rw [HSc.out, HC.out.last, HC.out.since])
  have HPw := Lib.hid (HP.out.ext HR1.out.below)
  have p1 := HPw.out.c1
  have p2 := HPw.out.c2
  have k0 := HK1.out.cell 0 rfl
  have HFin := Lib.hid (innames_any d.fin (by omega) FA fc stage w1 HPw.out.f)
  obtain ⟨db, hdb⟩ : ∃ db, db = d.fin.contains stage := ⟨_, rfl⟩
  rw [← hdb] at HFin
  have HDb := Lib.hid (show doneB d s = db from by unfold doneB; rw [hdb, HSg.out])
  clear hdb
  go_wp2_with fail
  refine HFin.out.mono ?_
  rintro e w' ⟨rfl, rfl⟩
  go_wp2_with fail
  refine HDay.out.mono ?_
  rintro e w' ⟨rfl, rfl⟩
  go_wp2_with fail
  go_loopw [9, 10] (fun s9 s10 wr => ∃ k : Nat, s10 = .int .i64 k ∧ k ≤ d.ms.length ∧ Hid (Below w.heap.size w wr) ∧ Hid (wr.ownsRow w.heap.size 9 1 s9 (rTo d s q k).length (Srs.strs (rTo d s q k)))) (fun _ s10 _ => d.ms.length - (intOf s10).toNat)
  case atStart => exact ⟨0, rfl, Nat.zero_le _, HX1.out, World.ownsRow_nil _ _ _ _⟩
  case round =>
    obtain ⟨k, rfl, hk, HB, HO⟩ := hrel
    have HRr := Lib.hid (HRc.out.ext HB.out)
    have HKr := Lib.hid (blk_ext2 HK0.out HB.out)
    have HPr := Lib.hid (HP.out.ext HRr.out.below)
    have p2 := HPr.out.c2
    have k0 := HKr.out.cell 0 rfl
    have hlk := rto_len d s q k
    obtain ⟨out, hout⟩ : ∃ out, out = rTo d s q k := ⟨_, rfl⟩
    rw [← hout] at HO hlk
    have HOt := Lib.hid hout
    clear hout
    by_cases hlt : k < d.ms.length
    · have hcl : (k : Int) < (d.ms.length : Int) := by omega
      cases db with
      | true =>
        have HE := Lib.hid (show rTo d s q d.ms.length = out from by
          have hn : ∀ i, ¬ okM d s q i := fun i ⟨_, _, _, _, _, h, _⟩ => by rw [HDb.out] at h; cases h
          rw [HOt.out, rto_none hn, rto_none hn])
        go_wp2_with fail
        obtain ⟨A1, c1, rfl, _⟩ := own_slice HO.out
        go_ret
        show StrsPost (rTo d s q d.ms.length) w _ _
        rw [HE.out]
        exact ⟨A1, c1, rfl, Rd.of_own HO.out, HB.out⟩
      | false =>
        cases dy with
        | false =>
          have HE := Lib.hid (show rTo d s q d.ms.length = out from by
            have hn : ∀ i, ¬ okM d s q i := fun i ⟨_, _, _, _, _, _, h, _⟩ => by have := HQd.out.2 h; cases this
            rw [HOt.out, rto_none hn, rto_none hn])
          go_wp2_with fail
          obtain ⟨A1, c1, rfl, _⟩ := own_slice HO.out
          go_ret
          show StrsPost (rTo d s q d.ms.length) w _ _
          rw [HE.out]
          exact ⟨A1, c1, rfl, Rd.of_own HO.out, HB.out⟩
        | true =>
          by_cases hqs : q < since
          · have HE := Lib.hid (show rTo d s q d.ms.length = out from by
              have hn : ∀ i, ¬ okM d s q i := fun i ⟨_, _, _, _, _, _, _, h, _⟩ => h (by rw [HLs.out]; exact hqs)
              rw [HOt.out, rto_none hn, rto_none hn])
            go_wp2_with fail
            obtain ⟨A1, c1, rfl, _⟩ := own_slice HO.out
            go_ret
            show StrsPost (rTo d s q d.ms.length) w _ _
            rw [HE.out]
            exact ⟨A1, c1, rfl, Rd.of_own HO.out, HB.out⟩
          · have HNq := Lib.hid hqs
            have HGq := Lib.hid (HQd.out.1 rfl)
            have HMk := Lib.hid (show d.ms[k]? = some d.ms[k] from List.getElem?_eq_getElem hlt)
            have HU := Lib.hid (show s.used[k]? = some (us.count k) from HC.out.used k hlt)
            have HYes := Lib.hid (fun (hm : okM d s q k) => rto_yes hm (List.getElem?_eq_getElem hlt))
            have HNo := Lib.hid (fun (hm : ¬ okM d s q k) => rto_no hm)
            rw [← HOt.out] at HYes HNo
            obtain ⟨bb, oo, e0, hx⟩ := mv_at HPr.out.m hlt
            have HMA := Lib.hid e0
            generalize hy : d.ms[k] = y at hx HYes HMk
            clear hy
            obtain ⟨c0, c1, c2, c3, c4, c5, c6, c7⟩ := hx
            have xa := ext_alloc wr (.cells #[.string ⟨y.name.toArray⟩, .string ⟨y.frm.toArray⟩, .string ⟨y.to_.toArray⟩, .string ⟨y.who.toArray⟩, .int .i64 y.n, .int .i64 y.u, .int .i64 y.r, .int .i64 y.most] 96)
            have ba := Blk.new wr 96 [.string ⟨y.name.toArray⟩, .string ⟨y.frm.toArray⟩, .string ⟨y.to_.toArray⟩, .string ⟨y.who.toArray⟩, .int .i64 y.n, .int .i64 y.u, .int .i64 y.r, .int .i64 y.most]
            obtain ⟨V, hV⟩ : ∃ V, V = wr.alloc (.cells #[.string ⟨y.name.toArray⟩, .string ⟨y.frm.toArray⟩, .string ⟨y.to_.toArray⟩, .string ⟨y.who.toArray⟩, .int .i64 y.n, .int .i64 y.u, .int .i64 y.r, .int .i64 y.most] 96) := ⟨_, rfl⟩
            obtain ⟨R, hR⟩ : ∃ R, R = wr.heap.size := ⟨_, rfl⟩
            rw [← hV] at xa ba
            rw [← hR] at ba
            have HX := Lib.hid (ext_trans HB.out xa)
            have HOv := Lib.hid (own_ext HO.out xa)
            have HBa := Lib.hid ba
            have m1 := ba.cell 1 rfl
            have HMay := Lib.hid (rcmay B C b o yb d.first us xs d s d.st d.fin d.ms FA fc MA mc YH yc V (HRr.out.ext xa) HP.out HY.out hok HC.out.bd hl k y HMk.out HC.out.since q)
            clear xa ba
            go_upto_region 9 with fail
            rw [← hV, ← hR]
            clear hV hR e0 c0 c1 c2 c3 c4 c5 c6 c7
            go_cut [74] (fun t w9 => ∃ b : Bool, t = .bool b ∧ Hid (b = false → okM d s q k) ∧ Hid (b = true → ¬ okM d s q k) ∧ Hid (Below V.heap.size V w9))
            case first =>
              cases f1 : (y.frm == stage) with
              | false =>
                have HF := Lib.hid (show ¬ okM d s q k from fun ⟨m, _, h1, _, h2, _⟩ => by
                  rw [HMk.out] at h1
                  obtain rfl := Option.some.inj h1
                  rw [h2, HSg.out] at f1
                  simp at f1)
                have HD := Lib.hid (Below.refl V.heap.size V)
                go_wp2_with fail
                go_meet
                exact ⟨true, rfl, (fun h => by cases h), fun _ => HF.out, HD.out⟩
              | true =>
                have HFs := Lib.hid (show y.frm = s.stage from by rw [← HSg.out]; simpa using f1)
                go_wp2_with fail
                refine HMay.out.mono ?_
                rintro e w9 ⟨c, hc, rfl, hb9⟩
                have HB9 := Lib.hid hb9
                by_cases hz : c = 0
                · subst hz
                  have HY2 := Lib.hid (show okM d s q k from ⟨y, us.count k, HMk.out, HU.out, HFs.out, HDb.out, HGq.out, by rw [HLs.out]; have := HNq.out; omega, hc⟩)
                  clear hc hb9
                  go_wp2_with fail
                  go_meet
                  exact ⟨false, rfl, fun _ => HY2.out, (fun h => by cases h), HB9.out⟩
                · have hcp : 0 < c := by have := can_code hc; omega
                  have HF := Lib.hid (show ¬ okM d s q k from fun ⟨m, u', h1, h2, _, _, _, _, h3⟩ => by
                    rw [HMk.out] at h1
                    rw [HU.out] at h2
                    obtain rfl := Option.some.inj h1
                    obtain rfl := Option.some.inj h2
                    exact hz (can_same hc h3))
                  clear hc hb9 hz
                  go_wp2_with fail
                  go_meet
                  exact ⟨true, rfl, (fun h => by cases h), fun _ => HF.out, HB9.out⟩
            case rest =>
              obtain ⟨b, rfl, HT, HF, HBc⟩ := hcut
              have HBe := Lib.hid (ext_trans HX.out HBc.out)
              have HOe := Lib.hid (own_ext HOv.out HBc.out)
              have m0 := (blk_ext2 HBa.out HBc.out).cell 0 rfl
              have HBk := Lib.hid (blk_ext2 HBa.out HBc.out)
              cases b with
              | true =>
                have HN := Lib.hid (HNo.out (HF.out rfl))
                go_wp2_with fail
                go_roundw
                case rel => exact ⟨k + 1, by go_num, by omega, HBe.out, by show World.ownsRow _ _ _ _ _ _ _; rw [HN.out]; exact HOe.out⟩
                case measure => show d.ms.length - (k + 1) < d.ms.length - k; omega
              | false =>
                have HN := Lib.hid (HYes.out (HT.out rfl))
                generalize hnm : y.name = nm at m0 HN
                clear hnm
                have hLo : out.length ≤ 1000 := by omega
                obtain ⟨W9, rfl⟩ : ∃ W9, W9 = wc := ⟨_, rfl⟩
                clear HT HF HBc HMay HYes HNo HOv HX HBa HBk m1 k0 p2
                go_wp2_with fail
                obtain ⟨A9, c9, rfl, _, _⟩ := own_slice HOe.out
                go_loopw [12, 13] (fun s12 s13 wj => ∃ j : Nat, s13 = .int .i64 j ∧ j ≤ out.length ∧ Hid (Below W9.heap.size W9 wj) ∧ Hid (wj.ownsRow W9.heap.size 9 1 s12 j (Srs.strs (out.take j))) ∧ Hid (∀ y ∈ out.take j, y < nm)) (fun _ s13 _ => out.length - (intOf s13).toNat)
                case atStart => exact ⟨0, rfl, Nat.zero_le _, Below.refl _ _, World.ownsRow_nil _ _ _ _, fun y hy => by simp at hy⟩
                case round =>
                  obtain ⟨j, rfl, hj, HBj, HOj, HLt⟩ := hrel
                  have r0 := cell_ext HBj.out m0
                  have HO9 := Lib.hid (own_ext HOe.out HBj.out)
                  go_upto_region 12 with fail
                  go_cut [87] from 75 to 96 (fun t w9 => ∃ b : Bool, t = .bool b ∧ Hid (b = true → ∃ h : j < out.length, out[j] < nm) ∧ Hid (b = false → ∀ h : j < out.length, ¬ out[j] < nm) ∧ Hid (Below wr.heap.size wr w9))
                  case first =>
                    have HD := Lib.hid (ext_drewN wr)
                    by_cases hjl : j < out.length
                    · have hjc : (j : Int) < (out.length : Int) := by omega
                      have HJl := Lib.hid hjl
                      obtain ⟨gb, gf, e4, hy⟩ := (Rd.of_own HO9.out).at_ (k := j) (by rw [show (Srs.strs out).length = out.length by simp [Srs.strs]]; exact hjl)
                      have hy' : wr.cell? ⟨gb, gf + j, none⟩ = some (.string ⟨out[j].toArray⟩) := by rw [hy]; simp [Srs.strs, encStr] <;> rfl
                      have HZl := Lib.hid (show ∀ b, decide (out[j] < nm) = b → (b = true → ∃ h : j < out.length, out[j] < nm) ∧ (b = false → ∀ h : j < out.length, ¬ out[j] < nm) from fun b hb => ⟨fun h => ⟨hjl, of_decide_eq_true (hb.trans h)⟩, fun h _ => of_decide_eq_false (hb.trans h)⟩)
                      subst e4
                      clear hy
                      generalize hzz : out[j] = z at hy'
                      have hzd : Op.bytesLess z nm = decide (z < nm) := Proofs.bytesLess_eq _ _
                      have HZd := Lib.hid hzz
                      clear hzz
                      cases hz : decide (z < nm) with
                      | true =>
                        rw [hz] at hzd
                        have hzl : z < nm := by simpa using hz
                        have HZ2 := Lib.hid (HZl.out true (by rw [HZd.out]; exact hz))
                        clear HZl
                        go_quiet (fail)
                        go_wp2_with fail
                        go_meet
                        exact ⟨true, rfl, (fun _ => HZ2.out.1 (by trivial)), (fun h => by cases h), HD.out _⟩
                      | false =>
                        rw [hz] at hzd
                        have hzl : ¬ z < nm := by simpa using hz
                        have HZ2 := Lib.hid (HZl.out false (by rw [HZd.out]; exact hz))
                        clear HZl
                        go_quiet (fail)
                        go_wp2_with fail
                        go_meet
                        exact ⟨false, rfl, (fun h => by cases h), (fun _ => HZ2.out.2 (by trivial)), HD.out _⟩
                    · have hjc : ¬ (j : Int) < (out.length : Int) := by omega
                      have HJl := Lib.hid (show ∀ h : j < out.length, ¬ out[j] < nm from fun h => absurd h hjl)
                      go_quiet (fail)
                      go_wp2_with fail
                      go_meet
                      exact ⟨false, rfl, (fun h => by cases h), fun _ => HJl.out, HD.out _⟩
                  case rest =>
                    obtain ⟨b, rfl, HT, HF, HBt⟩ := hcut
                    have HBj2 := Lib.hid (ext_trans HBj.out HBt.out)
                    have HOj2 := Lib.hid (own_ext HOj.out HBt.out)
                    have HO92 := Lib.hid (own_ext HO9.out HBt.out)
                    have r0 := cell_ext HBt.out r0
                    cases b with
                    | true =>
                      obtain ⟨hjl, hz⟩ := HT.out rfl
                      have HTl := Lib.hid (take_lt hjl HLt.out hz)
                      have hjc : (j : Int) < (out.length : Int) := by omega
                      obtain ⟨gb, gf, e4, hy⟩ := (Rd.of_own HO92.out).at_ (k := j) (by rw [show (Srs.strs out).length = out.length by simp [Srs.strs]]; exact hjl)
                      have hy' : wc.cell? ⟨gb, gf + j, none⟩ = some (.string ⟨out[j].toArray⟩) := by rw [hy]; simp [Srs.strs, encStr] <;> rfl
                      have HTk := Lib.hid (List.take_succ_eq_append_getElem hjl)
                      subst e4
                      clear hy hz HT HF HLt
                      generalize out[j] = z at hy' HTk
                      go_wp2_with (at_builtin; refine wpList_append_own _ rfl _ _ _ rfl W9.heap.size 9 i0 _ 1 16 Tryz.underlying39 HI.out HZ0.out HZ1.out HZ2.out rfl (by omega) u12 j _ rfl (World.ownsRow.alloc HOj2.out _) ⟨wc.heap.size, 0, none⟩ 1 1 [.string ⟨z.toArray⟩] rfl rfl (new_cells wc [.string ⟨z.toArray⟩] _ _ rfl) (by intro v hv; simp only [List.mem_singleton] at hv; subst hv; rfl) (by simp only [maxLen]; omega) (by omega) (by have := HBj2.out.size; simp; omega) ?_; intro v2 wn hown1 hg1 _; have HO4 := Lib.hid hown1; have HB6 := Lib.hid (And.intro trivial (grown_ext (HBj2.out.trans ((ext_alloc wc _).mono HBj2.out.size)) rfl (World.ownsRow.alloc HOj2.out _) hg1)); clear hown1 hg1)
                      go_roundw
                      case rel => exact ⟨j + 1, by go_num, by omega, HB6.out.2, by show World.ownsRow _ _ _ _ _ _ _; have h := HO4.out; rw [HTk.out, strsS_app]; simpa [Srs.strs, encStr] using h, HTl.out⟩
                      case measure => show out.length - (j + 1) < out.length - j; omega
                    | false =>
                      have HIA := Lib.hid (ins_at out nm j HLt.out (HF.out rfl))
                      clear HT HF HLt
                      go_upto_region 16 with (at_builtin; refine wpList_append_own _ rfl _ _ _ rfl W9.heap.size 9 i0 _ 1 16 Tryz.underlying39 HI.out HZ0.out HZ1.out HZ2.out rfl (by omega) u12 j _ rfl (World.ownsRow.alloc HOj2.out _) ⟨wc.heap.size, 0, none⟩ 1 1 [.string ⟨nm.toArray⟩] rfl rfl (new_cells wc [.string ⟨nm.toArray⟩] _ _ rfl) (by intro v hv; simp only [List.mem_singleton] at hv; subst hv; rfl) (by simp only [maxLen]; omega) (by omega) (by have := HBj2.out.size; simp; omega) ?_; intro v2 wn hown1 hg1 _; obtain ⟨A5, c5, rfl, _⟩ := own_slice hown1; have HO4 := Lib.hid hown1; have HB6 := Lib.hid (And.intro trivial (grown_ext (HBj2.out.trans ((ext_alloc wc _).mono HBj2.out.size)) rfl (World.ownsRow.alloc HOj2.out _) hg1)); clear hown1 hg1)
                      have HO93 := Lib.hid (own_ext HOe.out HB6.out.2)
                      have hkc : ((j : Nat) : Int) ≤ (c9 : Int) := by omega
                      cases A9 with
                      | none =>
                        have hz : out.length = 0 ∧ c9 = 0 := by
                          rcases HO93.out.2 with ⟨h, h2⟩ | ⟨g, cap, cur, h, _⟩
                          · injection h with h3 h4 h5
                            exact ⟨h4, h5⟩
                          · injection h with h3
                            cases h3
                        obtain ⟨hz1, rfl⟩ := hz
                        have hj0 : j = 0 := by omega
                        subst hj0
                        have HD0 := Lib.hid (show out.drop 0 = [] from by rw [List.drop_zero]; exact List.eq_nil_of_length_eq_zero hz1)
                        rw [hz1]
                        go_wp2_with (at_builtin; refine wpList_append_rd _ rfl _ _ _ rfl W9.heap.size 9 i0 _ 1 16 Tryz.underlying39 HI.out HZ0.out HZ1.out HZ2.out rfl (by omega) (.slice A5 (0 + 1) c5) (0 + 1) _ rfl HO4.out none _ _ (Srs.strs []) rfl (fun _ => rfl) (by simp [Srs.strs]) Rd.nil (strs_one _) (by simp only [maxLen]; omega) (by omega) (HB6.out.2.size) ?_; intro v6 w6 hown6 hg6; obtain ⟨A6, c6, rfl, _⟩ := own_slice hown6; have HO6 := Lib.hid hown6; have HB7 := Lib.hid (And.intro trivial (grown_ext HB6.out.2 rfl HO4.out hg6)); clear hown6 hg6)
                        go_roundw
                        case rel => exact ⟨k + 1, by go_num, by omega, ext_trans HBe.out HB7.out.2, by
                          show World.ownsRow _ _ _ _ _ _ _
                          have h := own_monoS HO6.out HBe.out.size
                          rw [HN.out, HIA.out]
                          rw [HD0.out, List.append_nil]
                          simpa [Srs.strs, encStr] using h⟩
                        case measure => show d.ms.length - (k + 1) < d.ms.length - k; omega
                      | some a =>
                        obtain ⟨g, rfl⟩ : ∃ g, a = ⟨g, 0, none⟩ := by
                          rcases HO93.out.2 with ⟨h, _⟩ | ⟨g, cap, cur, h, _⟩
                          · injection h with h3
                            cases h3
                          · injection h with h3
                            exact ⟨g, Option.some.inj h3⟩
                        by_cases hcj : c9 = j
                        · have hdl : out.length - j = 0 := by omega
                          have HD0 := Lib.hid (show out.drop j = [] from List.drop_eq_nil_of_le (by omega))
                          go_wp2_with (at_builtin; refine wpList_append_rd _ rfl _ _ _ rfl W9.heap.size 9 i0 _ 1 16 Tryz.underlying39 HI.out HZ0.out HZ1.out HZ2.out rfl (by omega) (.slice A5 (j + 1) c5) (j + 1) _ rfl HO4.out (some ⟨g, 0, none⟩) _ _ (Srs.strs []) rfl (fun _ => rfl) (by simp [Srs.strs]) Rd.nil (strs_one _) (by simp only [maxLen]; omega) (by omega) (HB6.out.2.size) ?_; intro v6 w6 hown6 hg6; obtain ⟨A6, c6, rfl, _⟩ := own_slice hown6; have HO6 := Lib.hid hown6; have HB7 := Lib.hid (And.intro trivial (grown_ext HB6.out.2 rfl HO4.out hg6)); clear hown6 hg6)
                          go_roundw
                          case rel => exact ⟨k + 1, by go_num, by omega, ext_trans HBe.out HB7.out.2, by
                            show World.ownsRow _ _ _ _ _ _ _
                            have h := own_monoS HO6.out HBe.out.size
                            rw [HN.out, HIA.out]
                            rw [HD0.out, List.append_nil]
                            have e : (out.take j ++ [nm]).length = j + 1 + 0 := by simp; omega
                            rw [e, strsS_app]
                            simpa [Srs.strs, encStr] using h⟩
                          case measure => show d.ms.length - (k + 1) < d.ms.length - k; omega
                        · have HRk := Lib.hid (rd_from' (Rd.of_own HO93.out) j)
                          go_wp2_with (at_builtin; refine wpList_append_rd _ rfl _ _ _ rfl W9.heap.size 9 i0 _ 1 16 Tryz.underlying39 HI.out HZ0.out HZ1.out HZ2.out rfl (by omega) (.slice A5 (j + 1) c5) (j + 1) _ rfl HO4.out _ _ _ (Srs.strs (out.drop j)) rfl (fun h => by cases h) (by simp [Srs.strs]) (by rw [strsS_drop]; exact HRk.out) (strs_one _) (by simp only [maxLen]; omega) (by omega) (HB6.out.2.size) ?_; intro v6 w6 hown6 hg6; obtain ⟨A6, c6, rfl, _⟩ := own_slice hown6; have HO6 := Lib.hid hown6; have HB7 := Lib.hid (And.intro trivial (grown_ext HB6.out.2 rfl HO4.out hg6)); clear hown6 hg6)
                          go_roundw
                          case rel => exact ⟨k + 1, by go_num, by omega, ext_trans HBe.out HB7.out.2, by
                            show World.ownsRow _ _ _ _ _ _ _
                            have h := own_monoS HO6.out HBe.out.size
                            rw [HN.out, HIA.out]
                            have e : (out.take j ++ [nm] ++ out.drop j).length = j + 1 + (out.length - j) := by simp; omega
                            rw [e, strsS_app, strsS_app]
                            simpa [Srs.strs, encStr] using h⟩
                          case measure => show d.ms.length - (k + 1) < d.ms.length - k; omega
    · have hcl : ¬ (k : Int) < (d.ms.length : Int) := by omega
      obtain rfl : k = d.ms.length := by omega
      go_wp2_with fail
      obtain ⟨A1, c1, rfl, _⟩ := own_slice HO.out
      go_ret
      show StrsPost (rTo d s q d.ms.length) w _ _
      rw [← HOt.out]
      exact ⟨A1, c1, rfl, Rd.of_own HO.out, HB.out⟩
end Go.Proofs.YtjfiodknjchngaaGreatDoor.Cg
namespace Go.Proofs.YtjfiodknjchngaaGreatDoor.Cg
open Go.RowKit Mem Nest Srs Cf Fk Msi CdP CdM Err Solve Sol App Ce

def CodeK (c : Int) : Prop := c = 0 ∨ c = 2 ∨ c = 4 ∨ c = 7 ∨ c = 8 ∨ c = 9 ∨ c = 11
theorem codek_of {c : Int} (h : CodeOk c) : CodeK c := by
  unfold CodeOk at h
  unfold CodeK
  omega
theorem dues_code : ∀ (ms : List Mv) {c : Int}, DuesP ms c → CodeK c
  | [], c, h => .inl h
  | m :: ms, c, ⟨o, ho, h⟩ => by
    rcases h with ⟨_, rfl⟩ | ⟨_, h⟩
    · exact codek_of ho.code
    · exact dues_code ms h
theorem vr_code {st : Tx} {fin : List Tx} {ms : List Mv} {c : Int} (h : VR st fin ms c) : CodeK c := by
  rcases h with ⟨_, rfl⟩ | ⟨_, ⟨_, rfl⟩ | ⟨_, ⟨_, rfl⟩ | ⟨_, ⟨_, rfl⟩ | ⟨_, h⟩⟩⟩⟩
  · simp [CodeK]
  · simp [CodeK]
  · simp [CodeK]
  · simp [CodeK]
  · exact dues_code ms h
theorem dop_code {d : Kd} {s s' : Sd} {x : St} {c : Int} (h : DoP d s x c s') : CodeK c := by
  rcases h with ⟨_, rfl, _⟩ | ⟨_, ⟨_, rfl, _⟩ | ⟨_, i, m, u, _, _, _, _, ⟨_, rfl, _⟩ | ⟨_, ⟨_, hc, _⟩ | ⟨rfl, _, _⟩⟩⟩⟩
  · simp [CodeK]
  · simp [CodeK]
  · simp [CodeK]
  · rcases hc with ⟨_, rfl⟩ | ⟨_, ⟨_, rfl⟩ | ⟨_, o, _, ⟨_, rfl⟩ | ⟨_, rfl⟩⟩⟩ <;> simp [CodeK]
  · simp [CodeK]
theorem gcoded (A : Nat → Addr) (k : Int) (hk : CodeK k) (w : World) (hE : Errs w A) :
    Calls Tryz.prog 12 #[errC A k, .int .i64 k] w (RetG true w) := by
  rcases hk with rfl | rfl | rfl | rfl | rfl | rfl | rfl
  · exact (coded5_nil 0 w).mono fun e w' ⟨he, hw⟩ => ⟨by rw [he]; simp, hw ▸ Below.refl _ _⟩
  · exact (coded5_sent 1 (by omega) 2 A w hE).mono fun e w' ⟨he, hw⟩ => ⟨by rw [he]; simp, hw⟩
  · exact (coded5_sent 3 (by omega) 4 A w hE).mono fun e w' ⟨he, hw⟩ => ⟨by rw [he]; simp, hw⟩
  · exact (coded5_sent 6 (by omega) 7 A w hE).mono fun e w' ⟨he, hw⟩ => ⟨by rw [he]; simp, hw⟩
  · exact (coded5_sent 7 (by omega) 8 A w hE).mono fun e w' ⟨he, hw⟩ => ⟨by rw [he]; simp, hw⟩
  · exact (coded5_sent 8 (by omega) 9 A w hE).mono fun e w' ⟨he, hw⟩ => ⟨by rw [he]; simp, hw⟩
  · exact (coded5_sent 10 (by omega) 11 A w hE).mono fun e w' ⟨he, hw⟩ => ⟨by rw [he]; simp, hw⟩
theorem e6_of {w : World} {A : Nat → Addr} (h : Errs w A) : E6 w A := ⟨h.v1, h.v3, h.v6, h.v7, h.v8, h.v10⟩
set_option maxRecDepth 100000 in
theorem csince (B : World) (d : Kd) (s : Sd) (w : World) (h : Cs B d s w) : Calls Tryz.prog 16 #[.pointer (some ⟨B.heap.size + 1, 0, none⟩)] w (RetI s.since w) := by
  obtain ⟨SA, sc, hk, ho⟩ := h.case_
  have c5 := hk.cell 5 rfl
  clear h hk ho
  go_enter Tryz.func16, Tryz.ntmps16
  go_wp2_with fail
  go_ret
  exact ⟨rfl, rfl⟩
set_option maxRecDepth 100000 in
set_option maxHeartbeats 2000000 in
theorem sametx (l : List Tx) (hl : l.length ≤ 100000) (A1 A2 : Option Addr) (c1 c2 : Nat) (w : World) (h1 : Rd w A1 (Srs.strs l)) (h2 : Rd w A2 (Srs.strs l)) :
    Calls Tryz.prog 17 #[.slice A1 l.length c1, .slice A2 l.length c2] w (RetG true w) := by
  have H1 := Lib.hid h1
  have H2 := Lib.hid h2
  clear h1 h2
  go_enter Tryz.func17, Tryz.ntmps17
  go_wp2_with fail
  go_loopw [5] (fun s5 wr => ∃ k : Nat, s5 = .int .i64 k ∧ k ≤ l.length ∧ Hid (Below w.heap.size w wr)) (fun s5 _ => l.length - (intOf s5).toNat)
  case atStart => exact ⟨0, rfl, Nat.zero_le _, Below.refl _ _⟩
  case round =>
    obtain ⟨k, rfl, hk, HB⟩ := hrel
    by_cases hlt : k < l.length
    · have hcl : (k : Int) < (l.length : Int) := by omega
      obtain ⟨b1, o1, e1, x1⟩ := str_row (H1.out.ext HB.out) hlt
      obtain ⟨b2, o2, e2, x2⟩ := str_row (H2.out.ext HB.out) hlt
      subst e1 e2
      generalize l[k] = z at x1 x2
      have HD := Lib.hid (ext_drewN wr)
      go_wp2_with fail
      go_quiet (fail)
      go_wp2_with fail
      go_roundw
      case rel => exact ⟨k + 1, by go_num, by omega, ext_trans HB.out (HD.out _)⟩
      case measure => show l.length - (k + 1) < l.length - k; omega
    · have hcl : ¬ (k : Int) < (l.length : Int) := by omega
      go_wp2_with fail
      go_ret
      exact ⟨rfl, HB.out⟩
end Go.Proofs.YtjfiodknjchngaaGreatDoor.Cg
namespace Go.Proofs.YtjfiodknjchngaaGreatDoor.Cg
open Go.RowKit Mem Nest Srs Cf Fk Msi CdP CdM Err Solve Sol App Ce DayWorks

theorem may_in {d : Kd} {s : Sd} {q : Int} : ∀ (k : Nat) (x : Tx), x ∈ mayTo d s q k → ∃ i m, i < k ∧ d.ms[i]? = some m ∧ m.frm = s.stage ∧ m.name = x
  | 0, x, h => by simp [mayTo] at h
  | k + 1, x, h => by
    by_cases c : okM d s q k
    · have hk : k < d.ms.length := by
        obtain ⟨m, u, h1, _⟩ := c
        exact (List.getElem?_eq_some_iff.1 h1).1
      rw [may_yes c (List.getElem?_eq_getElem hk), List.mem_append, List.mem_singleton] at h
      rcases h with h | rfl
      · obtain ⟨i, m, h1, h2⟩ := may_in k x h
        exact ⟨i, m, by omega, h2⟩
      · obtain ⟨m, u, h1, _, h3, _⟩ := c
        rw [List.getElem?_eq_getElem hk] at h1
        exact ⟨k, _, by omega, List.getElem?_eq_getElem hk, by rw [Option.some.inj h1]; exact h3, rfl⟩
    · rw [may_no c] at h
      obtain ⟨i, m, h1, h2⟩ := may_in k x h
      exact ⟨i, m, by omega, h2⟩
theorem may_nodup {d : Kd} {s : Sd} {q : Int} (hU : Uni d.ms) : ∀ k, (mayTo d s q k).Nodup
  | 0 => by simp [mayTo]
  | k + 1 => by
    by_cases c : okM d s q k
    · have hk : k < d.ms.length := by
        obtain ⟨m, u, h1, _⟩ := c
        exact (List.getElem?_eq_some_iff.1 h1).1
      rw [may_yes c (List.getElem?_eq_getElem hk)]
      refine List.nodup_append.2 ⟨may_nodup hU k, by simp, fun x hx y hy e => ?_⟩
      rw [List.mem_singleton] at hy
      obtain ⟨i, m, h1, h2, h3, h4⟩ := may_in k x hx
      obtain ⟨m', u, g1, _, g3, _⟩ := c
      rw [List.getElem?_eq_getElem hk] at g1
      have := hU i k m d.ms[k] h2 (List.getElem?_eq_getElem hk) (by rw [h4, e, hy]) (by rw [h3, Option.some.inj g1, g3])
      omega
    · rw [may_no c]
      exact may_nodup hU k
theorem rto_eq {d : Kd} {s : Sd} {q : Int} (hU : Uni d.ms) (k : Nat) : rTo d s q k = Lib.compact (sortS (mayTo d s q k)) := ins_all _ (may_nodup hU k)
theorem dop_len {d : Kd} {s s' : Sd} {x : St} {c : Int} (h : DoP d s x c s') : s'.steps.length ≤ s.steps.length + 1 := by
  rcases h with ⟨_, _, rfl⟩ | ⟨_, ⟨_, _, rfl⟩ | ⟨_, i, m, u, _, _, _, _, ⟨_, _, rfl⟩ | ⟨_, ⟨_, _, rfl⟩ | ⟨_, _, rfl⟩⟩⟩⟩
  · omega
  · omega
  · omega
  · omega
  · simp [nxt]
theorem cor_ub {d : Kd} {s : Sd} {us : List Nat} {xs : List St} (h : Cor d s us xs) (hl : us.length ≤ 1000000) : ∀ u ∈ s.used, u ≤ 1000000 := by
  intro u hu
  obtain ⟨i, hi, e⟩ := List.getElem_of_mem hu
  have h1 := h.used i (by rw [← h.ulen]; exact hi)
  rw [List.getElem?_eq_getElem hi, e] at h1
  have h2 := Option.some.inj h1
  have := List.count_le_length (a := i) (l := us)
  omega
theorem errs_bel {w w' : World} {A : Nat → Addr} (h : Errs w A) (hb : Below w.heap.size w w') : Errs w' A := h.below hb
theorem vp_uni {st : Tx} {fin : List Tx} {ms : List Mv} (h : VP st fin ms 0) : Uni ms := by
  rcases h with ⟨_, e⟩ | ⟨_, ⟨_, e⟩ | ⟨h, _⟩⟩
  · omega
  · omega
  · rw [Bool.or_eq_false_iff] at h
    exact uni_of h.2
theorem st_at {B w : World} {lb lo : Nat} {xs : List St} (h : Rd B (some ⟨lb, lo, none⟩) (xs.flatMap stCells)) {i : Nat} (hi : i < xs.length) {z : St} (hz : xs[i] = z) (hb : Below B.heap.size B w) :
    w.cell? ⟨lb, lo + i * 3, none⟩ = some (.string ⟨z.mv.toArray⟩) ∧ w.cell? ⟨lb, lo + i * 3 + 1, none⟩ = some (.string ⟨z.who.toArray⟩) ∧ w.cell? ⟨lb, lo + i * 3 + 2, none⟩ = some (.int .i64 z.day) := by
  obtain ⟨b, o, e, hx⟩ := (h.ext hb).row stCells_len hi (by omega)
  injection e with e
  injection e with e1 e2 _
  subst e1 e2
  rw [hz] at hx
  have x0 := hx 0 (.string ⟨z.mv.toArray⟩) rfl
  have x1 := hx 1 (.string ⟨z.who.toArray⟩) rfl
  have x2 := hx 2 (.int .i64 z.day) rfl
  rw [← Nat.add_assoc] at x0 x1 x2
  exact ⟨x0, x1, x2⟩
theorem st_row {w : World} {A : Option Addr} {xs : List St} (h : Rd w A (xs.flatMap stCells)) {i : Nat} (hi : i < xs.length) :
    ∃ b o, A = some ⟨b, o, none⟩ ∧ w.cell? ⟨b, o + i * 3, none⟩ = some (.string ⟨xs[i].mv.toArray⟩) ∧ w.cell? ⟨b, o + i * 3 + 1, none⟩ = some (.string ⟨xs[i].who.toArray⟩) ∧ w.cell? ⟨b, o + i * 3 + 2, none⟩ = some (.int .i64 xs[i].day) := by
  obtain ⟨b, o, e, hx⟩ := h.row stCells_len hi (by omega)
  have x0 := hx 0 (.string ⟨xs[i].mv.toArray⟩) rfl
  have x1 := hx 1 (.string ⟨xs[i].who.toArray⟩) rfl
  have x2 := hx 2 (.int .i64 xs[i].day) rfl
  rw [← Nat.add_assoc] at x0 x1 x2
  exact ⟨b, o, e, x0, x1, x2⟩
set_option maxRecDepth 100000 in
set_option maxHeartbeats 1000000 in
theorem go_nil (on : Int) (cv : Value) (offs : List Bool) (hol : List Int) (AO : Option Addr) (co : Nat) (AH : Option Addr) (ch : Nat) (hcv : cv = .agg #[.slice AO offs.length co, .slice AH hol.length ch]) (xs : List St) (LA : Option Addr) (lc : Nat) (look : Int) (w : World) :
    Calls Tryz.prog 3 #[.pointer none, .int .i64 on, cv, .slice LA xs.length lc, .int .i64 look] w (RetG true w) := by
  subst hcv
  have xa := Lib.hid (ext_alloc w (.cells #[.slice AO offs.length co, .slice AH hol.length ch] 26))
  go_enter Tryz.func3, Tryz.ntmps3
  go_wp2_with fail
  refine (opens_any _).mono ?_
  rintro e w1 ⟨rfl, hb1⟩
  have HB1 := Lib.hid (ext_trans xa.out hb1)
  clear hb1
  go_wp2_with fail
  go_ret
  exact ⟨rfl, HB1.out⟩
set_option maxRecDepth 100000 in
set_option maxHeartbeats 8000000 in
theorem go_walk (b o : Nat) (st : List UInt8) (fin : List (List UInt8)) (ms : List Mv) (FA : Option Addr) (fc : Nat) (MA : Option Addr) (mc : Nat) (on : Int) (offs : List Bool) (hol : List Int) (AO : Option Addr) (co : Nat) (AH : Option Addr) (ch : Nat) (xs : List St) (LA : Option Addr) (lc : Nat) (look : Int) (w : World) (A : Nat → Addr)
    (hsl : ∀ s ∈ allF st fin ms, s.length ≤ 9223372036854775807) (hmn : ∀ m ∈ ms, m.name.length ≤ 9223372036854775807 ∧ m.who.length ≤ 9223372036854775807)
    (hP : PIn w b o st fin ms FA fc MA mc) (hD : Dat w offs hol AO co AH ch) (hX : Rd w LA (xs.flatMap stCells)) (hxl : xs.length ≤ 9223372036854775807) (hE : Errs w A) :
    Calls Tryz.prog 3 #[.pointer (some ⟨b, o, none⟩), .int .i64 on, .agg #[.slice AO offs.length co, .slice AH hol.length ch], .slice LA xs.length lc, .int .i64 look] w (RetG true w) := by
  have hlen : ∀ s ∈ stagesF st fin ms, s.length ≤ 9223372036854775807 := fun s hs => hsl s (all_mem.1 hs)
  have xa := ext_alloc w (.cells #[.slice AO offs.length co, .slice AH hol.length ch] 26)
  have ba := Blk.new w 26 [.slice AO offs.length co, .slice AH hol.length ch]
  have HP := Lib.hid hP
  have HD := Lib.hid hD
  have HXs := Lib.hid hX
  have HE := Lib.hid hE
  have HL := Lib.hid hlen
  have HSl := Lib.hid hsl
  have HMn := Lib.hid hmn
  have hhl := hD.hl
  have HXa := Lib.hid xa
  have HBa := Lib.hid ba
  clear hP hX hE hlen hmn hsl xa ba hD
  go_enter Tryz.func3, Tryz.ntmps3
  go_wp2_with fail
  refine (opens_any _).mono ?_
  rintro e w1 ⟨rfl, hb1⟩
  have HB1 := Lib.hid (ext_trans HXa.out hb1)
  have HK1 := Lib.hid (blk_ext2 HBa.out hb1)
  clear hb1
  go_wp2_with fail
  refine (cfew b o st fin ms FA fc MA mc _ (HP.out.ext HB1.out)).mono ?_
  rintro e w2 ⟨q, rfl, hq, hb2⟩
  have HB2 := Lib.hid (ext_trans HB1.out hb2)
  have HK2 := Lib.hid (blk_ext2 HK1.out hb2)
  have HQ := Lib.hid hq
  have k0 := HK2.out.cell 0 rfl
  have k1 := HK2.out.cell 1 rfl
  clear hq hb2
  cases q with
  | false =>
    go_wp2_with fail
    go_ret
    exact ⟨rfl, HB2.out⟩
  | true =>
  by_cases gn : 60 < xs.length
  · have gn' : (60 : Int) < xs.length := by omega
    clear gn
    go_wp2_with fail
    go_ret
    exact ⟨rfl, HB2.out⟩
  have gn' : ¬ (60 : Int) < xs.length := by omega
  by_cases gh : 100 < hol.length
  · have gh' : (100 : Int) < hol.length := by omega
    clear gh
    go_wp2_with fail
    go_ret
    exact ⟨rfl, HB2.out⟩
  have gh' : ¬ (100 : Int) < hol.length := by omega
  have hm1 : ms.length ≤ 125 := (HQ.out rfl).1
  have hf1 : fin.length ≤ 125 := (HQ.out rfl).2
  clear HQ
  go_wp2_with fail
  refine (both5_any offs hol HD.out.ol (by omega) AO co AH ch HD.out.nil _ (HD.out.rO.ext HB2.out) (HD.out.rH.ext HB2.out)).mono ?_
  rintro e w3 ⟨x, y, XA, xc, YA, yc, rfl, hcx, hcy, hb3⟩
  have hok := cd_ok HD.out (by omega)
  have HCok := Lib.hid hok
  have hcl1 : (cdOf offs hol).hol.length ≤ 100 := by show hol.length ≤ 100; omega
  obtain ⟨cd, hcd⟩ : ∃ cd, cd = cdOf offs hol := ⟨_, rfl⟩
  rw [← hcd] at hcx hcy HCok hcl1
  have HB3 := Lib.hid (ext_trans HB2.out hb3)
  have HCx := Lib.hid hcx
  have HCy := Lib.hid hcy
  clear hcx hcy hb3 hcd hok k0 k1
  go_wp2_with fail
  refine (plan_of b o st fin ms (by omega) (by omega) FA fc MA mc _ (HP.out.ext HB3.out)).mono ?_
  rintro e w4 ⟨F2, fc2, M2, mc2, rfl, hF, hM, hn, hmc, hb4⟩
  have HB4 := Lib.hid (ext_trans HB3.out hb4)
  have HCy4 := Lib.hid (HCy.out.ext hb4)
  have HOp := Lib.hid (gopen st fin ms (by omega) (by omega) HL.out HMn.out F2 M2 fc2 mc2 hn hmc on cd HCok.out x 0 XA xc w4 A (HCx.out.ext hb4) (e6_of (HE.out.below HB4.out)) hF hM)
  clear hF hM hn hmc hb4
  unfold planW at *
  go_wp2_with fail
  refine HOp.out.mono ?_
  rintro e w5 ⟨c, hv, hb5, hcase⟩
  obtain ⟨kp, ev, rfl, h3⟩ : ∃ kp ev, e = .returned (.tuple #[kp, ev]) ∧ ((c ≠ 0 ∧ kp = .pointer none ∧ ev = errC A c) ∨ (c = 0 ∧ ¬ Gd on ∧ kp = .pointer none ∧ ev = errC A 4) ∨ (c = 0 ∧ Gd on ∧ ∃ B d, d.st = st ∧ d.fin = fin ∧ d.ms = ms ∧ d.cd = cd ∧ d.first = on ∧ Below w4.heap.size w4 B ∧ Cs B d ⟨st, on, [], List.replicate ms.length 0⟩ w5 ∧ kp = .pointer (some ⟨B.heap.size + 1, 0, none⟩) ∧ ev = .nilIface)) := by
    rcases hcase with ⟨h1, h2⟩ | ⟨h1, h2, h4⟩ | ⟨h1, h2, B, d, e1, e2, e3, e4, e5, e6, e7, e8⟩
    · exact ⟨_, _, h2, .inl ⟨h1, rfl, rfl⟩⟩
    · exact ⟨_, _, h4, .inr (.inl ⟨h1, h2, rfl, rfl⟩)⟩
    · exact ⟨_, _, e8, .inr (.inr ⟨h1, h2, B, d, e1, e2, e3, e4, e5, e6, e7, rfl, rfl⟩)⟩
  have HV := Lib.hid hv
  have HB5 := Lib.hid (ext_trans HB4.out hb5)
  have HCase := Lib.hid h3
  clear hv hb5 h3 hcase HOp
  go_wp2_with fail
  refine (rplan b o st fin ms hf1 hm1 HSl.out HMn.out FA fc MA mc _ (HP.out.ext HB5.out)).mono ?_
  rintro e w6 ⟨c', hr, rfl, hb6⟩
  obtain rfl := vp_same HV.out hr
  have HR := Lib.hid hr
  have HCk := Lib.hid (vr_code hr)
  have HB6 := Lib.hid (ext_trans HB5.out hb6)
  have HX6 := Lib.hid hb6
  clear hr hb6
  go_wp2_with fail
  refine (plan_of b o st fin ms (by omega) (by omega) FA fc MA mc _ (HP.out.ext HB6.out)).mono ?_
  rintro e w7 ⟨F3, fc3, M3, mc3, rfl, hF, hM, hn, hmc, hb7⟩
  have HB7 := Lib.hid (ext_trans HB6.out hb7)
  have HX7 := Lib.hid (ext_trans HX6.out hb7)
  have HVd := Lib.hid (cvalid st fin ms (by omega) (by omega) HL.out HMn.out F3 M3 fc3 mc3 hn hmc w7 A (e6_of (HE.out.below HB7.out)) hF hM)
  clear hF hM hn hmc hb7
  unfold planW at *
  go_wp2_with fail
  refine HVd.out.mono ?_
  rintro e w8 ⟨c2, hv2, rfl, hb8⟩
  obtain rfl := vp_same hv2 HR.out
  have HB8 := Lib.hid (ext_trans HB7.out hb8)
  have HX8 := Lib.hid (ext_trans HX7.out hb8)
  clear hv2 hb8 HVd
  go_wp2_with fail
  refine (gcoded A c2 HCk.out _ (HE.out.below HB8.out)).mono ?_
  rintro e w9 ⟨rfl, hb9⟩
  have HB9 := Lib.hid (ext_trans HB8.out hb9)
  have HX9 := Lib.hid (ext_trans HX8.out hb9)
  obtain ⟨dy, hdy⟩ : ∃ dy, dy = dayB on := ⟨_, rfl⟩
  have HDay := Lib.hid (show Calls Tryz.prog 13 #[.int .i64 on] w9 (RetB dy w9) from by rw [hdy]; exact isday_any on w9)
  have HDy := Lib.hid (show dy = true ↔ Gd on from by rw [hdy]; exact gd_day _)
  clear hb9 hdy
  go_wp2_with fail
  refine HDay.out.mono ?_
  rintro e w' ⟨rfl, rfl⟩
  clear HDay
  rcases HCase.out with ⟨hc, rfl, rfl⟩ | ⟨rfl, hg, rfl, rfl⟩ | ⟨rfl, hg, B, d, e1, e2, e3, e4, e5, hBb, hCs, rfl, rfl⟩
  · have hcp : 0 < c2 := by have h := HCk.out; unfold CodeK at h; omega
    have HCd := Lib.hid (gcoded A c2 HCk.out w9 (HE.out.below HB9.out))
    clear HCase
    go_wp2_with fail
    refine HCd.out.mono ?_
    rintro e w10 ⟨rfl, hb10⟩
    have HB10 := Lib.hid (ext_trans HB9.out hb10)
    clear hb10 HCd
    go_wp2_with fail
    go_ret
    exact ⟨rfl, HB10.out⟩
  · have hdf : dy = false := by
      cases dy with
      | false => rfl
      | true => exact absurd (HDy.out.1 rfl) hg
    subst hdf
    have HCd := Lib.hid (gcoded A 4 (by simp [CodeK]) w9 (HE.out.below HB9.out))
    clear HCase
    go_wp2_with fail
    refine HCd.out.mono ?_
    rintro e w10 ⟨rfl, hb10⟩
    have HB10 := Lib.hid (ext_trans HB9.out hb10)
    clear hb10 HCd
    go_wp2_with fail
    go_ret
    exact ⟨rfl, HB10.out⟩
  have hdt : dy = true := HDy.out.2 hg
  subst hdt e1 e2 e3 e4 e5
  have HCd := Lib.hid (gcoded A 0 (by simp [CodeK]) w9 (HE.out.below HB9.out))
  rw [errC_zero] at HCd
  have HUn := Lib.hid (vp_uni HV.out)
  have HBB := Lib.hid (ext_trans HB4.out hBb)
  have HC9 := Lib.hid (hCs.ext HX9.out)
  have HPB := Lib.hid (HP.out.ext HBB.out)
  have HEB := Lib.hid (HE.out.below HBB.out)
  have HYB := Lib.hid (HCy4.out.ext hBb)
  have HXB := Lib.hid (HXs.out.ext HBB.out)
  clear hg hBb hCs HCase
  go_wp2_with fail
  refine HCd.out.mono ?_
  rintro e w10 ⟨rfl, hb10⟩
  have HC10 := Lib.hid (HC9.out.ext hb10)
  have HB10 := Lib.hid (ext_trans HB9.out hb10)
  clear hb10 HCd HC9
  have xc := ext_alloc w10 (.cells #[.pointer (some ⟨b, o, none⟩), .pointer (some ⟨y, 0, none⟩), .int .i64 d.first, .slice none 0 0, .slice none 0 0] 50)
  have bc := Blk.new w10 50 [.pointer (some ⟨b, o, none⟩), .pointer (some ⟨y, 0, none⟩), .int .i64 d.first, .slice none 0 0, .slice none 0 0]
  obtain ⟨V, hV⟩ : ∃ V, V = w10.alloc (.cells #[.pointer (some ⟨b, o, none⟩), .pointer (some ⟨y, 0, none⟩), .int .i64 d.first, .slice none 0 0, .slice none 0 0] 50) := ⟨_, rfl⟩
  obtain ⟨C, hC⟩ : ∃ C, C = w10.heap.size := ⟨_, rfl⟩
  rw [← hV] at xc bc
  rw [← hC] at bc
  have hCB : B.heap.size + 2 ≤ C := by
    obtain ⟨SA, sc, hk, _⟩ := HC10.out.case_
    have := hk.lt
    omega
  have HCV := Lib.hid (HC10.out.ext xc)
  have HCc := Lib.hid (show Rc B C b o y d.first [] [] V from ⟨HCV.out.below, hCB, rfl, none, 0, none, 0, bc, World.ownsRow_nil _ _ _ _, World.ownsRow_nil _ _ _ _⟩)
  have HCo := Lib.hid (cor_start d)
  have HCB := Lib.hid hCB
  clear xc bc hCB HC10
  go_upto_region 19 with fail
  rw [← hV, ← hC]
  clear hV hC
  go_wp2_with fail
  go_loopw [23] (fun s23 wr => ∃ i : Nat, s23 = .int .i64 i ∧ i ≤ xs.length ∧ Hid (∃ s us zs, Cs B d s wr ∧ Rc B C b o y d.first us zs wr ∧ Cor d s us zs ∧ us.length ≤ i)) (fun s23 _ => xs.length - (intOf s23).toNat)
  case atStart => exact ⟨0, rfl, Nat.zero_le _, _, _, _, HCV.out, HCc.out, HCo.out, Nat.le_refl _⟩
  case round =>
    obtain ⟨i, rfl, hi, HS⟩ := hrel
    obtain ⟨s, us, zs, hs, hr, hco, hul⟩ := HS.out
    have HCs := Lib.hid hs
    have HRc := Lib.hid hr
    have HCr := Lib.hid hco
    have HUl := Lib.hid hul
    clear hs hr hco hul HS
    by_cases hlt : i < xs.length
    · have hic : (i : Int) < (xs.length : Int) := by omega
      have hstg := rcstage B C b o y d.first us zs d.st d.fin d.ms FA fc MA mc wr HRc.out HPB.out HCr.out.bd (by have := HUl.out; omega)
      rw [← HCr.out.stage, ← HCr.out.since] at hstg
      have HSt := Lib.hid hstg
      clear hstg
      go_wp2_with fail
      refine HSt.out.mono ?_
      rintro e wa ⟨rfl, hba⟩
      have HCa := Lib.hid (HCs.out.ext hba)
      have HRa := Lib.hid (HRc.out.ext hba)
      clear hba HSt
      go_wp2_with fail
      refine (cstage B d s _ HCa.out).mono ?_
      rintro e wz ⟨rfl, rfl⟩
      go_wp2_with fail
      refine (csince B d s _ HCa.out).mono ?_
      rintro e wz ⟨rfl, rfl⟩
      go_wp2_with fail
      refine (cmay B d s wa A HCa.out (e6_of (HEB.out.below HCa.out.below)) look HCr.out.ulen).mono ?_
      rintro e wb ⟨M1, mc1, rfl, hm1', hbb⟩
      rw [← rto_eq HUn.out] at hm1' ⊢
      have HCb := Lib.hid (HCa.out.ext hbb)
      have HRb := Lib.hid (HRa.out.ext hbb)
      have HM1 := Lib.hid hm1'
      clear hm1' hbb
      go_wp2_with fail
      refine (rcmays B C b o y us zs d s FA fc MA mc YA yc wb HRb.out HPB.out HYB.out (by omega) (by omega) (by omega) HCr.out (by have := HUl.out; omega) look).mono ?_
      rintro e wc ⟨N1, nc1, rfl, hn1, hbc⟩
      have HCc2 := Lib.hid (HCb.out.ext hbc)
      have HRc2 := Lib.hid (HRb.out.ext hbc)
      have HSm := Lib.hid (sametx (rTo d s look d.ms.length) (by have := rto_len d s look d.ms.length; omega) M1 N1 mc1 nc1 wc (HM1.out.ext hbc) hn1)
      clear hn1 hbc HM1
      go_wp2_with fail
      refine HSm.out.mono ?_
      rintro e wd ⟨rfl, hbd⟩
      have HCd2 := Lib.hid (HCc2.out.ext hbd)
      have HRd2 := Lib.hid (HRc2.out.ext hbd)
      clear hbd HSm HCc2 HRc2 HCb HRb HCa HRa
      obtain ⟨lb, lo, eL, hx⟩ := (HXB.out.ext HCd2.out.below).row stCells_len hlt (by omega)
      subst eL
      generalize hz : xs[i] = z at hx
      have x0 := hx 0 (.string ⟨z.mv.toArray⟩) rfl
      have x1 := hx 1 (.string ⟨z.who.toArray⟩) rfl
      have x2 := hx 2 (.int .i64 z.day) rfl
      rw [← Nat.add_assoc] at x0 x1 x2
      rw [Nat.add_zero] at x0
      clear hx
      go_upto_region 28 with fail
      have hdr : Below wd.heap.size wd wd.drew := ext_drewN wd 1
      have HCd3 := Lib.hid (HCd2.out.ext hdr)
      have HRd3 := Lib.hid (HRd2.out.ext hdr)
      have HEd := Lib.hid (e6_of (HEB.out.below HCd3.out.below))
      have x0 := cell_ext hdr x0
      have x1 := cell_ext hdr x1
      have x2 := cell_ext hdr x2
      have HXl := Lib.hid (show Rd B (some ⟨lb, lo, none⟩) (xs.flatMap stCells) from HXB.out)
      have HZx := Lib.hid hz
      clear hdr hz
      have HSl2 := Lib.hid (show s.steps.length ≤ 60 from by have h1 := HCr.out.steps; have h2 := HCr.out.len; have h3 := HUl.out; rw [h1, ← h2]; omega)
      go_region_held3 (fun w' => w'.cell? ⟨lb, lo + i * 3, none⟩ = some (.string ⟨z.mv.toArray⟩) ∧ w'.cell? ⟨lb, lo + i * 3 + 1, none⟩ = some (.string ⟨z.who.toArray⟩) ∧ w'.cell? ⟨lb, lo + i * 3 + 2, none⟩ = some (.int .i64 z.day))
        ((first | exact ⟨x0, x1, x2⟩ | exact st_at HXl.out hlt HZx.out hC2.below))
        ((go_at_call 20; refine (cdo B d s z _ A HCd3.out HEd.out (by have := HSl2.out; omega) (cor_ub HCr.out (by have := HUl.out; omega))).mono ?_; rintro e we ⟨c, s', hDo, rfl, hC2, hFr⟩))
      have HDo := Lib.hid hDo
      have HC2 := Lib.hid hC2
      have HRe := Lib.hid (HRd3.out.fr hFr hC2.below)
      have HEe := Lib.hid (HEB.out.below hC2.below)
      have hst := st_at HXl.out hlt HZx.out hC2.below
      obtain ⟨x0, x1, x2⟩ := hst
      clear hDo hC2 hFr
      obtain ⟨ev, hev⟩ : ∃ ev, ev = errC A c := ⟨_, rfl⟩
      rw [← hev]
      have HEv := Lib.hid hev
      clear hev
      go_wp2_with fail
      refine (rcdo B C b o y us zs d s z FA fc MA mc YA yc _ HRe.out HPB.out HYB.out (by omega) (by omega) (by omega) HCr.out (by have := HUl.out; omega) HUn.out).mono ?_
      rintro e wf ⟨c', s2, us2, zs2, hDo2, rfl, hcr2, hr2, hfd⟩
      obtain ⟨rfl, rfl⟩ := dop_same HDo.out hDo2
      have HC3 := Lib.hid (Cs.fd HC2.out hfd HCB.out)
      have HR3 := Lib.hid hr2
      have HCr2 := Lib.hid hcr2
      have HLe := Lib.hid (show us2.length ≤ i + 1 from by have h1 := dop_len hDo2; have h2 := hcr2.steps; have h3 := hcr2.len; have h4 := HCr.out.steps; have h5 := HCr.out.len; have h6 := HUl.out; rw [h2, h4] at h1; omega)
      have HCk2 := Lib.hid (dop_code hDo2)
      have HGc := Lib.hid (gcoded A c HCk2.out wf (HEB.out.below HC3.out.below))
      rw [← HEv.out] at HGc
      clear hcr2 hr2 hfd hDo2
      go_wp2_with fail
      refine HGc.out.mono ?_
      rintro e wg ⟨rfl, hbg⟩
      have HS3 := Lib.hid (show ∃ s us zs, Cs B d s wg ∧ Rc B C b o y d.first us zs wg ∧ Cor d s us zs ∧ us.length ≤ i + 1 from ⟨_, _, _, HC3.out.ext hbg, HR3.out.ext hbg, HCr2.out, HLe.out⟩)
      clear hbg HGc
      go_wp2_with fail
      go_roundw
      case rel => exact ⟨i + 1, by go_num, by omega, HS3.out⟩
      case measure => show xs.length - (i + 1) < xs.length - i; omega
    · have hic : ¬ (i : Int) < (xs.length : Int) := by omega
      have hzs := HCr.out.steps
      subst hzs
      have hsl60 : s.steps.length ≤ 60 := by have h2 := HCr.out.len; have h3 := HUl.out; omega
      go_wp2_with fail
      refine (csteps B d s _ HCs.out (by omega)).mono ?_
      rintro e wa ⟨⟨TA, tc, rfl, hta⟩, hba⟩
      have HCa := Lib.hid (HCs.out.ext hba)
      have HRa := Lib.hid (HRc.out.ext hba)
      have HTa := Lib.hid hta
      obtain ⟨SA, sc, UA, uc, hk, hso, huo⟩ := HRa.out.blk
      have HSo := Lib.hid (Rd.of_own hso)
      have HKa := Lib.hid hk
      have y3 := hk.cell 3 rfl
      clear hta hba hk hso huo
      go_wp2_with fail
      go_loopw [28] (fun s28 wr => ∃ k : Nat, s28 = .int .i64 k ∧ k ≤ s.steps.length ∧ Hid (Below wa.heap.size wa wr)) (fun s28 _ => s.steps.length - (intOf s28).toNat)
      case atStart => exact ⟨0, rfl, Nat.zero_le _, Below.refl _ _⟩
      case round =>
        obtain ⟨k, rfl, hk, HB⟩ := hrel
        have y3 := cell_ext HB.out y3
        by_cases hkl : k < s.steps.length
        · have hkc : (k : Int) < (s.steps.length : Int) := by omega
          obtain ⟨b1, o1, e1, u0, u1, u2⟩ := st_row (HTa.out.ext HB.out) hkl
          obtain ⟨b2, o2, e2, v0, v1, v2⟩ := st_row (HSo.out.ext HB.out) hkl
          subst e1 e2
          generalize s.steps[k] = z at u0 u1 u2 v0 v1 v2
          have HDr := Lib.hid (ext_drewN wr)
          go_wp2_with fail
          go_quiet (fail)
          go_wp2_with fail
          go_roundw
          case rel => exact ⟨k + 1, by go_num, by omega, ext_trans HB.out (HDr.out _)⟩
          case measure => show s.steps.length - (k + 1) < s.steps.length - k; omega
        · have hkc : ¬ (k : Int) < (s.steps.length : Int) := by omega
          have HCe := Lib.hid (HCa.out.ext HB.out)
          have hstg := rcstage B C b o y d.first us s.steps d.st d.fin d.ms FA fc MA mc wr (HRa.out.ext HB.out) HPB.out HCr.out.bd (by have := HUl.out; omega)
          rw [← HCr.out.stage, ← HCr.out.since] at hstg
          have HSt := Lib.hid hstg
          clear hstg y3
          go_wp2_with fail
          refine HSt.out.mono ?_
          rintro e wb ⟨rfl, hbb⟩
          have HCf := Lib.hid (HCe.out.ext hbb)
          have HPf := Lib.hid (HPB.out.ext HCf.out.below)
          have p1 := HPf.out.c1
          clear hbb HSt
          obtain ⟨stage, hstage⟩ : ∃ stage, stage = s.stage := ⟨_, rfl⟩
          have HSg := Lib.hid hstage
          rw [← hstage]
          clear hstage
          go_wp2_with fail
          go_loopw [31, 32] (fun s31 s32 wr => ∃ (q : Bool) (n : Nat), s31 = .bool q ∧ s32 = .int .i64 n ∧ n ≤ d.fin.length ∧ Hid (q = (d.fin.take n).any fun f => f == stage) ∧ wr = wb) (fun _ s32 _ => d.fin.length - (intOf s32).toNat)
          case atStart => exact ⟨false, 0, rfl, rfl, Nat.zero_le _, by show _ = _; simp, rfl⟩
          case round =>
            obtain ⟨q, n, rfl, rfl, hn, HQ, rfl⟩ := hrel
            by_cases hnl : n < d.fin.length
            · have hnc : (n : Int) < (d.fin.length : Int) := by omega
              have hn2 : (n : Int) ≤ 125 := by omega
              obtain ⟨fb, fo, e3, hf⟩ := str_row HPf.out.f hnl
              have HTk := Lib.hid (show (d.fin.take (n + 1)).any (fun f => f == stage) = ((d.fin.take n).any (fun f => f == stage) || (d.fin[n] == stage)) from by rw [List.take_succ_eq_append_getElem hnl, List.any_append]; simp)
              subst e3
              generalize d.fin[n] = f at hf HTk
              cases q with
              | true =>
                have HN := Lib.hid (show true = (d.fin.take (n + 1)).any (fun f => f == stage) from by rw [HTk.out, ← HQ.out]; rfl)
                go_wp2_with fail
                go_roundw
                case rel => exact ⟨true, n + 1, rfl, by go_num, by omega, HN.out, by trivial⟩
                case measure => show d.fin.length - (n + 1) < d.fin.length - n; omega
              | false =>
                have HN := Lib.hid (show (f == stage) = (d.fin.take (n + 1)).any (fun f => f == stage) from by rw [HTk.out, ← HQ.out]; rfl)
                go_wp2_with fail
                go_roundw
                case rel => exact ⟨f == stage, n + 1, rfl, by go_num, by omega, HN.out, by trivial⟩
                case measure => show d.fin.length - (n + 1) < d.fin.length - n; omega
            · have hnc : ¬ (n : Int) < (d.fin.length : Int) := by omega
              have hqd : q = doneB d s := by rw [HQ.out, List.take_of_length_le (by omega)]; unfold doneB; rw [HSg.out]; exact List.any_beq'
              have HDn := Lib.hid (cdone B d s _ HCf.out)
              rw [← hqd] at HDn
              have HSs := Lib.hid (cstage B d s _ HCf.out)
              rw [← HSg.out] at HSs
              have HBf := Lib.hid (ext_trans HBB.out HCf.out.below)
              clear hqd HQ
              go_wp2_with fail
              refine HSs.out.mono ?_
              rintro e wz ⟨rfl, rfl⟩
              go_wp2_with fail
              refine HDn.out.mono ?_
              rintro e wg ⟨rfl, hbg⟩
              have HBg := Lib.hid (ext_trans HBf.out hbg)
              clear hbg HDn
              cases q with
              | true =>
                go_wp2_with fail
                go_ret
                exact ⟨rfl, HBg.out⟩
              | false =>
                go_wp2_with fail
                go_ret
                exact ⟨rfl, HBg.out⟩
end Go.Proofs.YtjfiodknjchngaaGreatDoor.Cg
namespace Go.Proofs.YtjfiodknjchngaaGreatDoor.CasesGo
open Go.ChangeShapes Go.WideShapes Go.ChangeAt Go.RowKit Mem Nest CdM Err Ce Cg _root_.Go.Proofs.YtjfiodknjchngaaGreatDoor.Open
theorem laidOut : laidOutB Tryz.prog = true := by kernel_rfl
section
variable {H : Type} {enc : TypeId × Value → H} {w : World} {base : Nat} {spare : Nat → Bool} {held : Bool}

theorem read_step (n : Nat) (cs : List Value) (y : DataW H × List MemPlace) (h : DataW.trod enc Tryz.prog w base spare held n 59 cs = some y) : ∃ r : St, cs = stCells r ∧ True := by
  obtain ⟨xs, m, _, _, hl, hx, hf⟩ := DataW.trod_struct Tryz.underlying59 h
  have h3 : cs.length = 3 := by rw [hl]; kernel_rfl
  clear hl
  obtain ⟨c0, c1, c2, rfl⟩ := len3 h3
  have f0 : DataW.trod enc Tryz.prog w base spare held m 9 (([c0, c1, c2].drop 0).take (Tryz.prog.cellsOf 9)) = xs[0]? := hf 0 _ rfl
  have f1 : DataW.trod enc Tryz.prog w base spare held m 9 (([c0, c1, c2].drop 1).take (Tryz.prog.cellsOf 9)) = xs[1]? := hf 1 _ rfl
  have f2 : DataW.trod enc Tryz.prog w base spare held m 3 (([c0, c1, c2].drop 2).take (Tryz.prog.cellsOf 3)) = xs[2]? := hf 2 _ rfl
  have hx3 : xs.length = 3 := by rw [hx]; rfl
  rw [List.getElem?_eq_getElem (by omega)] at f0 f1 f2
  rw [show Tryz.prog.cellsOf 3 = 1 from by kernel_rfl] at f2
  rw [show Tryz.prog.cellsOf 9 = 1 from by kernel_rfl] at f0 f1
  obtain ⟨s0, e0, _, _⟩ := DataW.trod_string Tryz.underlying9 f0
  obtain ⟨s1, e1, _, _⟩ := DataW.trod_string Tryz.underlying9 f1
  obtain ⟨n2, e2, _, _⟩ := DataW.trod_int Tryz.underlying3 f2
  simp at e0 e1 e2
  subst e0 e1 e2
  exact ⟨⟨s0.data.toList, s1.data.toList, n2⟩, by simp only [stCells, OpenPl.strl], trivial⟩
theorem steps_of {A : Option Addr} {n c fuel : Nat} {x : DataW H × List MemPlace} (h : DataW.trod enc Tryz.prog w base spare held fuel 27 (Value.slice A n c).cells.toList = some x) :
    ∃ l : List St, n = l.length ∧ l.length ≤ 9223372036854775807 ∧ Rd w A (l.flatMap stCells) := by
  obtain ⟨l, h1, _, h3, h4, _⟩ := rows_of (sz := 3) (by omega) stCells_len Tryz.underlying27 (by kernel_rfl) read_step h
  exact ⟨l, h1, by unfold maxLen at h3; omega, h4⟩
end
theorem all_sh {st : List UInt8} {fin : List (List UInt8)} {ms : List Cf.Mv} (h1 : st.length ≤ 9223372036854775807) (h2 : ∀ s ∈ fin, s.length ≤ 9223372036854775807) (h3 : ∀ m ∈ ms, OpenPl.MvSh m) : ∀ s ∈ Cf.allF st fin ms, s.length ≤ 9223372036854775807 := fun s h => by
  unfold Cf.allF at h
  rcases List.mem_append.1 h with h | h
  · rcases List.mem_cons.1 h with e | h
    · exact e ▸ h1
    · exact h2 s h
  · obtain ⟨m, hm, h⟩ := List.mem_flatMap.1 h
    simp only [List.mem_cons, List.not_mem_nil, or_false] at h
    rcases h with rfl | rfl
    · exact (h3 m hm).2.1
    · exact (h3 m hm).2.2.1
set_option maxRecDepth 100000 in
theorem contract (H : Type) (enc : TypeId × Value → H) (W : World) (base : Nat) (args : Array Value) (ds gs : List (DataW H)) (before : List MemPlace)
    (hval : ∀ (j : Nat) t v, Tryz.f3.params[j]? = some t → args[j]? = some v → Value.okWide Tryz.prog W .any base t v)
    (hW : DataW.Whole enc Tryz.prog Tryz.f3.params.toList Rows.casesGoSpec.vars false W args.toList ds gs before) (hL : laidMetH Tryz.prog Rows.casesGoRow.laid W) :
    Calls Tryz.prog 3 args W fun e W' => ∃ v, e = .returned v ∧ Rows.casesGoSpec.post enc Tryz.prog Tryz.f3 false true false false W args v W' := by
  have hW' := hW
  obtain ⟨p, q, hA0, hV, rfl, hfz, hnd⟩ := hW
  have hA : DataW.TrodAll enc Tryz.prog W 0 (fun _ => true) true Tryz.f3.params.toList args.toList ds p := hA0
  rw [Tryz.params3] at hA hval
  obtain ⟨v0, vs0, d0, ds0, p0, q0, hargs, rfl, rfl, h0, r0⟩ := trodAll_cons hA
  obtain ⟨v1, vs1, d1, ds1, p1, q1, rfl, rfl, rfl, h1, r1⟩ := trodAll_cons r0
  obtain ⟨v2, vs2, d2, ds2, p2, q2, rfl, rfl, rfl, h2, r2⟩ := trodAll_cons r1
  obtain ⟨v3, vs3, d3, ds3, p3, q3, rfl, rfl, rfl, h3, r3⟩ := trodAll_cons r2
  obtain ⟨v4, vs4, d4, ds4, p4, q4, rfl, rfl, rfl, h4, r4⟩ := trodAll_cons r3
  obtain ⟨rfl, rfl, rfl⟩ := trodAll_nil r4
  obtain rfl : args = #[v0, v1, v2, v3, v4] := by cases args; simp_all
  obtain ⟨rfl, rfl⟩ := trodVars_none hV
  obtain ⟨A3, n3, c3, rfl⟩ := okWide_slice Tryz.underlying27 (hval 3 27 v3 rfl rfl)
  have k0 := h0
  have k2 := h2
  have k3 := h3
  have lt0 : ∀ x ∈ p0, x.block < W.heap.size := by obtain ⟨m, hm⟩ := k0; exact DataW.trod_lt m _ _ _ hm
  have lt2 : ∀ x ∈ p2, x.block < W.heap.size := by obtain ⟨m, hm⟩ := k2; exact DataW.trod_lt m _ _ _ hm
  have lt3 : ∀ x ∈ p3, x.block < W.heap.size := by obtain ⟨m, hm⟩ := k3; exact DataW.trod_lt m _ _ _ hm
  obtain ⟨fuel3, hf3⟩ := h3
  obtain ⟨xs, rfl, hxl, hXs⟩ := steps_of hf3
  obtain ⟨offs, hol, AO, co, AH, ch, rfl, hD⟩ := Open.cal_of (hval 2 26 v2 rfl rfl) h2
  obtain ⟨a1, rfl, rfl, rfl, w1⟩ := open_int Tryz.underlying3 (hval 1 3 v1 rfl rfl) h1
  obtain ⟨a4, rfl, rfl, rfl, w4⟩ := open_int Tryz.underlying3 (hval 4 3 v4 rfl rfl) h4
  obtain ⟨A, hE⟩ := Err.errs_of_laid hL
  have hcall : Calls Tryz.prog 3 #[v0, .int .i64 a1, .agg #[.slice AO offs.length co, .slice AH hol.length ch], .slice A3 xs.length c3, .int .i64 a4] W fun e w' => e = .returned (.bool true) ∧ Below W.heap.size W w' := by
    rcases OpenPl.plan_at (hval 0 22 v0 rfl rfl) h0 with rfl | ⟨b, o, st, fin, ms, FA, fc, MA, mc, rfl, hP, s1, s2, s3⟩
    · exact go_nil a1 _ offs hol AO co AH ch rfl xs A3 c3 a4 W
    · exact go_walk b o st fin ms FA fc MA mc a1 offs hol AO co AH ch xs A3 c3 a4 W A (all_sh s1 s2 s3) (fun m hm => ⟨(s3 m hm).1, (s3 m hm).2.2.2⟩) hP hD hXs hxl hE
  clear hA0
  simp only [List.append_nil] at hW'
  refine hcall.mono fun e W' ⟨he, bel⟩ => ?_
  subst he
  exact ⟨_, rfl, _, _, _, [], _, [], hW', trodAll_mk1 (shut_bool Tryz.underlying4 _), (trodAll_cons_mk (Below.trod laidOut (by kernel_rfl) (of_decide_eq_true (by kernel_rfl)) k0 bel lt0) (trodAll_cons_mk (shut_int Tryz.underlying3 w1) (trodAll_cons_mk (Below.trod laidOut (by kernel_rfl) (of_decide_eq_true (by kernel_rfl)) k2 bel lt2) (trodAll_cons_mk (Below.trod laidOut (by kernel_rfl) (of_decide_eq_true (by kernel_rfl)) k3 bel lt3) (trodAll_cons_mk (shut_int Tryz.underlying3 w4) trodAll_mk0))))), rfl, bel.frame _, fun h => by cases h⟩
-- WITNESS args: .pointer none, .int .i64 0, .agg #[.slice none 0 0, .slice none 0 0], .slice none 0 0, .int .i64 0
-- WITNESS data: .nil, .lit (.int .i64 0), .agg [.nil, .nil], .nil, .lit (.int .i64 0)
-- PARAM types: 22, 3, 26, 27, 3
end Go.Proofs.YtjfiodknjchngaaGreatDoor.CasesGo

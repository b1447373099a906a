/- The day that is due: the program's Due and the document's. The day that is due: the walks of the program's Due and the document's. The day that is due: the document's Due. -/
import Derived.Test.YtjfiodknjchngaaGreatDoorCdRoll
import Derived.Test.YtjfiodknjchngaaGreatDoorMonths
namespace Go.Proofs.YtjfiodknjchngaaGreatDoor.CdM
open Go.RowKit Mem Cal CdP MapSet Solve CdR Day Nest RefDay Err

/-- what both sides come to, months later -/
def MGood (n k r : Int) : Prop := ∃ y m d, Vld y m d ∧ num y m d = n ∧ 12 ≤ mon y m k ∧ mon y m k ≤ 119999 ∧ r = monDay y m d k
def MBad (n k : Int) : Prop := (n < 1 ∨ 3652059 < n) ∨ ∃ y m d, Vld y m d ∧ num y m d = n ∧ (mon y m k < 12 ∨ 119999 < mon y m k)
theorem mcases (n k : Int) : (∃ r, MGood n k r) ∨ MBad n k := by
  by_cases h : 1 ≤ n ∧ n ≤ 3652059
  · obtain ⟨y, m, d, hv, hn⟩ := date_of n h.1 h.2
    by_cases c : 12 ≤ mon y m k ∧ mon y m k ≤ 119999
    · exact .inl ⟨_, y, m, d, hv, hn, c.1, c.2, rfl⟩
    · exact .inr (.inr ⟨y, m, d, hv, hn, by omega⟩)
  · exact .inr (.inl (by omega))
theorem MGood.same {n k r r' : Int} (h : MGood n k r) (h' : MGood n k r') : r = r' := by
  obtain ⟨y, m, d, hv, hn, _, _, rfl⟩ := h
  obtain ⟨y', m', d', hv', hn', _, _, rfl⟩ := h'
  obtain ⟨rfl, rfl, rfl⟩ := Vld.unique hv hv' (hn.trans hn'.symm)
  rfl
theorem MGood.not {n k r : Int} (h : MGood n k r) (h' : MBad n k) : False := by
  obtain ⟨y, m, d, hv, hn, h1, h2, rfl⟩ := h
  rcases h' with h' | ⟨y', m', d', hv', hn', h'⟩
  · have := hv.num_bd; omega
  · obtain ⟨rfl, rfl, rfl⟩ := Vld.unique hv hv' (hn.trans hn'.symm)
    omega
def MonP (d k : Int) (o : Int × Int) : Prop := (∃ r, MGood d k r ∧ o = (r, 0)) ∨ (MBad d k ∧ o = (0, 4))
theorem MonP.same {d k : Int} {o o' : Int × Int} (h : MonP d k o) (h' : MonP d k o') : o = o' := by
  rcases h with ⟨r, a, rfl⟩ | ⟨a, rfl⟩ <;> rcases h' with ⟨r', a', rfl⟩ | ⟨a', rfl⟩
  · rw [a.same a']
  · exact (a.not a').elim
  · exact (a'.not a).elim
  · rfl
theorem MonP.code {d k : Int} {o : Int × Int} (h : MonP d k o) : CodeOk o.2 := by
  rcases h with ⟨r, a, rfl⟩ | ⟨a, rfl⟩ <;> simp [CodeOk]
theorem pmonths_any (n k : Int) (A : Nat → Addr) (w : World) (hE : E3 w A) : Calls Tryz.prog 84 #[.int .i64 n, .int .i64 k] w (PPost A (MonP n k) w) := by
  rcases mcases n k with ⟨r, hg⟩ | hb
  · have hg' := hg
    obtain ⟨y, m, d, hv, rfl, h1, h2, rfl⟩ := hg
    exact (months_yes y m d k hv h1 h2 w).mono fun e w' ⟨he, hw⟩ => ⟨(monDay y m d k, 0), .inl ⟨_, hg', rfl⟩, he, hw ▸ Below.refl _ _⟩
  · have hb' := hb
    rcases hb with h | ⟨y, m, d, hv, rfl, h⟩
    · exact (months_bad n k h _ w hE.v3).mono fun e w' ⟨he, q, hw⟩ => ⟨(0, 4), .inr ⟨hb', rfl⟩, by rw [he]; rfl, hw ▸ ext_drewN w q⟩
    · exact (months_err y m d k hv h _ w hE.v3).mono fun e w' ⟨he, q, hw⟩ => ⟨(0, 4), .inr ⟨hb', rfl⟩, by rw [he]; rfl, hw ▸ ext_drewN w q⟩
theorem rmonths_any (n k : Int) (w : World) : Calls Tryz.prog 75 #[.int .i64 n, .int .i64 k] w (RPost (MonP n k) w) := by
  rcases mcases n k with ⟨r, hg⟩ | hb
  · have hg' := hg
    obtain ⟨y, m, d, hv, rfl, h1, h2, rfl⟩ := hg
    exact (monthson_yes y m d k hv h1 h2 w).mono fun e w' ⟨he, hw⟩ => ⟨(monDay y m d k, 0), .inl ⟨_, hg', rfl⟩, he, hw⟩
  · have hb' := hb
    rcases hb with h | ⟨y, m, d, hv, rfl, h⟩
    · exact (monthson_bad n k h w).mono fun e w' ⟨he, hw⟩ => ⟨(0, 4), .inr ⟨hb', rfl⟩, he, hw⟩
    · exact (monthson_err y m d k hv h w).mono fun e w' ⟨he, hw⟩ => ⟨(0, 4), .inr ⟨hb', rfl⟩, he, hw⟩
/-- ahead of the rolling -/
def MidP (c : Cd) (d n u : Int) (o : Int × Int) : Prop :=
  (u = 0 ∧ o = (d + n, 0)) ∨ (u = 2 ∧ o = (d + 7 * n, 0)) ∨ (u = 1 ∧ AddP c d n o) ∨ (u = 3 ∧ MonP d n o) ∨ (u = 4 ∧ MonP d (12 * n) o)
theorem MidP.same {c : Cd} {d n u : Int} {o o' : Int × Int} (h : MidP c d n u o) (h' : MidP c d n u o') : o = o' := by
  rcases h with ⟨a, rfl⟩ | ⟨a, rfl⟩ | ⟨a, b⟩ | ⟨a, b⟩ | ⟨a, b⟩ <;> rcases h' with ⟨a', rfl⟩ | ⟨a', rfl⟩ | ⟨a', b'⟩ | ⟨a', b'⟩ | ⟨a', b'⟩ <;>
    first | rfl | (exfalso; omega) | exact AddP.same b b' | exact MonP.same b b'
theorem MidP.code {c : Cd} {d n u : Int} {o : Int × Int} (h : MidP c d n u o) : CodeOk o.2 := by
  rcases h with ⟨a, rfl⟩ | ⟨a, rfl⟩ | ⟨a, b⟩ | ⟨a, b⟩ | ⟨a, b⟩
  · simp [CodeOk]
  · simp [CodeOk]
  · exact b.code
  · exact b.code
  · exact b.code
def KindBad (u how : Int) : Prop := u < 0 ∨ 4 < u ∨ how < 0 ∨ 2 < how
def DueP (c : Cd) (d n u how : Int) (o : Int × Int) : Prop :=
  ((n < 0 ∨ 100000 < n) ∧ o = (0, 2)) ∨ ((0 ≤ n ∧ n ≤ 100000) ∧ KindBad u how ∧ o = (0, 9)) ∨ ((0 ≤ n ∧ n ≤ 100000) ∧ ¬ KindBad u how ∧ ¬ Gd d ∧ o = (0, 4)) ∨
  ((0 ≤ n ∧ n ≤ 100000) ∧ ¬ KindBad u how ∧ Gd d ∧ ∃ m, MidP c d n u m ∧ (((m.2 ≠ 0 ∨ ¬ Gd m.1) ∧ o = (0, 4)) ∨ (m.2 = 0 ∧ Gd m.1 ∧ RollP c m.1 how o)))
theorem DueP.same {c : Cd} {d n u how : Int} {o o' : Int × Int} (h : DueP c d n u how o) (h' : DueP c d n u how o') : o = o' := by
  rcases h with ⟨a, rfl⟩ | ⟨a, b, rfl⟩ | ⟨a, b, g, rfl⟩ | ⟨a, b, g, m, hm, hc⟩ <;> rcases h' with ⟨a', rfl⟩ | ⟨a', b', rfl⟩ | ⟨a', b', g', rfl⟩ | ⟨a', b', g', m', hm', hc'⟩ <;>
    first | rfl | (exfalso; omega) | (exfalso; exact b b') | (exfalso; exact b' b) | (exfalso; exact g g') | (exfalso; exact g' g) | skip
  obtain rfl := hm.same hm'
  rcases hc with ⟨x, rfl⟩ | ⟨x, y, z⟩ <;> rcases hc' with ⟨x', rfl⟩ | ⟨x', y', z'⟩
  · rfl
  · exact (x.elim (fun k => k x') (fun k => k y')).elim
  · exact (x'.elim (fun k => k x) (fun k => k y)).elim
  · exact z.same z'
theorem DueP.code {c : Cd} {d n u how : Int} {o : Int × Int} (h : DueP c d n u how o) : CodeOk o.2 := by
  rcases h with ⟨a, rfl⟩ | ⟨a, b, rfl⟩ | ⟨a, b, g, rfl⟩ | ⟨a, b, g, m, hm, hc⟩
  · simp [CodeOk]
  · simp [CodeOk]
  · simp [CodeOk]
  · rcases hc with ⟨x, rfl⟩ | ⟨x, y, z⟩
    · simp [CodeOk]
    · exact z.code
/-- which guards a term's kind falls at -/
theorem kind_cases (u how : Int) : (u < 0 ∨ (¬ u < 0 ∧ 4 < u) ∨ (¬ u < 0 ∧ ¬ 4 < u ∧ how < 0) ∨ (¬ u < 0 ∧ ¬ 4 < u ∧ ¬ how < 0 ∧ 2 < how)) ∨ (¬ u < 0 ∧ ¬ 4 < u ∧ ¬ how < 0 ∧ ¬ 2 < how) := by omega
def VPost (A : Nat → Addr) (k : Int) (w : World) (e : Ending) (w' : World) : Prop := e = .returned (errC A k) ∧ Below w.heap.size w w'
set_option maxHeartbeats 1000000 in
theorem valid_two (n u how : Int) (hn : n < 0 ∨ 100000 < n) (A : Nat → Addr) (w : World) (hE : E3 w A) :
    Calls Tryz.prog 82 #[.agg #[.int .i64 n, .int .i64 u, .int .i64 how]] w (VPost A 2 w) := by
  have hx := ext_alloc w (.cells #[.int .i64 n, .int .i64 u, .int .i64 how] 104)
  have h1 := (hE.below hx).v1
  have HX := Lib.hid hx
  have HA := Lib.hid (errC_two A)
  unfold sentV at h1
  clear hx hE
  by_cases c1 : n < 0
  · have c1' : decide (n < 0) = true := by simp [c1]
    clear hn c1
    go_enter Tryz.func82, Tryz.ntmps82
    go_wp2_with fail
    go_ret
    exact ⟨rfl, HX.out⟩
  · have c1' : decide (n < 0) = false := by simp; omega
    have c2' : decide (100000 < n) = true := by simp; omega
    clear hn c1
    go_enter Tryz.func82, Tryz.ntmps82
    go_wp2_with fail
    go_ret
    exact ⟨rfl, HX.out⟩
set_option maxHeartbeats 2000000 in
theorem valid_kind (n u how : Int) (hn : 0 ≤ n ∧ n ≤ 100000) (A : Nat → Addr) (w : World) (hE : E3 w A) :
    Calls Tryz.prog 82 #[.agg #[.int .i64 n, .int .i64 u, .int .i64 how]] w fun e w' => (KindBad u how → VPost A 9 w e w') ∧ (¬ KindBad u how → VPost A 0 w e w') := by
  have hx := ext_alloc w (.cells #[.int .i64 n, .int .i64 u, .int .i64 how] 104)
  have h8 := (hE.below hx).v8
  have HX := Lib.hid hx
  unfold sentV at h8
  clear hx hE
  have c1' : decide (n < 0) = false := by simp; omega
  have c2' : decide (100000 < n) = false := by simp; omega
  clear hn
  rcases kind_cases u how with (c | c | c | c) | c
  · have HK := Lib.hid (show KindBad u how by unfold KindBad; omega)
    have k0 : decide (u < 0) = true := by simp; omega
    clear c
    go_enter Tryz.func82, Tryz.ntmps82
    go_wp2_with fail
    go_ret
    exact ⟨fun _ => ⟨rfl, HX.out⟩, fun h => absurd HK.out h⟩
  · have HK := Lib.hid (show KindBad u how by unfold KindBad; omega)
    have k0 : decide (u < 0) = false := by simp; omega
    have k1 : decide (4 < u) = true := by simp; omega
    clear c
    go_enter Tryz.func82, Tryz.ntmps82
    go_wp2_with fail
    go_ret
    exact ⟨fun _ => ⟨rfl, HX.out⟩, fun h => absurd HK.out h⟩
  · have HK := Lib.hid (show KindBad u how by unfold KindBad; omega)
    have k0 : decide (u < 0) = false := by simp; omega
    have k1 : decide (4 < u) = false := by simp; omega
    have k2 : decide (how < 0) = true := by simp; omega
    clear c
    go_enter Tryz.func82, Tryz.ntmps82
    go_wp2_with fail
    go_ret
    exact ⟨fun _ => ⟨rfl, HX.out⟩, fun h => absurd HK.out h⟩
  · have HK := Lib.hid (show KindBad u how by unfold KindBad; omega)
    have k0 : decide (u < 0) = false := by simp; omega
    have k1 : decide (4 < u) = false := by simp; omega
    have k2 : decide (how < 0) = false := by simp; omega
    have k3 : decide (2 < how) = true := by simp; omega
    clear c
    go_enter Tryz.func82, Tryz.ntmps82
    go_wp2_with fail
    go_ret
    exact ⟨fun _ => ⟨rfl, HX.out⟩, fun h => absurd HK.out h⟩
  · have HK := Lib.hid (show ¬ KindBad u how by unfold KindBad; omega)
    have k0 : decide (u < 0) = false := by simp; omega
    have k1 : decide (4 < u) = false := by simp; omega
    have k2 : decide (how < 0) = false := by simp; omega
    have k3 : decide (2 < how) = false := by simp; omega
    clear c
    go_enter Tryz.func82, Tryz.ntmps82
    go_wp2_with fail
    go_ret
    exact ⟨fun h => absurd h HK.out, fun _ => ⟨rfl, HX.out⟩⟩
end Go.Proofs.YtjfiodknjchngaaGreatDoor.CdM
namespace Go.Proofs.YtjfiodknjchngaaGreatDoor.CdM
open Go.RowKit Mem Cal CdP MapSet Solve CdR Day Nest RefDay Err

set_option maxRecDepth 100000 in
set_option maxHeartbeats 4000000 in
theorem pdue_good (c : Cd) (ok : CdOk c) (b o : Nat) (H : Option Addr) (hc : Nat) (d n u how : Int) (hn : 0 ≤ n ∧ n ≤ 100000) (hk : ¬ KindBad u how) (hg : Gd d) (A : Nat → Addr) (w : World) (h : CdA w b o c H hc) (hE : E3 w A) :
    Calls Tryz.prog 51 #[.pointer (some ⟨b, o, none⟩), .int .i64 d, .agg #[.int .i64 n, .int .i64 u, .int .i64 how]] w (PPost A (DueP c d n u how) w) := by
  have hx := ext_alloc w (.cells #[.int .i64 n, .int .i64 u, .int .i64 how] 104)
  have HX := Lib.hid hx
  have HC := Lib.hid (h.ext hx)
  have HE := Lib.hid (hE.below hx)
  have HT := Lib.hid (Blk.new w 104 [.int .i64 n, .int .i64 u, .int .i64 how])
  clear hx h hE
  have HV := Lib.hid (valid_kind n u how hn A _ HE.out)
  have HK := Lib.hid hk
  have HN := Lib.hid hn
  have HG := Lib.hid hg
  obtain ⟨g1, g2⟩ := hg
  obtain ⟨n1, n2⟩ := hn
  have HGo := Lib.hid (fun w => good_yes d g1 g2 w)
  have hcase : u = 0 ∨ u = 1 ∨ u = 2 ∨ u = 3 ∨ u = 4 := by unfold KindBad at hk; omega
  clear hk
  rcases hcase with rfl | rfl | rfl | rfl | rfl
  · go_enter Tryz.func51, Tryz.ntmps51
    go_wp2_with fail
    refine HV.out.mono ?_
    rintro e w1 hv
    obtain ⟨rfl, hb⟩ := hv.2 HK.out
    have HB1 := Lib.hid (ext_trans HX.out hb)
    have HC1 := Lib.hid (HC.out.ext hb)
    have HE1 := Lib.hid (HE.out.below hb)
    have HT1 := Lib.hid (Sol.blk_ext HT.out hb)
    have t0 := HT1.out.cell 0 rfl
    have t1 := HT1.out.cell 1 rfl
    have t2 := HT1.out.cell 2 rfl
    rw [errC_zero]
    clear hv hb HX HC HE HT
    go_wp2_with fail
    refine (HGo.out _).mono ?_
    rintro e w' ⟨rfl, rfl⟩
    by_cases hgx : Gd (d + n)
    · have HGx := Lib.hid hgx
      have HGo2 := Lib.hid (fun w => good_yes (d + n) hgx.1 hgx.2 w)
      clear hgx
      go_wp2_with fail
      refine (HGo2.out _).mono ?_
      rintro e w' ⟨rfl, rfl⟩
      go_wp2_with fail
      refine (proll_any c ok b o H hc (d + n) how A _ HC1.out HE1.out).mono ?_
      rintro e w4 ⟨oo, ho, rfl, hb⟩
      have HO := Lib.hid ho
      have HB4 := Lib.hid (ext_trans HB1.out hb)
      clear ho hb
      go_wp2_with fail
      go_ret2
      exact ⟨oo, .inr (.inr (.inr ⟨HN.out, HK.out, HG.out, (d + n, 0), .inl ⟨rfl, rfl⟩, .inr ⟨rfl, HGx.out, HO.out⟩⟩)), rfl, HB4.out⟩
    · have HGx := Lib.hid hgx
      have HGo2 := Lib.hid (fun w => good_no (d + n) (by unfold Gd at hgx; omega) w)
      have h3 := HE1.out.v3
      unfold sentV at h3
      clear hgx
      go_wp2_with fail
      refine (HGo2.out _).mono ?_
      rintro e w' ⟨rfl, rfl⟩
      go_wp2_with fail
      go_quiet (fail)
      go_wp2_with fail
      go_ret2
      exact ⟨(0, 4), .inr (.inr (.inr ⟨HN.out, HK.out, HG.out, (d + n, 0), .inl ⟨rfl, rfl⟩, .inl ⟨.inr HGx.out, rfl⟩⟩)), rfl, ext_trans HB1.out (ext_drewN _ _)⟩
  · go_enter Tryz.func51, Tryz.ntmps51
    go_wp2_with fail
    refine HV.out.mono ?_
    rintro e w1 hv
    obtain ⟨rfl, hb⟩ := hv.2 HK.out
    have HB1 := Lib.hid (ext_trans HX.out hb)
    have HC1 := Lib.hid (HC.out.ext hb)
    have HE1 := Lib.hid (HE.out.below hb)
    have HT1 := Lib.hid (Sol.blk_ext HT.out hb)
    have t0 := HT1.out.cell 0 rfl
    have t1 := HT1.out.cell 1 rfl
    have t2 := HT1.out.cell 2 rfl
    rw [errC_zero]
    clear hv hb HX HC HE HT
    go_wp2_with fail
    refine (HGo.out _).mono ?_
    rintro e w' ⟨rfl, rfl⟩
    go_wp2_with fail
    refine (padd_any c ok b o H hc d n A _ HC1.out HE1.out).mono ?_
    rintro e w2 ⟨m, hm, rfl, hb⟩
    obtain ⟨x, k⟩ := m
    have HM := Lib.hid hm
    have HB2 := Lib.hid (ext_trans HB1.out hb)
    have HC2 := Lib.hid (HC1.out.ext hb)
    have HE2 := Lib.hid (HE1.out.below hb)
    have HT2 := Lib.hid (Sol.blk_ext HT1.out hb)
    clear t0 t1 t2
    have t0 := HT2.out.cell 0 rfl
    have t1 := HT2.out.cell 1 rfl
    have t2 := HT2.out.cell 2 rfl
    clear hm hb
    by_cases hk0 : k = 0
    · subst hk0
      rw [show errC A ((x, (0 : Int)) : Int × Int).2 = .nilIface from rfl]
      by_cases hgx : Gd (x)
      · have HGx := Lib.hid hgx
        have HGo2 := Lib.hid (fun w => good_yes (x) hgx.1 hgx.2 w)
        clear hgx
        go_wp2_with fail
        refine (HGo2.out _).mono ?_
        rintro e w' ⟨rfl, rfl⟩
        go_wp2_with fail
        refine (proll_any c ok b o H hc (x) how A _ HC2.out HE2.out).mono ?_
        rintro e w4 ⟨oo, ho, rfl, hb⟩
        have HO := Lib.hid ho
        have HB4 := Lib.hid (ext_trans HB2.out hb)
        clear ho hb
        go_wp2_with fail
        go_ret2
        exact ⟨oo, .inr (.inr (.inr ⟨HN.out, HK.out, HG.out, (x, 0), .inr (.inr (.inl ⟨rfl, HM.out⟩)), .inr ⟨rfl, HGx.out, HO.out⟩⟩)), rfl, HB4.out⟩
      · have HGx := Lib.hid hgx
        have HGo2 := Lib.hid (fun w => good_no (x) (by unfold Gd at hgx; omega) w)
        have h3 := HE2.out.v3
        unfold sentV at h3
        clear hgx
        go_wp2_with fail
        refine (HGo2.out _).mono ?_
        rintro e w' ⟨rfl, rfl⟩
        go_wp2_with fail
        go_quiet (fail)
        go_wp2_with fail
        go_ret2
        exact ⟨(0, 4), .inr (.inr (.inr ⟨HN.out, HK.out, HG.out, (x, 0), .inr (.inr (.inl ⟨rfl, HM.out⟩)), .inl ⟨.inr HGx.out, rfl⟩⟩)), rfl, ext_trans HB2.out (ext_drewN _ _)⟩
    · have he1 : errC A ((x, k) : Int × Int).2 = errV (A (k - 1).toNat) := by unfold errC; rw [if_neg hk0]
      rw [he1]
      have HK0 := Lib.hid hk0
      clear he1 hk0
      generalize A (k - 1).toNat = ea
      unfold errV
      have h3 := HE2.out.v3
      unfold sentV at h3
      go_wp2_with fail
      go_quiet (fail)
      go_wp2_with fail
      go_ret2
      exact ⟨(0, 4), .inr (.inr (.inr ⟨HN.out, HK.out, HG.out, (x, k), .inr (.inr (.inl ⟨rfl, HM.out⟩)), .inl ⟨.inl HK0.out, rfl⟩⟩)), rfl, ext_trans HB2.out (ext_drewN _ _)⟩
  · go_enter Tryz.func51, Tryz.ntmps51
    go_wp2_with fail
    refine HV.out.mono ?_
    rintro e w1 hv
    obtain ⟨rfl, hb⟩ := hv.2 HK.out
    have HB1 := Lib.hid (ext_trans HX.out hb)
    have HC1 := Lib.hid (HC.out.ext hb)
    have HE1 := Lib.hid (HE.out.below hb)
    have HT1 := Lib.hid (Sol.blk_ext HT.out hb)
    have t0 := HT1.out.cell 0 rfl
    have t1 := HT1.out.cell 1 rfl
    have t2 := HT1.out.cell 2 rfl
    rw [errC_zero]
    clear hv hb HX HC HE HT
    go_wp2_with fail
    refine (HGo.out _).mono ?_
    rintro e w' ⟨rfl, rfl⟩
    by_cases hgx : Gd (d + 7 * n)
    · have HGx := Lib.hid hgx
      have HGo2 := Lib.hid (fun w => good_yes (d + 7 * n) hgx.1 hgx.2 w)
      clear hgx
      go_wp2_with fail
      refine (HGo2.out _).mono ?_
      rintro e w' ⟨rfl, rfl⟩
      go_wp2_with fail
      refine (proll_any c ok b o H hc (d + 7 * n) how A _ HC1.out HE1.out).mono ?_
      rintro e w4 ⟨oo, ho, rfl, hb⟩
      have HO := Lib.hid ho
      have HB4 := Lib.hid (ext_trans HB1.out hb)
      clear ho hb
      go_wp2_with fail
      go_ret2
      exact ⟨oo, .inr (.inr (.inr ⟨HN.out, HK.out, HG.out, (d + 7 * n, 0), .inr (.inl ⟨rfl, rfl⟩), .inr ⟨rfl, HGx.out, HO.out⟩⟩)), rfl, HB4.out⟩
    · have HGx := Lib.hid hgx
      have HGo2 := Lib.hid (fun w => good_no (d + 7 * n) (by unfold Gd at hgx; omega) w)
      have h3 := HE1.out.v3
      unfold sentV at h3
      clear hgx
      go_wp2_with fail
      refine (HGo2.out _).mono ?_
      rintro e w' ⟨rfl, rfl⟩
      go_wp2_with fail
      go_quiet (fail)
      go_wp2_with fail
      go_ret2
      exact ⟨(0, 4), .inr (.inr (.inr ⟨HN.out, HK.out, HG.out, (d + 7 * n, 0), .inr (.inl ⟨rfl, rfl⟩), .inl ⟨.inr HGx.out, rfl⟩⟩)), rfl, ext_trans HB1.out (ext_drewN _ _)⟩
  · go_enter Tryz.func51, Tryz.ntmps51
    go_wp2_with fail
    refine HV.out.mono ?_
    rintro e w1 hv
    obtain ⟨rfl, hb⟩ := hv.2 HK.out
    have HB1 := Lib.hid (ext_trans HX.out hb)
    have HC1 := Lib.hid (HC.out.ext hb)
    have HE1 := Lib.hid (HE.out.below hb)
    have HT1 := Lib.hid (Sol.blk_ext HT.out hb)
    have t0 := HT1.out.cell 0 rfl
    have t1 := HT1.out.cell 1 rfl
    have t2 := HT1.out.cell 2 rfl
    rw [errC_zero]
    clear hv hb HX HC HE HT
    go_wp2_with fail
    refine (HGo.out _).mono ?_
    rintro e w' ⟨rfl, rfl⟩
    go_wp2_with fail
    refine (pmonths_any d n A _ HE1.out).mono ?_
    rintro e w2 ⟨m, hm, rfl, hb⟩
    obtain ⟨x, k⟩ := m
    have HM := Lib.hid hm
    have HB2 := Lib.hid (ext_trans HB1.out hb)
    have HC2 := Lib.hid (HC1.out.ext hb)
    have HE2 := Lib.hid (HE1.out.below hb)
    have HT2 := Lib.hid (Sol.blk_ext HT1.out hb)
    clear t0 t1 t2
    have t0 := HT2.out.cell 0 rfl
    have t1 := HT2.out.cell 1 rfl
    have t2 := HT2.out.cell 2 rfl
    clear hm hb
    by_cases hk0 : k = 0
    · subst hk0
      rw [show errC A ((x, (0 : Int)) : Int × Int).2 = .nilIface from rfl]
      by_cases hgx : Gd (x)
      · have HGx := Lib.hid hgx
        have HGo2 := Lib.hid (fun w => good_yes (x) hgx.1 hgx.2 w)
        clear hgx
        go_wp2_with fail
        refine (HGo2.out _).mono ?_
        rintro e w' ⟨rfl, rfl⟩
        go_wp2_with fail
        refine (proll_any c ok b o H hc (x) how A _ HC2.out HE2.out).mono ?_
        rintro e w4 ⟨oo, ho, rfl, hb⟩
        have HO := Lib.hid ho
        have HB4 := Lib.hid (ext_trans HB2.out hb)
        clear ho hb
        go_wp2_with fail
        go_ret2
        exact ⟨oo, .inr (.inr (.inr ⟨HN.out, HK.out, HG.out, (x, 0), .inr (.inr (.inr (.inl ⟨rfl, HM.out⟩))), .inr ⟨rfl, HGx.out, HO.out⟩⟩)), rfl, HB4.out⟩
      · have HGx := Lib.hid hgx
        have HGo2 := Lib.hid (fun w => good_no (x) (by unfold Gd at hgx; omega) w)
        have h3 := HE2.out.v3
        unfold sentV at h3
        clear hgx
        go_wp2_with fail
        refine (HGo2.out _).mono ?_
        rintro e w' ⟨rfl, rfl⟩
        go_wp2_with fail
        go_quiet (fail)
        go_wp2_with fail
        go_ret2
        exact ⟨(0, 4), .inr (.inr (.inr ⟨HN.out, HK.out, HG.out, (x, 0), .inr (.inr (.inr (.inl ⟨rfl, HM.out⟩))), .inl ⟨.inr HGx.out, rfl⟩⟩)), rfl, ext_trans HB2.out (ext_drewN _ _)⟩
    · have he1 : errC A ((x, k) : Int × Int).2 = errV (A (k - 1).toNat) := by unfold errC; rw [if_neg hk0]
      rw [he1]
      have HK0 := Lib.hid hk0
      clear he1 hk0
      generalize A (k - 1).toNat = ea
      unfold errV
      have h3 := HE2.out.v3
      unfold sentV at h3
      go_wp2_with fail
      go_quiet (fail)
      go_wp2_with fail
      go_ret2
      exact ⟨(0, 4), .inr (.inr (.inr ⟨HN.out, HK.out, HG.out, (x, k), .inr (.inr (.inr (.inl ⟨rfl, HM.out⟩))), .inl ⟨.inl HK0.out, rfl⟩⟩)), rfl, ext_trans HB2.out (ext_drewN _ _)⟩
  · go_enter Tryz.func51, Tryz.ntmps51
    go_wp2_with fail
    refine HV.out.mono ?_
    rintro e w1 hv
    obtain ⟨rfl, hb⟩ := hv.2 HK.out
    have HB1 := Lib.hid (ext_trans HX.out hb)
    have HC1 := Lib.hid (HC.out.ext hb)
    have HE1 := Lib.hid (HE.out.below hb)
    have HT1 := Lib.hid (Sol.blk_ext HT.out hb)
    have t0 := HT1.out.cell 0 rfl
    have t1 := HT1.out.cell 1 rfl
    have t2 := HT1.out.cell 2 rfl
    rw [errC_zero]
    clear hv hb HX HC HE HT
    go_wp2_with fail
    refine (HGo.out _).mono ?_
    rintro e w' ⟨rfl, rfl⟩
    go_wp2_with fail
    refine (pmonths_any d (12 * n) A _ HE1.out).mono ?_
    rintro e w2 ⟨m, hm, rfl, hb⟩
    obtain ⟨x, k⟩ := m
    have HM := Lib.hid hm
    have HB2 := Lib.hid (ext_trans HB1.out hb)
    have HC2 := Lib.hid (HC1.out.ext hb)
    have HE2 := Lib.hid (HE1.out.below hb)
    have HT2 := Lib.hid (Sol.blk_ext HT1.out hb)
    clear t0 t1 t2
    have t0 := HT2.out.cell 0 rfl
    have t1 := HT2.out.cell 1 rfl
    have t2 := HT2.out.cell 2 rfl
    clear hm hb
    by_cases hk0 : k = 0
    · subst hk0
      rw [show errC A ((x, (0 : Int)) : Int × Int).2 = .nilIface from rfl]
      by_cases hgx : Gd (x)
      · have HGx := Lib.hid hgx
        have HGo2 := Lib.hid (fun w => good_yes (x) hgx.1 hgx.2 w)
        clear hgx
        go_wp2_with fail
        refine (HGo2.out _).mono ?_
        rintro e w' ⟨rfl, rfl⟩
        go_wp2_with fail
        refine (proll_any c ok b o H hc (x) how A _ HC2.out HE2.out).mono ?_
        rintro e w4 ⟨oo, ho, rfl, hb⟩
        have HO := Lib.hid ho
        have HB4 := Lib.hid (ext_trans HB2.out hb)
        clear ho hb
        go_wp2_with fail
        go_ret2
        exact ⟨oo, .inr (.inr (.inr ⟨HN.out, HK.out, HG.out, (x, 0), .inr (.inr (.inr (.inr ⟨rfl, HM.out⟩))), .inr ⟨rfl, HGx.out, HO.out⟩⟩)), rfl, HB4.out⟩
      · have HGx := Lib.hid hgx
        have HGo2 := Lib.hid (fun w => good_no (x) (by unfold Gd at hgx; omega) w)
        have h3 := HE2.out.v3
        unfold sentV at h3
        clear hgx
        go_wp2_with fail
        refine (HGo2.out _).mono ?_
        rintro e w' ⟨rfl, rfl⟩
        go_wp2_with fail
        go_quiet (fail)
        go_wp2_with fail
        go_ret2
        exact ⟨(0, 4), .inr (.inr (.inr ⟨HN.out, HK.out, HG.out, (x, 0), .inr (.inr (.inr (.inr ⟨rfl, HM.out⟩))), .inl ⟨.inr HGx.out, rfl⟩⟩)), rfl, ext_trans HB2.out (ext_drewN _ _)⟩
    · have he1 : errC A ((x, k) : Int × Int).2 = errV (A (k - 1).toNat) := by unfold errC; rw [if_neg hk0]
      rw [he1]
      have HK0 := Lib.hid hk0
      clear he1 hk0
      generalize A (k - 1).toNat = ea
      unfold errV
      have h3 := HE2.out.v3
      unfold sentV at h3
      go_wp2_with fail
      go_quiet (fail)
      go_wp2_with fail
      go_ret2
      exact ⟨(0, 4), .inr (.inr (.inr ⟨HN.out, HK.out, HG.out, (x, k), .inr (.inr (.inr (.inr ⟨rfl, HM.out⟩))), .inl ⟨.inl HK0.out, rfl⟩⟩)), rfl, ext_trans HB2.out (ext_drewN _ _)⟩
set_option maxRecDepth 100000 in
set_option maxHeartbeats 2000000 in
theorem pdue_any (c : Cd) (ok : CdOk c) (b o : Nat) (H : Option Addr) (hc : Nat) (d n u how : Int) (A : Nat → Addr) (w : World) (h : CdA w b o c H hc) (hE : E3 w A) :
    Calls Tryz.prog 51 #[.pointer (some ⟨b, o, none⟩), .int .i64 d, .agg #[.int .i64 n, .int .i64 u, .int .i64 how]] w (PPost A (DueP c d n u how) w) := by
  by_cases hn : n < 0 ∨ 100000 < n
  · have HN := Lib.hid hn
    have hx := ext_alloc w (.cells #[.int .i64 n, .int .i64 u, .int .i64 how] 104)
    have HX := Lib.hid hx
    have HC := Lib.hid (h.ext hx)
    have HE := Lib.hid (hE.below hx)
    have HT := Lib.hid (Blk.new w 104 [.int .i64 n, .int .i64 u, .int .i64 how])
    clear hx h hE
    have HV := Lib.hid (valid_two n u how hn A _ HE.out)
    clear hn
    go_enter Tryz.func51, Tryz.ntmps51
    go_wp2_with fail
    refine HV.out.mono ?_
    rintro e w1 ⟨rfl, hb⟩
    have HB1 := Lib.hid (ext_trans HX.out hb)
    rw [errC_two]
    unfold errV
    clear hb
    go_wp2_with fail
    go_ret2
    exact ⟨(0, 2), .inl ⟨HN.out, rfl⟩, rfl, HB1.out⟩
  have hn' : 0 ≤ n ∧ n ≤ 100000 := by omega
  by_cases hk : KindBad u how
  · have HN := Lib.hid hn'
    have HK := Lib.hid hk
    have hx := ext_alloc w (.cells #[.int .i64 n, .int .i64 u, .int .i64 how] 104)
    have HX := Lib.hid hx
    have HC := Lib.hid (h.ext hx)
    have HE := Lib.hid (hE.below hx)
    have HT := Lib.hid (Blk.new w 104 [.int .i64 n, .int .i64 u, .int .i64 how])
    clear hx h hE
    have HV := Lib.hid (valid_kind n u how hn' A _ HE.out)
    clear hn hn' hk
    go_enter Tryz.func51, Tryz.ntmps51
    go_wp2_with fail
    refine HV.out.mono ?_
    rintro e w1 hv
    obtain ⟨rfl, hb⟩ := hv.1 HK.out
    have HB1 := Lib.hid (ext_trans HX.out hb)
    rw [errC_nine]
    unfold errV
    clear hb hv
    go_wp2_with fail
    go_ret2
    exact ⟨(0, 9), .inr (.inl ⟨HN.out, HK.out, rfl⟩), rfl, HB1.out⟩
  by_cases hg : Gd d
  · exact pdue_good c ok b o H hc d n u how hn' hk hg A w h hE
  · have HN := Lib.hid hn'
    have HK := Lib.hid hk
    have HG := Lib.hid hg
    have HGo := Lib.hid (fun w => good_no d (by unfold Gd at hg; omega) w)
    have hx := ext_alloc w (.cells #[.int .i64 n, .int .i64 u, .int .i64 how] 104)
    have HX := Lib.hid hx
    have HC := Lib.hid (h.ext hx)
    have HE := Lib.hid (hE.below hx)
    have HT := Lib.hid (Blk.new w 104 [.int .i64 n, .int .i64 u, .int .i64 how])
    clear hx h hE
    have HV := Lib.hid (valid_kind n u how hn' A _ HE.out)
    clear hn hn' hk hg
    go_enter Tryz.func51, Tryz.ntmps51
    go_wp2_with fail
    refine HV.out.mono ?_
    rintro e w1 hv
    obtain ⟨rfl, hb⟩ := hv.2 HK.out
    have HB1 := Lib.hid (ext_trans HX.out hb)
    have HC1 := Lib.hid (HC.out.ext hb)
    have HE1 := Lib.hid (HE.out.below hb)
    have HT1 := Lib.hid (Sol.blk_ext HT.out hb)
    have t0 := HT1.out.cell 0 rfl
    have t1 := HT1.out.cell 1 rfl
    have t2 := HT1.out.cell 2 rfl
    rw [errC_zero]
    clear hv hb HX HC HE HT
    go_wp2_with fail
    refine (HGo.out _).mono ?_
    rintro e w' ⟨rfl, rfl⟩
    have h3 := HE1.out.v3
    unfold sentV at h3
    go_wp2_with fail
    go_quiet (fail)
    go_wp2_with fail
    go_ret2
    exact ⟨(0, 4), .inr (.inr (.inl ⟨HN.out, HK.out, HG.out, rfl⟩)), rfl, ext_trans HB1.out (ext_drewN _ _)⟩
end Go.Proofs.YtjfiodknjchngaaGreatDoor.CdM
namespace Go.Proofs.YtjfiodknjchngaaGreatDoor.CdM
open Go.RowKit Mem Cal CdP MapSet Solve CdR Day Nest RefDay Err

set_option maxRecDepth 100000 in
set_option maxHeartbeats 4000000 in
theorem rdue_good (c : Cd) (hh : c.hol.length ≤ 1048576) (b o : Nat) (H : Option Addr) (hc : Nat) (d n u how : Int) (hn : 0 ≤ n ∧ n ≤ 100000) (hk : ¬ KindBad u how) (hg : Gd d) (w : World) (h : CdA w b o c H hc) :
    Calls Tryz.prog 41 #[.pointer (some ⟨b, o, none⟩), .int .i64 d, .agg #[.int .i64 n, .int .i64 u, .int .i64 how]] w (RPost (DueP c d n u how) w) := by
  have hx := ext_alloc w (.cells #[.int .i64 n, .int .i64 u, .int .i64 how] 94)
  have HX := Lib.hid hx
  have HC := Lib.hid (h.ext hx)
  have HT := Lib.hid (Blk.new w 94 [.int .i64 n, .int .i64 u, .int .i64 how])
  clear hx h
  have HK := Lib.hid hk
  have HN := Lib.hid hn
  have HG := Lib.hid hg
  obtain ⟨g1, g2⟩ := hg
  obtain ⟨n1, n2⟩ := hn
  have HGo := Lib.hid (fun w => isday_yes d g1 g2 w)
  have HHow := Lib.hid (show 0 ≤ how ∧ how ≤ 2 by unfold KindBad at hk; omega)
  have hcase : u = 0 ∨ u = 1 ∨ u = 2 ∨ u = 3 ∨ u = 4 := by unfold KindBad at hk; omega
  have k1 : decide (n < 0) = false := by simp; omega
  have k2 : decide (100000 < n) = false := by simp; omega
  have k3 : decide (how < 0) = false := by unfold KindBad at hk; simp; omega
  have k4 : decide (2 < how) = false := by unfold KindBad at hk; simp; omega
  clear hk
  rcases hcase with rfl | rfl | rfl | rfl | rfl
  · go_enter Tryz.func41, Tryz.ntmps41
    go_wp2_with fail
    refine (HGo.out _).mono ?_
    rintro e w' ⟨rfl, rfl⟩
    have t0 := HT.out.cell 0 rfl
    have t1 := HT.out.cell 1 rfl
    have t2 := HT.out.cell 2 rfl
    go_wp2_with fail
    refine (rroll_any c hh b o H hc (d + n) how _ HC.out).mono ?_
    rintro e w4 ⟨oo, ho, rfl, hb⟩
    have HO := Lib.hid ho
    have HB4 := Lib.hid (ext_trans HX.out hb)
    clear ho hb
    go_wp2_with fail
    go_ret2
    refine ⟨oo, .inr (.inr (.inr ⟨HN.out, HK.out, HG.out, (d + n, 0), .inl ⟨rfl, rfl⟩, ?_⟩)), rfl, HB4.out⟩
    by_cases hgx : Gd (d + n)
    · exact .inr ⟨rfl, hgx, HO.out⟩
    · exact .inl ⟨.inr hgx, HO.out.same (.inr (.inl ⟨HHow.out, hgx, rfl⟩))⟩
  · go_enter Tryz.func41, Tryz.ntmps41
    go_wp2_with fail
    refine (HGo.out _).mono ?_
    rintro e w' ⟨rfl, rfl⟩
    have t0 := HT.out.cell 0 rfl
    have t1 := HT.out.cell 1 rfl
    have t2 := HT.out.cell 2 rfl
    go_wp2_with fail
    refine (radd_any c hh b o H hc d n _ HC.out).mono ?_
    rintro e w2 ⟨m, hm, rfl, hb⟩
    obtain ⟨x, k⟩ := m
    have HM := Lib.hid hm
    have HB2 := Lib.hid (ext_trans HX.out hb)
    have HC2 := Lib.hid (HC.out.ext hb)
    have HT2 := Lib.hid (Sol.blk_ext HT.out hb)
    clear t0 t1 t2
    have t0 := HT2.out.cell 0 rfl
    have t1 := HT2.out.cell 1 rfl
    have t2 := HT2.out.cell 2 rfl
    have hco : k = 0 ∨ k = 2 ∨ k = 4 ∨ k = 9 := hm.code
    clear hm hb
    by_cases hk0 : k = 0
    · subst hk0
      go_wp2_with fail
      refine (rroll_any c hh b o H hc (x) how _ HC2.out).mono ?_
      rintro e w4 ⟨oo, ho, rfl, hb⟩
      have HO := Lib.hid ho
      have HB4 := Lib.hid (ext_trans HB2.out hb)
      clear ho hb
      go_wp2_with fail
      go_ret2
      refine ⟨oo, .inr (.inr (.inr ⟨HN.out, HK.out, HG.out, (x, 0), .inr (.inr (.inl ⟨rfl, HM.out⟩)), ?_⟩)), rfl, HB4.out⟩
      by_cases hgx : Gd (x)
      · exact .inr ⟨rfl, hgx, HO.out⟩
      · exact .inl ⟨.inr hgx, HO.out.same (.inr (.inl ⟨HHow.out, hgx, rfl⟩))⟩
    · have hk1 : decide (0 < k) = true := by simp; omega
      have HK0 := Lib.hid hk0
      clear hk0 hco
      go_wp2_with fail
      go_ret2
      exact ⟨(0, 4), .inr (.inr (.inr ⟨HN.out, HK.out, HG.out, (x, k), .inr (.inr (.inl ⟨rfl, HM.out⟩)), .inl ⟨.inl HK0.out, rfl⟩⟩)), rfl, HB2.out⟩
  · go_enter Tryz.func41, Tryz.ntmps41
    go_wp2_with fail
    refine (HGo.out _).mono ?_
    rintro e w' ⟨rfl, rfl⟩
    have t0 := HT.out.cell 0 rfl
    have t1 := HT.out.cell 1 rfl
    have t2 := HT.out.cell 2 rfl
    go_wp2_with fail
    refine (rroll_any c hh b o H hc (d + 7 * n) how _ HC.out).mono ?_
    rintro e w4 ⟨oo, ho, rfl, hb⟩
    have HO := Lib.hid ho
    have HB4 := Lib.hid (ext_trans HX.out hb)
    clear ho hb
    go_wp2_with fail
    go_ret2
    refine ⟨oo, .inr (.inr (.inr ⟨HN.out, HK.out, HG.out, (d + 7 * n, 0), .inr (.inl ⟨rfl, rfl⟩), ?_⟩)), rfl, HB4.out⟩
    by_cases hgx : Gd (d + 7 * n)
    · exact .inr ⟨rfl, hgx, HO.out⟩
    · exact .inl ⟨.inr hgx, HO.out.same (.inr (.inl ⟨HHow.out, hgx, rfl⟩))⟩
  · go_enter Tryz.func41, Tryz.ntmps41
    go_wp2_with fail
    refine (HGo.out _).mono ?_
    rintro e w' ⟨rfl, rfl⟩
    have t0 := HT.out.cell 0 rfl
    have t1 := HT.out.cell 1 rfl
    have t2 := HT.out.cell 2 rfl
    go_wp2_with fail
    refine (rmonths_any d n _).mono ?_
    rintro e w2 ⟨m, hm, rfl, hb⟩
    obtain ⟨x, k⟩ := m
    have HM := Lib.hid hm
    have HB2 := Lib.hid (ext_trans HX.out hb)
    have HC2 := Lib.hid (HC.out.ext hb)
    have HT2 := Lib.hid (Sol.blk_ext HT.out hb)
    clear t0 t1 t2
    have t0 := HT2.out.cell 0 rfl
    have t1 := HT2.out.cell 1 rfl
    have t2 := HT2.out.cell 2 rfl
    have hco : k = 0 ∨ k = 2 ∨ k = 4 ∨ k = 9 := hm.code
    clear hm hb
    by_cases hk0 : k = 0
    · subst hk0
      go_wp2_with fail
      refine (rroll_any c hh b o H hc (x) how _ HC2.out).mono ?_
      rintro e w4 ⟨oo, ho, rfl, hb⟩
      have HO := Lib.hid ho
      have HB4 := Lib.hid (ext_trans HB2.out hb)
      clear ho hb
      go_wp2_with fail
      go_ret2
      refine ⟨oo, .inr (.inr (.inr ⟨HN.out, HK.out, HG.out, (x, 0), .inr (.inr (.inr (.inl ⟨rfl, HM.out⟩))), ?_⟩)), rfl, HB4.out⟩
      by_cases hgx : Gd (x)
      · exact .inr ⟨rfl, hgx, HO.out⟩
      · exact .inl ⟨.inr hgx, HO.out.same (.inr (.inl ⟨HHow.out, hgx, rfl⟩))⟩
    · have hk1 : decide (0 < k) = true := by simp; omega
      have HK0 := Lib.hid hk0
      clear hk0 hco
      go_wp2_with fail
      go_ret2
      exact ⟨(0, 4), .inr (.inr (.inr ⟨HN.out, HK.out, HG.out, (x, k), .inr (.inr (.inr (.inl ⟨rfl, HM.out⟩))), .inl ⟨.inl HK0.out, rfl⟩⟩)), rfl, HB2.out⟩
  · go_enter Tryz.func41, Tryz.ntmps41
    go_wp2_with fail
    refine (HGo.out _).mono ?_
    rintro e w' ⟨rfl, rfl⟩
    have t0 := HT.out.cell 0 rfl
    have t1 := HT.out.cell 1 rfl
    have t2 := HT.out.cell 2 rfl
    go_wp2_with fail
    refine (rmonths_any d (n * 12) _).mono ?_
    rintro e w2 ⟨m, hm, rfl, hb⟩
    obtain ⟨x, k⟩ := m
    have HM := Lib.hid hm
    have HB2 := Lib.hid (ext_trans HX.out hb)
    have HC2 := Lib.hid (HC.out.ext hb)
    have HT2 := Lib.hid (Sol.blk_ext HT.out hb)
    clear t0 t1 t2
    have t0 := HT2.out.cell 0 rfl
    have t1 := HT2.out.cell 1 rfl
    have t2 := HT2.out.cell 2 rfl
    have hco : k = 0 ∨ k = 2 ∨ k = 4 ∨ k = 9 := hm.code
    clear hm hb
    by_cases hk0 : k = 0
    · subst hk0
      go_wp2_with fail
      refine (rroll_any c hh b o H hc (x) how _ HC2.out).mono ?_
      rintro e w4 ⟨oo, ho, rfl, hb⟩
      have HO := Lib.hid ho
      have HB4 := Lib.hid (ext_trans HB2.out hb)
      clear ho hb
      go_wp2_with fail
      go_ret2
      refine ⟨oo, .inr (.inr (.inr ⟨HN.out, HK.out, HG.out, (x, 0), .inr (.inr (.inr (.inr ⟨rfl, by rw [Int.mul_comm]; exact HM.out⟩))), ?_⟩)), rfl, HB4.out⟩
      by_cases hgx : Gd (x)
      · exact .inr ⟨rfl, hgx, HO.out⟩
      · exact .inl ⟨.inr hgx, HO.out.same (.inr (.inl ⟨HHow.out, hgx, rfl⟩))⟩
    · have hk1 : decide (0 < k) = true := by simp; omega
      have HK0 := Lib.hid hk0
      clear hk0 hco
      go_wp2_with fail
      go_ret2
      exact ⟨(0, 4), .inr (.inr (.inr ⟨HN.out, HK.out, HG.out, (x, k), .inr (.inr (.inr (.inr ⟨rfl, by rw [Int.mul_comm]; exact HM.out⟩))), .inl ⟨.inl HK0.out, rfl⟩⟩)), rfl, HB2.out⟩
set_option maxRecDepth 100000 in
set_option maxHeartbeats 4000000 in
theorem rdue_any (c : Cd) (hh : c.hol.length ≤ 1048576) (b o : Nat) (H : Option Addr) (hc : Nat) (d n u how : Int) (w : World) (h : CdA w b o c H hc) :
    Calls Tryz.prog 41 #[.pointer (some ⟨b, o, none⟩), .int .i64 d, .agg #[.int .i64 n, .int .i64 u, .int .i64 how]] w (RPost (DueP c d n u how) w) := by
  by_cases c1 : n < 0
  · have k1 : decide (n < 0) = true := by simp [c1]
    have HN := Lib.hid c1
    clear c1
    have hx := ext_alloc w (.cells #[.int .i64 n, .int .i64 u, .int .i64 how] 94)
    have HX := Lib.hid hx
    have HC := Lib.hid (h.ext hx)
    have HT := Lib.hid (Blk.new w 94 [.int .i64 n, .int .i64 u, .int .i64 how])
    clear hx h
    go_enter Tryz.func41, Tryz.ntmps41
    go_wp2_with fail
    go_ret2
    exact ⟨(0, 2), .inl ⟨.inl HN.out, rfl⟩, rfl, HX.out⟩
  have k1 : decide (n < 0) = false := by simp; omega
  by_cases c2 : 100000 < n
  · have k2 : decide (100000 < n) = true := by simp [c2]
    have HN := Lib.hid c2
    clear c1 c2
    have hx := ext_alloc w (.cells #[.int .i64 n, .int .i64 u, .int .i64 how] 94)
    have HX := Lib.hid hx
    have HC := Lib.hid (h.ext hx)
    have HT := Lib.hid (Blk.new w 94 [.int .i64 n, .int .i64 u, .int .i64 how])
    clear hx h
    go_enter Tryz.func41, Tryz.ntmps41
    go_wp2_with fail
    go_ret2
    exact ⟨(0, 2), .inl ⟨.inr HN.out, rfl⟩, rfl, HX.out⟩
  have k2 : decide (100000 < n) = false := by simp; omega
  have hn : 0 ≤ n ∧ n ≤ 100000 := by omega
  rcases kind_cases u how with (q | q | q | q) | q
  · have HK := Lib.hid (show KindBad u how by unfold KindBad; omega)
    have HN := Lib.hid hn
    have m0 : decide (u < 0) = true := by simp; omega
    clear q c1 c2 hn
    have hx := ext_alloc w (.cells #[.int .i64 n, .int .i64 u, .int .i64 how] 94)
    have HX := Lib.hid hx
    have HC := Lib.hid (h.ext hx)
    have HT := Lib.hid (Blk.new w 94 [.int .i64 n, .int .i64 u, .int .i64 how])
    clear hx h
    go_enter Tryz.func41, Tryz.ntmps41
    go_wp2_with fail
    go_ret2
    exact ⟨(0, 9), .inr (.inl ⟨HN.out, HK.out, rfl⟩), rfl, HX.out⟩
  · have HK := Lib.hid (show KindBad u how by unfold KindBad; omega)
    have HN := Lib.hid hn
    have m0 : decide (u < 0) = false := by simp; omega
    have m1 : decide (4 < u) = true := by simp; omega
    clear q c1 c2 hn
    have hx := ext_alloc w (.cells #[.int .i64 n, .int .i64 u, .int .i64 how] 94)
    have HX := Lib.hid hx
    have HC := Lib.hid (h.ext hx)
    have HT := Lib.hid (Blk.new w 94 [.int .i64 n, .int .i64 u, .int .i64 how])
    clear hx h
    go_enter Tryz.func41, Tryz.ntmps41
    go_wp2_with fail
    go_ret2
    exact ⟨(0, 9), .inr (.inl ⟨HN.out, HK.out, rfl⟩), rfl, HX.out⟩
  · have HK := Lib.hid (show KindBad u how by unfold KindBad; omega)
    have HN := Lib.hid hn
    have m0 : decide (u < 0) = false := by simp; omega
    have m1 : decide (4 < u) = false := by simp; omega
    have m2 : decide (how < 0) = true := by simp; omega
    clear q c1 c2 hn
    have hx := ext_alloc w (.cells #[.int .i64 n, .int .i64 u, .int .i64 how] 94)
    have HX := Lib.hid hx
    have HC := Lib.hid (h.ext hx)
    have HT := Lib.hid (Blk.new w 94 [.int .i64 n, .int .i64 u, .int .i64 how])
    clear hx h
    go_enter Tryz.func41, Tryz.ntmps41
    go_wp2_with fail
    go_ret2
    exact ⟨(0, 9), .inr (.inl ⟨HN.out, HK.out, rfl⟩), rfl, HX.out⟩
  · have HK := Lib.hid (show KindBad u how by unfold KindBad; omega)
    have HN := Lib.hid hn
    have m0 : decide (u < 0) = false := by simp; omega
    have m1 : decide (4 < u) = false := by simp; omega
    have m2 : decide (how < 0) = false := by simp; omega
    have m3 : decide (2 < how) = true := by simp; omega
    clear q c1 c2 hn
    have hx := ext_alloc w (.cells #[.int .i64 n, .int .i64 u, .int .i64 how] 94)
    have HX := Lib.hid hx
    have HC := Lib.hid (h.ext hx)
    have HT := Lib.hid (Blk.new w 94 [.int .i64 n, .int .i64 u, .int .i64 how])
    clear hx h
    go_enter Tryz.func41, Tryz.ntmps41
    go_wp2_with fail
    go_ret2
    exact ⟨(0, 9), .inr (.inl ⟨HN.out, HK.out, rfl⟩), rfl, HX.out⟩
  have hk : ¬ KindBad u how := by unfold KindBad; omega
  by_cases hg : Gd d
  · exact rdue_good c hh b o H hc d n u how hn hk hg w h
  · have HK := Lib.hid hk
    have HN := Lib.hid hn
    have HG := Lib.hid hg
    have HGo := Lib.hid (fun w => isday_no d (by unfold Gd at hg; omega) w)
    have m0 : decide (u < 0) = false := by simp; omega
    have m1 : decide (4 < u) = false := by simp; omega
    have m2 : decide (how < 0) = false := by simp; omega
    have m3 : decide (2 < how) = false := by simp; omega
    clear q c1 c2 hn hk hg
    have hx := ext_alloc w (.cells #[.int .i64 n, .int .i64 u, .int .i64 how] 94)
    have HX := Lib.hid hx
    have HC := Lib.hid (h.ext hx)
    have HT := Lib.hid (Blk.new w 94 [.int .i64 n, .int .i64 u, .int .i64 how])
    clear hx h
    go_enter Tryz.func41, Tryz.ntmps41
    go_wp2_with fail
    refine (HGo.out _).mono ?_
    rintro e w' ⟨rfl, rfl⟩
    go_wp2_with fail
    go_ret2
    exact ⟨(0, 4), .inr (.inr (.inl ⟨HN.out, HK.out, HG.out, rfl⟩)), rfl, HX.out⟩
end Go.Proofs.YtjfiodknjchngaaGreatDoor.CdM

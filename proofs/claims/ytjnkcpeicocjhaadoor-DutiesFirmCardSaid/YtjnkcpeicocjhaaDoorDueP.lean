/- The day that is due: the program's Due and the document's. -/
import Derived.Test.YtjnkcpeicocjhaaDoorCdRoll
import Derived.Test.YtjnkcpeicocjhaaDoorMonths
namespace Go.Proofs.YtjnkcpeicocjhaaDoor.CdM
open Go.RowKit Mem Cal CdP MapSet Solve CdR Day Nest RefDay Err

/-- what both sides come to, months later -/
def MGood (n k r : Int) : Prop := ∃ y m d, Vld y m d ∧ num y m d = n ∧ 12 ≤ mon y m k ∧ mon y m k ≤ 119999 ∧ r = monDay y m d k
def MBad (n k : Int) : Prop := (n < 1 ∨ 3652059 < n) ∨ ∃ y m d, Vld y m d ∧ num y m d = n ∧ (mon y m k < 12 ∨ 119999 < mon y m k)
theorem mcases (n k : Int) : (∃ r, MGood n k r) ∨ MBad n k := by
  by_cases h : 1 ≤ n ∧ n ≤ 3652059
  · obtain ⟨y, m, d, hv, hn⟩ := date_of n h.1 h.2
    by_cases c : 12 ≤ mon y m k ∧ mon y m k ≤ 119999
    · exact .inl ⟨_, y, m, d, hv, hn, c.1, c.2, rfl⟩
    · exact .inr (.inr ⟨y, m, d, hv, hn, by omega⟩)
  · exact .inr (.inl (by omega))
theorem MGood.same {n k r r' : Int} (h : MGood n k r) (h' : MGood n k r') : r = r' := by
  obtain ⟨y, m, d, hv, hn, _, _, rfl⟩ := h
  obtain ⟨y', m', d', hv', hn', _, _, rfl⟩ := h'
  obtain ⟨rfl, rfl, rfl⟩ := Vld.unique hv hv' (hn.trans hn'.symm)
  rfl
theorem MGood.not {n k r : Int} (h : MGood n k r) (h' : MBad n k) : False := by
  obtain ⟨y, m, d, hv, hn, h1, h2, rfl⟩ := h
  rcases h' with h' | ⟨y', m', d', hv', hn', h'⟩
  · have := hv.num_bd; omega
  · obtain ⟨rfl, rfl, rfl⟩ := Vld.unique hv hv' (hn.trans hn'.symm)
    omega
def MonP (d k : Int) (o : Int × Int) : Prop := (∃ r, MGood d k r ∧ o = (r, 0)) ∨ (MBad d k ∧ o = (0, 4))
theorem MonP.same {d k : Int} {o o' : Int × Int} (h : MonP d k o) (h' : MonP d k o') : o = o' := by
  rcases h with ⟨r, a, rfl⟩ | ⟨a, rfl⟩ <;> rcases h' with ⟨r', a', rfl⟩ | ⟨a', rfl⟩
  · rw [a.same a']
  · exact (a.not a').elim
  · exact (a'.not a).elim
  · rfl
theorem MonP.code {d k : Int} {o : Int × Int} (h : MonP d k o) : CodeOk o.2 := by
  rcases h with ⟨r, a, rfl⟩ | ⟨a, rfl⟩ <;> simp [CodeOk]
theorem pmonths_any (n k : Int) (A : Nat → Addr) (w : World) (hE : E3 w A) : Calls Tryd.prog 97 #[.int .i64 n, .int .i64 k] w (PPost A (MonP n k) w) := by
  rcases mcases n k with ⟨r, hg⟩ | hb
  · have hg' := hg
    obtain ⟨y, m, d, hv, rfl, h1, h2, rfl⟩ := hg
    exact (months_yes y m d k hv h1 h2 w).mono fun e w' ⟨he, hw⟩ => ⟨(monDay y m d k, 0), .inl ⟨_, hg', rfl⟩, he, hw ▸ Below.refl _ _⟩
  · have hb' := hb
    rcases hb with h | ⟨y, m, d, hv, rfl, h⟩
    · exact (months_bad n k h _ w hE.v3).mono fun e w' ⟨he, q, hw⟩ => ⟨(0, 4), .inr ⟨hb', rfl⟩, by rw [he]; rfl, hw ▸ ext_drewN w q⟩
    · exact (months_err y m d k hv h _ w hE.v3).mono fun e w' ⟨he, q, hw⟩ => ⟨(0, 4), .inr ⟨hb', rfl⟩, by rw [he]; rfl, hw ▸ ext_drewN w q⟩
/-- ahead of the rolling -/
def MidP (c : Cd) (d n u : Int) (o : Int × Int) : Prop :=
  (u = 0 ∧ o = (d + n, 0)) ∨ (u = 2 ∧ o = (d + 7 * n, 0)) ∨ (u = 1 ∧ AddP c d n o) ∨ (u = 3 ∧ MonP d n o) ∨ (u = 4 ∧ MonP d (12 * n) o)
theorem MidP.same {c : Cd} {d n u : Int} {o o' : Int × Int} (h : MidP c d n u o) (h' : MidP c d n u o') : o = o' := by
  rcases h with ⟨a, rfl⟩ | ⟨a, rfl⟩ | ⟨a, b⟩ | ⟨a, b⟩ | ⟨a, b⟩ <;> rcases h' with ⟨a', rfl⟩ | ⟨a', rfl⟩ | ⟨a', b'⟩ | ⟨a', b'⟩ | ⟨a', b'⟩ <;>
    first | rfl | (exfalso; omega) | exact AddP.same b b' | exact MonP.same b b'
theorem MidP.code {c : Cd} {d n u : Int} {o : Int × Int} (h : MidP c d n u o) : CodeOk o.2 := by
  rcases h with ⟨a, rfl⟩ | ⟨a, rfl⟩ | ⟨a, b⟩ | ⟨a, b⟩ | ⟨a, b⟩
  · simp [CodeOk]
  · simp [CodeOk]
  · exact b.code
  · exact b.code
  · exact b.code
def KindBad (u how : Int) : Prop := u < 0 ∨ 4 < u ∨ how < 0 ∨ 2 < how
def DueP (c : Cd) (d n u how : Int) (o : Int × Int) : Prop :=
  ((n < 0 ∨ 100000 < n) ∧ o = (0, 2)) ∨ ((0 ≤ n ∧ n ≤ 100000) ∧ KindBad u how ∧ o = (0, 9)) ∨ ((0 ≤ n ∧ n ≤ 100000) ∧ ¬ KindBad u how ∧ ¬ Gd d ∧ o = (0, 4)) ∨
  ((0 ≤ n ∧ n ≤ 100000) ∧ ¬ KindBad u how ∧ Gd d ∧ ∃ m, MidP c d n u m ∧ (((m.2 ≠ 0 ∨ ¬ Gd m.1) ∧ o = (0, 4)) ∨ (m.2 = 0 ∧ Gd m.1 ∧ RollP c m.1 how o)))
theorem DueP.same {c : Cd} {d n u how : Int} {o o' : Int × Int} (h : DueP c d n u how o) (h' : DueP c d n u how o') : o = o' := by
  rcases h with ⟨a, rfl⟩ | ⟨a, b, rfl⟩ | ⟨a, b, g, rfl⟩ | ⟨a, b, g, m, hm, hc⟩ <;> rcases h' with ⟨a', rfl⟩ | ⟨a', b', rfl⟩ | ⟨a', b', g', rfl⟩ | ⟨a', b', g', m', hm', hc'⟩ <;>
    first | rfl | (exfalso; omega) | (exfalso; exact b b') | (exfalso; exact b' b) | (exfalso; exact g g') | (exfalso; exact g' g) | skip
  obtain rfl := hm.same hm'
  rcases hc with ⟨x, rfl⟩ | ⟨x, y, z⟩ <;> rcases hc' with ⟨x', rfl⟩ | ⟨x', y', z'⟩
  · rfl
  · exact (x.elim (fun k => k x') (fun k => k y')).elim
  · exact (x'.elim (fun k => k x) (fun k => k y)).elim
  · exact z.same z'
theorem DueP.code {c : Cd} {d n u how : Int} {o : Int × Int} (h : DueP c d n u how o) : CodeOk o.2 := by
  rcases h with ⟨a, rfl⟩ | ⟨a, b, rfl⟩ | ⟨a, b, g, rfl⟩ | ⟨a, b, g, m, hm, hc⟩
  · simp [CodeOk]
  · simp [CodeOk]
  · simp [CodeOk]
  · rcases hc with ⟨x, rfl⟩ | ⟨x, y, z⟩
    · simp [CodeOk]
    · exact z.code
/-- which guards a term's kind falls at -/
theorem kind_cases (u how : Int) : (u < 0 ∨ (¬ u < 0 ∧ 4 < u) ∨ (¬ u < 0 ∧ ¬ 4 < u ∧ how < 0) ∨ (¬ u < 0 ∧ ¬ 4 < u ∧ ¬ how < 0 ∧ 2 < how)) ∨ (¬ u < 0 ∧ ¬ 4 < u ∧ ¬ how < 0 ∧ ¬ 2 < how) := by omega
def VPost (A : Nat → Addr) (k : Int) (w : World) (e : Ending) (w' : World) : Prop := e = .returned (errC A k) ∧ Below w.heap.size w w'
set_option maxHeartbeats 1000000 in
theorem valid_two (n u how : Int) (hn : n < 0 ∨ 100000 < n) (A : Nat → Addr) (w : World) (hE : E3 w A) :
    Calls Tryd.prog 95 #[.agg #[.int .i64 n, .int .i64 u, .int .i64 how]] w (VPost A 2 w) := by
  have hx := ext_alloc w (.cells #[.int .i64 n, .int .i64 u, .int .i64 how] 36)
  have h1 := (hE.below hx).v1
  have HX := Lib.hid hx
  have HA := Lib.hid (errC_two A)
  unfold sentV at h1
  clear hx hE
  by_cases c1 : n < 0
  · have c1' : decide (n < 0) = true := by simp [c1]
    clear hn c1
    go_enter Tryd.func95, Tryd.ntmps95
    go_wp2_with fail
    go_ret
    exact ⟨rfl, HX.out⟩
  · have c1' : decide (n < 0) = false := by simp; omega
    have c2' : decide (100000 < n) = true := by simp; omega
    clear hn c1
    go_enter Tryd.func95, Tryd.ntmps95
    go_wp2_with fail
    go_ret
    exact ⟨rfl, HX.out⟩
set_option maxHeartbeats 2000000 in
theorem valid_kind (n u how : Int) (hn : 0 ≤ n ∧ n ≤ 100000) (A : Nat → Addr) (w : World) (hE : E3 w A) :
    Calls Tryd.prog 95 #[.agg #[.int .i64 n, .int .i64 u, .int .i64 how]] w fun e w' => (KindBad u how → VPost A 9 w e w') ∧ (¬ KindBad u how → VPost A 0 w e w') := by
  have hx := ext_alloc w (.cells #[.int .i64 n, .int .i64 u, .int .i64 how] 36)
  have h8 := (hE.below hx).v8
  have HX := Lib.hid hx
  unfold sentV at h8
  clear hx hE
  have c1' : decide (n < 0) = false := by simp; omega
  have c2' : decide (100000 < n) = false := by simp; omega
  clear hn
  rcases kind_cases u how with (c | c | c | c) | c
  · have HK := Lib.hid (show KindBad u how by unfold KindBad; omega)
    have k0 : decide (u < 0) = true := by simp; omega
    clear c
    go_enter Tryd.func95, Tryd.ntmps95
    go_wp2_with fail
    go_ret
    exact ⟨fun _ => ⟨rfl, HX.out⟩, fun h => absurd HK.out h⟩
  · have HK := Lib.hid (show KindBad u how by unfold KindBad; omega)
    have k0 : decide (u < 0) = false := by simp; omega
    have k1 : decide (4 < u) = true := by simp; omega
    clear c
    go_enter Tryd.func95, Tryd.ntmps95
    go_wp2_with fail
    go_ret
    exact ⟨fun _ => ⟨rfl, HX.out⟩, fun h => absurd HK.out h⟩
  · have HK := Lib.hid (show KindBad u how by unfold KindBad; omega)
    have k0 : decide (u < 0) = false := by simp; omega
    have k1 : decide (4 < u) = false := by simp; omega
    have k2 : decide (how < 0) = true := by simp; omega
    clear c
    go_enter Tryd.func95, Tryd.ntmps95
    go_wp2_with fail
    go_ret
    exact ⟨fun _ => ⟨rfl, HX.out⟩, fun h => absurd HK.out h⟩
  · have HK := Lib.hid (show KindBad u how by unfold KindBad; omega)
    have k0 : decide (u < 0) = false := by simp; omega
    have k1 : decide (4 < u) = false := by simp; omega
    have k2 : decide (how < 0) = false := by simp; omega
    have k3 : decide (2 < how) = true := by simp; omega
    clear c
    go_enter Tryd.func95, Tryd.ntmps95
    go_wp2_with fail
    go_ret
    exact ⟨fun _ => ⟨rfl, HX.out⟩, fun h => absurd HK.out h⟩
  · have HK := Lib.hid (show ¬ KindBad u how by unfold KindBad; omega)
    have k0 : decide (u < 0) = false := by simp; omega
    have k1 : decide (4 < u) = false := by simp; omega
    have k2 : decide (how < 0) = false := by simp; omega
    have k3 : decide (2 < how) = false := by simp; omega
    clear c
    go_enter Tryd.func95, Tryd.ntmps95
    go_wp2_with fail
    go_ret
    exact ⟨fun h => absurd h HK.out, fun _ => ⟨rfl, HX.out⟩⟩
end Go.Proofs.YtjnkcpeicocjhaaDoor.CdM

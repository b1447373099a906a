/- The law LedgerSettles: its own first look at settling. -/
import Derived.Test.YtjnkcpeicocjhaaDoorSameE
import Derived.Test.YtjnkcpeicocjhaaDoorCoded5
import Derived.Test.YtjnkcpeicocjhaaDoorLVal
namespace Go.Proofs.YtjnkcpeicocjhaaDoor.LedgerSettles
open Go.RowKit Mem Pays Nest Claims Settle

theorem en_at {w : World} {A : Option Addr} {es : List En} (h : Ens w A es) {k : Nat} (hk : k < es.length) :
    ∃ b o, A = some ⟨b, o, none⟩ ∧ w.cell? ⟨b, o + k * 3, none⟩ = some (.int .i64 es[k].day) ∧ w.cell? ⟨b, o + k * 3 + 1, none⟩ = some (.string ⟨#[97, 110, 101, 119]⟩) ∧ w.cell? ⟨b, o + k * 3 + 2, none⟩ = some (.slice es[k].A es[k].lines.length es[k].c) := by
  obtain ⟨b, o, e, hc⟩ := h.rows.row enCells_len hk (by omega)
  exact ⟨b, o, e, by simpa using hc 0 _ rfl, by simpa [Nat.add_assoc] using hc 1 _ rfl, by simpa [Nat.add_assoc] using hc 2 _ rfl⟩
structure Errs4 (w : World) (aB aD aC aK : Addr) : Prop where
  b : w.cell? ⟨1, 0, none⟩ = some (.iface 238 (.pointer (some aB)))
  d : w.cell? ⟨2, 0, none⟩ = some (.iface 238 (.pointer (some aD)))
  c : w.cell? ⟨0, 0, none⟩ = some (.iface 238 (.pointer (some aC)))
  k : w.cell? ⟨3, 0, none⟩ = some (.iface 238 (.pointer (some aK)))
theorem Errs4.ext {w w' : World} {aB aD aC aK : Addr} (h : Errs4 w aB aD aC aK) (hb : Below w.heap.size w w') : Errs4 w' aB aD aC aK :=
  ⟨cell_ext hb h.b, cell_ext hb h.d, cell_ext hb h.c, cell_ext hb h.k⟩
theorem rd_blk {w : World} {B : Nat} {T : TypeId} {cs : List Value} (h : Blk w B T cs) : Rd w (some ⟨B, 0, none⟩) cs := fun j u hj => ⟨B, 0, rfl, by rw [Nat.zero_add]; exact h.cell j hj⟩
def one (B : Nat) : List Cl := [⟨40, [(1, 32, 7)], some ⟨B, 0, none⟩, 1⟩]
theorem one_vb (B : Nat) : ¬ VB (one B) (one B).length := by
  rintro (h | ⟨i, hi, r, hr, h⟩)
  · simp [one] at h
  · have : i = 0 := by simp [one] at hi; omega
    subst this
    simp [one] at hr
    subst hr
    simp at h
theorem one_vd (B : Nat) : ¬ Upto (PD (one B)) (one B).length := by
  rintro ⟨i, hi, r, hr, h⟩
  have : i = 0 := by simp [one] at hi; omega
  subst this
  simp [one] at hr
  subst hr
  rcases h with (h | ⟨_, _, h, _⟩) | ⟨k, hk, p, hp, h⟩
  · exact h ⟨show (1 : Int) ≤ 40 by decide, show (40 : Int) ≤ 3652059 by decide⟩
  · omega
  · have : k = 0 := by simp at hk; omega
    subst this
    simp at hp
    subst hp
    rcases h with h | h | h
    · exact h ⟨by decide, by decide⟩
    · exact h ⟨by decide, by decide⟩
    · revert h; decide
theorem one_vc (B : Nat) : ¬ VC (one B) 5000 (one B).length := by
  rintro (h | ⟨i, hi, r, hr, k, hk, p, hp, h⟩)
  · omega
  · have : i = 0 := by simp [one] at hi; omega
    subst this
    simp [one] at hr
    subst hr
    have : k = 0 := by simp at hk; omega
    subst this
    simp at hp
    subst hp
    unfold BadCent at h
    simp at h
theorem one_run (B : Nat) : (run 5000 ((one B).map Cl.key)).es = [(40, [(.rights, -7), (.paid, 7)])] := by
  show (run 5000 [(40, [(1, 32, 7)])]).es = _
  decide
theorem one_fits (B : Nat) : Fits 5000 (run 5000 (((one B).map Cl.key).take 0)) (40, [(1, 32, 7)]) := by
  show Fits 5000 (run 5000 []) _
  refine ⟨⟨by decide, by decide⟩, ⟨by decide, by decide⟩, ⟨by decide, by decide⟩, ⟨by decide, by decide⟩⟩
set_option maxRecDepth 100000 in
theorem settles_any (aB aD aC aK : Addr) (w : World) (hE : Errs4 w aB aD aC aK) : Calls Tryd.prog 12 #[] w fun e w' => e = .returned (.bool true) ∧ Below w.heap.size w w' := by
  have HE := Lib.hid hE
  clear hE
  go_enter Tryd.func12, Tryd.ntmps12
  go_wp2_with fail
  have hC : Cls ((w.alloc (.cells #[.int .i64 1, .int .i64 32, .int .i64 7] 110)).alloc (.cells #[.int .i64 40, .slice (some ⟨w.heap.size, 0, none⟩) 1 1] 113)) (some ⟨w.heap.size + 1, 0, none⟩) (one w.heap.size) := by
    have h1 := Blk.new w 110 [.int .i64 1, .int .i64 32, .int .i64 7]
    have h2 := Blk.new (w.alloc (.cells #[.int .i64 1, .int .i64 32, .int .i64 7] 110)) 113 [.int .i64 40, .slice (some ⟨w.heap.size, 0, none⟩) 1 1]
    refine ⟨?_, ?_, ?_⟩
    · have := rd_blk h2
      simpa [one, clCells] using this
    · intro r hr
      simp [one] at hr
      subst hr
      exact (rd_blk h1).ext (ext_alloc _ _)
    · intro r hr
      simp [one] at hr
      subst hr
      exact ⟨by simp, by simp [maxLen]⟩
  have HC := Lib.hid hC
  clear hC
  have hb0 := ext_trans (ext_alloc w (.cells #[.int .i64 1, .int .i64 32, .int .i64 7] 110)) (ext_alloc _ (.cells #[.int .i64 40, .slice (some ⟨w.heap.size, 0, none⟩) 1 1] 113))
  have HB0 := Lib.hid hb0
  have hE2 := HE.out.ext hb0
  have HE2 := Lib.hid hE2
  clear hb0 hE2
  refine (settle_any _ 1 (one w.heap.size) 5000 _ HC.out (by simp [one]) (by intro r hr; simp [one] at hr; subst hr; simp) _ _ _ _ HE2.out.b HE2.out.d HE2.out.c HE2.out.k).mono ?_
  rintro e w' ⟨hb, h⟩
  have HB := Lib.hid (ext_trans HB0.out hb)
  clear hb
  rcases h with ⟨h, _⟩ | ⟨_, h, _⟩ | ⟨_, _, h, _⟩ | ⟨_, _, _, ⟨j, hj, _, h, _⟩ | ⟨_, A, c, es, rfl, hk, hes, hc⟩⟩
  · exact absurd h (one_vb _)
  · exact absurd h (one_vd _)
  · exact absurd h (one_vc _)
  · have : j = 0 := by simp [one] at hj; omega
    subst this
    exact absurd (one_fits _) h
  · rw [one_run] at hk
    obtain ⟨e0, rfl⟩ : ∃ e0, es = [e0] := by
      clear hes hc
      cases es with
      | nil => simp at hk
      | cons e0 t =>
        cases t with
        | nil => exact ⟨e0, rfl⟩
        | cons _ _ => simp at hk
    have hl : e0.lines.length = 2 := by
      simp [En.key] at hk
      rw [hk.2]
      rfl
    obtain ⟨b, o, rfl, _, _, r2⟩ := en_at hes (k := 0) (by simp)
    simp only [List.getElem_cons_zero, hl] at r2
    have hc1 : 1 ≤ c := hc
    clear hk hes hc hl
    go_wp2_with fail
    go_ret
    exact ⟨rfl, HB.out⟩
end Go.Proofs.YtjnkcpeicocjhaaDoor.LedgerSettles

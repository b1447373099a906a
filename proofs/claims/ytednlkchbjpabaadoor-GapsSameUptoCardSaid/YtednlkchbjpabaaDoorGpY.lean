/- Gaps: twice. -/
import Derived.Test.YtednlkchbjpabaaDoorGpV
import Derived.BigQuiet
namespace Go.Proofs.YtednlkchbjpabaaDoor.Gp
open Go.RowKit Mem Nest Fk

theorem dup_contains (l : List (List UInt8)) (k : Nat) (hk : k < l.length) : (l.take k).contains l[k] = dupB l k := by
  unfold dupB anyTo
  rw [Bool.eq_iff_iff, List.contains_iff_mem, List.any_eq_true]
  constructor
  · intro h
    obtain ⟨j, hj, e⟩ := List.mem_iff_getElem.1 h
    have hjk : j < k := by simp at hj; omega
    refine ⟨j, List.mem_range.2 hjk, ?_⟩
    rw [txtAt_get hk, txtAt_get (by omega)]
    rw [List.getElem_take] at e
    simp [e]
  · rintro ⟨j, hj, e⟩
    have hjk := List.mem_range.1 hj
    rw [txtAt_get hk, txtAt_get (by omega), beq_iff_eq] at e
    rw [← e]
    exact List.mem_iff_getElem.2 ⟨j, by simp; omega, by simp⟩
set_option maxRecDepth 20000 in
set_option maxHeartbeats 1000000 in
theorem twice_any (l : List (List UInt8)) (hl : l.length ≤ 1048576) (A : Option Addr) (c : Nat) (hc : l.length ≤ c) (k : Nat) (hk : k < l.length) (w : World) (h : Rd w A (strsV l)) :
    Calls Tryd.prog 45 #[.slice A l.length c, .int .i64 k] w (RetA (dupB l k) w) := by
  obtain ⟨b, o, rfl, r0⟩ := str_at h hk
  have hrt : Rd w (some ⟨b, o, none⟩) (strsV (l.take k)) := fun j u hj => by
    have hjl : j < (l.take k).length := by
      have := (List.getElem?_eq_some_iff.1 hj).1
      simpa [strsV] using this
    have hjk : j < k := by simp at hjl; omega
    refine h j u ?_
    rw [← hj]
    simp [strsV, hjk]
  have hlk : (l.take k).length = k := by simp; omega
  have HC := Lib.hid (show ∀ n, Calls Tryd.prog 58 #[.slice (some ⟨b, o, none⟩) k c, .string ⟨l[k].toArray⟩] (w.drewN n) (fun e w' => e = .returned (.bool (dupB l k)) ∧ ∃ m, w' = w.drewN m) from fun n => by
    have h1 := containss_any (l.take k) (by omega) (some ⟨b, o, none⟩) c l[k] (w.drewN n) (hrt.ext (ext_drewN w n))
    rw [hlk, dup_contains l k hk] at h1
    exact h1.mono fun e w' h2 => ⟨h2.1, n, h2.2.symm⟩)
  obtain ⟨d, hd⟩ : ∃ d, d = dupB l k := ⟨_, rfl⟩
  rw [← hd] at HC ⊢
  have hkc : (k : Int) < l.length := by omega
  have hkC : (k : Int) ≤ c := by omega
  have hkc2 : k ≤ c := by omega
  clear hd h hrt hlk
  generalize l[k] = s at *
  go_enter Tryd.func45, Tryd.ntmps45
  go_upto_region 1 with fail
  go_quiet (exact HC.out _)
  go_wp2_with fail
  go_ret
  exact retA rfl (ext_drewN w nq)
end Go.Proofs.YtednlkchbjpabaaDoor.Gp

/- The theory as the statement hands it on: few, Theory. statutelaw4.Theory: the theory is copied. statutelaw4.live: the program answers. Small facts that the laws on theories share: rules of a copy, the document's Place. -/
import Derived.Test.YtjfiodknjchngaaGreatDoorSolve
import Derived.Test.YtjfiodknjchngaaGreatDoorApp
import Derived.StillTailTactics
import Derived.Deep.RegionHeld3
import Derived.Deep.DeepCutAuto
namespace Go.Proofs.YtjfiodknjchngaaGreatDoor.LawT
open Go.RowKit Mem Thy Nest Day Thm

/-- a theory among the arguments -/
structure ThA (w : World) (b o : Nat) (N : Int) (rs : List Rw) (RA : Option Addr) (rc : Nat) (ov : List (Int × Int)) (OA : Option Addr) (oc : Nat) : Prop where
  c0 : w.cell? ⟨b, o, none⟩ = some (.int .i64 N)
  c1 : w.cell? ⟨b, o + 1, none⟩ = some (.slice RA rs.length rc)
  c2 : w.cell? ⟨b, o + 2, none⟩ = some (.slice OA ov.length oc)
  rules : Rws w RA rs
  over : Rd w OA (ov.flatMap prCells)
  onil : OA = none → oc = 0
  bnil : ∀ r ∈ rs, r.A = none → r.c = 0
  l1 : rs.length ≤ 1048576
  l2 : ∀ r ∈ rs, r.body.length ≤ 1048576
  l3 : ov.length ≤ 1048576
section
variable {w w' : World} {b o : Nat} {N : Int} {rs : List Rw} {RA : Option Addr} {rc : Nat} {ov : List (Int × Int)} {OA : Option Addr} {oc : Nat}
theorem ThA.ext (h : ThA w b o N rs RA rc ov OA oc) (hb : Below w.heap.size w w') : ThA w' b o N rs RA rc ov OA oc :=
  ⟨cell_ext hb h.c0, cell_ext hb h.c1, cell_ext hb h.c2, h.rules.ext hb, h.over.ext hb, h.onil, h.bnil, h.l1, h.l2, h.l3⟩
end
def SomeB (w : World) (e : Ending) (w' : World) : Prop := (∃ b : Bool, e = .returned (.bool b)) ∧ w = w'
end Go.Proofs.YtjfiodknjchngaaGreatDoor.LawT
namespace Go.Proofs.YtjfiodknjchngaaGreatDoor.LawT
open Go.RowKit Mem Thy Nest Day Thm App

theorem int_info : (Tryz.prog.info? 3).map (fun i => (i.zero, i.size, i.bytes)) = some (some (.int .i64 0), 1, 8) := by kernel_rfl
theorem ints_one (zs : List Int) : ∀ u ∈ ints zs, u.oneCell' = true := fun u hu => by
  obtain ⟨z, _, rfl⟩ := List.mem_map.1 hu
  rfl
theorem prs_one (ps : List (Int × Int)) : ∀ u ∈ ps.flatMap prCells, u.oneCell' = true := fun u hu => by
  obtain ⟨p, _, h⟩ := List.mem_flatMap.1 hu
  simp only [prCells, List.mem_cons, List.not_mem_nil, or_false] at h
  rcases h with rfl | rfl <;> rfl
theorem ext_grown_nil {w w1 : World} (hg : w.grownBy w1 (Value.slice none 0 0).ownBlock) : Below w.heap.size w w1 := (Below.refl _ w).grown hg (Nat.le_refl _) fun k hk => by cases hk
theorem rdk_set {w : World} {e : TypeId} {A : Option Addr} {cs : List Value} (h : RdK w e A cs) {a : Addr} (ha : ∀ c fz, w.heap[a.block]? ≠ some (.cells c e fz)) (v : Value) : RdK (w.setCell a v) e A cs := fun j u hj => by
  obtain ⟨b, o, e1, hc, c, fz, hb⟩ := h j u hj
  have hne : b ≠ a.block := fun he => ha c fz (he ▸ hb)
  refine ⟨b, o, e1, cell_set_other hc hne v, c, fz, ?_⟩
  rw [← hb]
  simp [World.setCell, Array.getElem?_modify, Ne.symm hne]
/-- what Theory hands on -/
def TheoryPost (N : Int) (rs : List Rw) (ov : List (Int × Int)) (w : World) (e : Ending) (w' : World) : Prop :=
  ∃ (rs' : List Rw) (RA' : Option Addr) (rc' : Nat) (OA' : Option Addr) (oc' : Nat), e = .returned (.agg #[.int .i64 N, .slice RA' rs'.length rc', .slice OA' ov.length oc']) ∧ rs'.map Rw.rl = rs.map Rw.rl ∧ Rws w' RA' rs' ∧ Rd w' OA' (ov.flatMap prCells) ∧ Below w.heap.size w w'
end Go.Proofs.YtjfiodknjchngaaGreatDoor.LawT
namespace Go.Proofs.YtjfiodknjchngaaGreatDoor.LawT
open Go.RowKit Mem Thy Nest Day Thm Solve Val

def oneR : Rw := ⟨1, 1, [], none, 0⟩
theorem one_right : Right 1 [oneR] [] := by
  refine ⟨?_, ?_, ?_, ⟨fun _ => 0, fun p hp => by cases hp⟩⟩
  · rintro (h | ⟨r, hr, h⟩)
    · unfold Bound0 at h; simp at h
    · simp at hr; subst hr; unfold BodyB oneR at h; simp at h
  · rintro ⟨r, hr, h⟩
    simp at hr; subst hr; unfold KindB oneR at h; simp at h
  · rintro (⟨r, hr, h⟩ | ⟨p, hp, _⟩)
    · simp at hr; subst hr
      rcases h with h | ⟨x, hx, _⟩
      · exact h ((litW_iff (by omega) (by omega)).2 (by simp [oneR]))
      · cases hx
    · cases hp
theorem one_plain {s h : St} (g : Thy.Good (thOf 1 [oneR] []) s h) (f : Thy.Fin (thOf 1 [oneR] []) s h) : h 1 = 1 ∧ h (-1) = 2 := by
  have hr : ∀ r ∈ (thOf 1 [oneR] []).rules, r = ⟨1, 1, []⟩ := fun r hr => by simpa [thOf, oneR, Rw.rl] using hr
  have l1 : (thOf 1 [oneR] []).Lit 1 := by simp [Th.Lit, thOf]
  have l2 : (thOf 1 [oneR] []).Lit (-1) := by simp [Th.Lit, thOf]
  have n : ∀ q, SureN (thOf 1 [oneR] []) s q := fun q r hr' hk => by rw [hr r hr'] at hk; simp at hk
  have s1 := g.fin f (a := true) (b := false) l1 (n 1)
  have s2 := g.fin f (a := true) (b := false) l2 (n (-1))
  refine ⟨g.fin f (a := false) (b := true) l1 (.inr ⟨s2, ⟨⟨1, 1, []⟩, by simp [thOf, oneR, Rw.rl], by simp, rfl, fun x hx => by cases hx⟩, ?_⟩), g.fin f (a := false) (b := false) l2 ⟨s2, .inr (.inl fun r hr' _ he => ?_)⟩⟩
  · rintro ⟨i, hi, he, _⟩
    have := hr _ (List.getElem_mem hi)
    rw [this] at he
    simp at he
  · rw [hr r hr'] at he
    simp at he
/-- the errors that the road reads -/
structure E4 (w : World) (aB aK aN aO : Addr) : Prop where
  e : ErrR w (errV aB) (errV aK) (errV aN) (errV aO)
theorem E4.ext {w w' : World} {aB aK aN aO : Addr} (h : E4 w aB aK aN aO) (hb : Below w.heap.size w w') : E4 w' aB aK aN aO := ⟨h.e.ext hb⟩
end Go.Proofs.YtjfiodknjchngaaGreatDoor.LawT
namespace Go.Proofs.YtjfiodknjchngaaGreatDoor.ReasonTotal
open Go.RowKit Mem Thy Nest Day Thm Solve Val LawT

theorem thOf_congr {n : Nat} {rs rs' : List Rw} {ov : List (Int × Int)} (h : rs'.map Rw.rl = rs.map Rw.rl) : thOf n rs' ov = thOf n rs ov := by unfold thOf; rw [h]
theorem place_half {q : Int} (_h : q ≠ 0) : place q / 2 = q.natAbs - 1 := by unfold place; split <;> omega
theorem right_rules {n : Nat} {rs rs' : List Rw} {ov : List (Int × Int)} (hr : Right n rs' ov) (h : rs'.map Rw.rl = rs.map Rw.rl) : ∀ r ∈ rs, (r.head ≠ 0 ∧ -(n : Int) ≤ r.head ∧ r.head ≤ n) ∧ ∀ x ∈ r.body, x ≠ 0 ∧ -(n : Int) ≤ x ∧ x ≤ n := fun r hm => by
  have hN := hr.names
  have h1 : r.rl ∈ rs'.map Rw.rl := by rw [h]; exact List.mem_map.2 ⟨r, hm, rfl⟩
  obtain ⟨r', hm', e⟩ := List.mem_map.1 h1
  have e1 : r'.head = r.head := congrArg Rl.head e
  have e2 : r'.body = r.body := congrArg Rl.body e
  refine ⟨?_, fun x hx => ?_⟩
  · rw [← e1]
    exact (litW_iff hN.1 hN.2).1 (Classical.byContradiction fun c => hr.n (.inl ⟨r', hm', .inl c⟩))
  · exact (litW_iff hN.1 hN.2).1 (Classical.byContradiction fun c => hr.n (.inl ⟨r', hm', .inr ⟨x, by rw [e2]; exact hx, c⟩⟩))
end Go.Proofs.YtjfiodknjchngaaGreatDoor.ReasonTotal

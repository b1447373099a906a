/- The explanation of a text: the program's. -/
import Derived.Test.YtpbmamcmmogidaaDoorWtS
import Derived.Test.YtpbmamcmmogidaaDoorFlt
namespace Go.Proofs.YtpbmamcmmogidaaDoor.Wt
open Go.RowKit Mem Nest Bld Err Flt

/-! ### The words ahead of a row, one kind after the other -/
def ksL : List St := [(true, true, 0), (true, false, 0), (false, true, 0), (false, false, 0)]
def kwp (a b : Bool) : List UInt8 := kw a b ++ [32]
/-- the first of k kinds whose words stand ahead of a row, with what stands behind -/
def fk : Nat → List UInt8 → Option (Bool × Bool × List UInt8)
  | 0, _ => none
  | k + 1, r => match fk k r with
    | some x => some x
    | none => match ksL[k]? with
      | none => none
      | some x => if Lib.hasPrefix r (kwp x.1 x.2.1) then some (x.1, x.2.1, r.drop (kwp x.1 x.2.1).length) else none
theorem fk_had {k : Nat} {r : List UInt8} {x : Bool × Bool × List UInt8} (h : fk k r = some x) : fk (k + 1) r = some x := by rw [fk, h]
theorem fk_hit {k : Nat} {r : List UInt8} {x : St} (h : fk k r = none) (hx : ksL[k]? = some x) (hp : Lib.hasPrefix r (kwp x.1 x.2.1) = true) : fk (k + 1) r = some (x.1, x.2.1, r.drop (kwp x.1 x.2.1).length) := by rw [fk, h]; simp only [hx]; rw [if_pos hp]
theorem fk_miss {k : Nat} {r : List UInt8} {x : St} (h : fk k r = none) (hx : ksL[k]? = some x) (hp : Lib.hasPrefix r (kwp x.1 x.2.1) = false) : fk (k + 1) r = none := by rw [fk, h]; simp only [hx]; rw [hp]; rfl
theorem fk_all (r : List UInt8) : fk 4 r = kindF r := by
  unfold kindF
  cases h1 : Lib.hasPrefix r (kw true true ++ [32]) with
  | true =>
    rw [fk_had (fk_had (fk_had (fk_hit (k := 0) rfl (x := (true, true, 0)) rfl h1)))]
    rfl
  | false =>
    have e1 := fk_miss (k := 0) (r := r) rfl (x := (true, true, 0)) rfl h1
    rw [if_neg (by simp)]
    cases h2 : Lib.hasPrefix r (kw true false ++ [32]) with
    | true =>
      rw [fk_had (fk_had (fk_hit e1 (x := (true, false, 0)) rfl h2))]
      rfl
    | false =>
      have e2 := fk_miss e1 (x := (true, false, 0)) rfl h2
      rw [if_neg (by simp)]
      cases h3 : Lib.hasPrefix r (kw false true ++ [32]) with
      | true =>
        rw [fk_had (fk_hit e2 (x := (false, true, 0)) rfl h3)]
        rfl
      | false =>
        have e3 := fk_miss e2 (x := (false, true, 0)) rfl h3
        rw [if_neg (by simp)]
        cases h4 : Lib.hasPrefix r (kw false false ++ [32]) with
        | true => rw [fk_hit e3 (x := (false, false, 0)) rfl h4]; rfl
        | false => rw [fk_miss e3 (x := (false, false, 0)) rfl h4]; rfl
theorem trim_hit {r p : List UInt8} (h : Lib.hasPrefix r p = true) : Lib.trimPrefix r p = r.drop p.length := by unfold Lib.trimPrefix; rw [if_pos h]
theorem trim_le (r p : List UInt8) : (Lib.trimPrefix r p).length ≤ r.length := by
  unfold Lib.trimPrefix
  split
  · rw [List.length_drop]; omega
  · omega
/-! ### The library at rows: CutPrefix, Index -/
theorem cutp_any (s p : List UInt8) (q : ByteArray) (hq : q = ⟨p.toArray⟩) (w : World) :
    Calls Tryd.prog 73 #[.string ⟨s.toArray⟩, .string q] w fun e w' => e = .returned (.tuple #[.string ⟨(Lib.trimPrefix s p).toArray⟩, .bool (Lib.hasPrefix s p)]) ∧ w = w' := by
  subst hq
  exact (Tryd.strings_CutPrefix ⟨s.toArray⟩ ⟨p.toArray⟩ w).mono fun _ _ ⟨h1, h2⟩ => ⟨h1, h2.symm⟩
def idxV (N : List (List UInt8)) (s : List UInt8) : Int := if idxF N s < N.length then (idxF N s : Int) else -1
theorem ba_inj {l m : List UInt8} (h : (ByteArray.mk l.toArray) = ByteArray.mk m.toArray) : l = m := by
  have := congrArg (fun x : ByteArray => x.data.toList) h
  simpa using this
theorem getD_ba (N : List (List UInt8)) (j : Nat) (h : j < N.length) : (N.map fun x => (ByteArray.mk x.toArray)).getD j ByteArray.empty = ⟨N[j].toArray⟩ := by
  simp [List.getD, List.getElem?_map, List.getElem?_eq_getElem h]
theorem idx_lib (N : List (List UInt8)) (s : List UInt8) : Lib.idxOfS ((N.map fun x => (ByteArray.mk x.toArray)).take N.length) ⟨s.toArray⟩ = idxV N s := by
  unfold idxV idxF
  by_cases h : N.findIdx (fun x => x == s) < N.length
  · rw [if_pos h]
    refine Lib.idxOfS_hit _ _ _ _ h (by simp) ?_ fun j hj => ?_
    · rw [getD_ba N _ h]
      have := List.findIdx_getElem (w := h)
      rw [beq_iff_eq] at this
      rw [this]
    · rw [getD_ba N _ (by omega)]
      intro e
      have := List.not_of_lt_findIdx hj
      rw [ba_inj e] at this
      simp at this
  · rw [if_neg h]
    refine Lib.idxOfS_miss _ _ _ fun j hj => ?_
    rw [getD_ba N _ hj]
    intro e
    exact h (List.findIdx_lt_length_of_exists ⟨N[j], List.getElem_mem hj, by rw [ba_inj e]; simp⟩)
theorem index_any (N : List (List UInt8)) (hN : N.length ≤ 40) (NA : Option Addr) (nc : Nat) (s : List UInt8) (w : World) (h : Rd w NA (N.map strV)) :
    Calls Tryd.prog 74 #[.slice NA N.length nc, .string ⟨s.toArray⟩] w fun e w' => e = .returned (.int .i64 (idxV N s)) ∧ w = w' := by
  by_cases h0 : N = []
  · subst h0
    exact (Tryd.slices_Index_string_empty NA nc ⟨s.toArray⟩ w).mono fun _ _ ⟨h1, h2⟩ => ⟨h1, h2.symm⟩
  · obtain ⟨b, o, rfl, _⟩ := name_at h (k := 0) (by cases N with
      | nil => exact absurd rfl h0
      | cons _ _ => simp)
    refine (Tryd.slices_Index_string b o N.length nc (N.map fun x => (ByteArray.mk x.toArray)) ⟨s.toArray⟩ w (by simp) (by omega) (fun j hj => ?_)).mono fun _ _ ⟨h1, h2⟩ => ⟨by rw [h1, idx_lib], h2.symm⟩
    have hj' : j < N.length := by simpa using hj
    obtain ⟨b', o', e, hc⟩ := name_at h hj'
    cases e
    rw [getD_ba N j hj']
    exact hc
/-! ### why.Read -/
def PReadPost (N : List (List UInt8)) (s : List UInt8) (A : Nat → Addr) (w : World) (e : Ending) (w' : World) : Prop :=
  ∃ (v : Value) (L : Option Addr) (c : Nat), e = .returned (.tuple #[.slice L (stepsF N s).2.2.length c, v]) ∧ PErr A w' (stepsF N s).1 (stepsF N s).2.1 v ∧ Rd w' L ((stepsF N s).2.2.flatMap spC) ∧ Below w.heap.size w w'
theorem pread_of {N : List (List UInt8)} {s : List UInt8} {A : Nat → Addr} {w w' : World} {c a : Int} {l : List St} {v : Value} {L : Option Addr} {k : Nat} (h : stepsF N s = (c, a, l)) (hp : PErr A w' c a v) (hr : Rd w' L (l.flatMap spC)) (hb : Below w.heap.size w w') :
    PReadPost N s A w (.returned (.tuple #[.slice L l.length k, v])) w' := ⟨v, L, k, by rw [h], by rw [h]; exact hp, by rw [h]; exact hr, hb⟩
theorem step_info : (Tryd.prog.info? 26).map (fun i => (i.zero, i.size, i.bytes)) = some (some (.agg #[.bool false, .bool false, .int .i64 0]), 3, 16) := by kernel_rfl
theorem rd_blk {w : World} {V : Nat} {T : TypeId} {cs : List Value} (h : Blk w V T cs) : Rd w (some ⟨V, 0, none⟩) cs := fun j u hj => ⟨V, 0, rfl, by rw [Nat.zero_add]; exact h.cell j hj⟩
theorem row_at {w : World} {A : Option Addr} {R : List (List UInt8)} (h : Rd w A (R.map strV)) {k : Nat} (hk : k < R.length) :
    ∃ b o, A = some ⟨b, o, none⟩ ∧ w.cell? ⟨b, o + k, none⟩ = some (.string ⟨R[k].toArray⟩) := name_at h hk
/-- how far the kinds of a row have been looked at -/
def KSt (X k : Nat) (r : List UInt8) (t8 t10 : Value) (wi : World) : Prop :=
  (t10 = .bool false ∧ t8 = .string ⟨r.toArray⟩ ∧ fk k r = none ∧ Blk wi X 26 [.bool false, .bool false, .int .i64 0]) ∨
  (∃ a b rest, t10 = .bool true ∧ t8 = .string ⟨rest.toArray⟩ ∧ fk k r = some (a, b, rest) ∧ Blk wi X 26 [.bool a, .bool b, .int .i64 0])
theorem fk_len {k : Nat} {r : List UInt8} {x : Bool × Bool × List UInt8} (h : fk k r = some x) : x.2.2.length ≤ r.length := by
  induction k with
  | zero => cases h
  | succ k ih =>
    unfold fk at h
    cases hk : fk k r with
    | some y =>
      rw [hk] at h ih
      obtain rfl := Option.some.inj h
      exact ih rfl
    | none =>
      rw [hk] at h
      simp only at h
      cases hx : ksL[k]? with
      | none => rw [hx] at h; cases h
      | some y =>
        rw [hx] at h
        simp only at h
        split at h
        · obtain rfl := Option.some.inj h
          simp only [List.length_drop]
          omega
        · cases h
end Go.Proofs.YtpbmamcmmogidaaDoor.Wt

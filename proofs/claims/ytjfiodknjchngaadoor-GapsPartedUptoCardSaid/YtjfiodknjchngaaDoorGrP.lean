/- Gaps: a parted table in plain lists: each case fits one of its rows just where it fits a row of the table, and that row says the same. Gaps: sets of rows as keys of a map; the rows that rest hands on. -/
import Derived.Test.YtjfiodknjchngaaDoorGsP
import Derived.Test.YtjfiodknjchngaaDoorGqA
import Derived.Test.YtjfiodknjchngaaDoorMapSet
import Derived.Maps.Keyed
namespace Go.Proofs.YtjfiodknjchngaaDoor.Gp
open Go.RowKit Mem Nest Fk

/-- is this answer's set of rows left one that stood ahead? -/
def seenB (f : Nat → Nat) (i : Nat) : Bool := anyTo (fun j => f j == f i) i
/-- the cell of all answers that leave these rows -/
def cellP (f : Nat → Nat) (n x : Nat) : Option (List Int) := if ((List.range n).filter fun k => f k == x).length = n then none else some (((List.range n).filter fun k => f k == x).map fun k : Nat => (k : Int))
def restF (lf : Nat → Nat → Nat → Nat) (fo : Nat → List UInt8) : List Nat → Nat → Nat → List Rw
  | [], _, l => if l = 0 then [] else [⟨[], fo l⟩]
  | n :: ns, q, l => if l = 0 then [] else (List.range n).flatMap fun i => if seenB (lf l q) i = true then [] else (restF lf fo ns (q + 1) (lf l q i)).map fun r => ⟨cellP (lf l q) n (lf l q i) :: r.cells, r.out⟩
/-- the rows that are left behind a case -/
def lAll (lf : Nat → Nat → Nat → Nat) : Nat → Nat → List Int → Nat
  | _, l, [] => l
  | q, l, a :: c => lAll lf (q + 1) (lf l q a.toNat) c
theorem lAll_zero {lf : Nat → Nat → Nat → Nat} (hz : ∀ q a, lf 0 q a = 0) : ∀ (c : List Int) (q : Nat), lAll lf q 0 c = 0
  | [], _ => rfl
  | a :: c, q => by rw [lAll, hz, lAll_zero hz c]
theorem restF_len (lf : Nat → Nat → Nat → Nat) (fo : Nat → List UInt8) : ∀ (ns : List Nat) (q l : Nat), (restF lf fo ns q l).length ≤ (exts ns).length
  | [], q, l => by
    unfold restF
    split <;> simp [exts]
  | n :: ns, q, l => by
    unfold restF
    split
    · simp
    · rw [exts, List.length_flatMap, List.length_flatMap]
      have h : ∀ (L : List Nat), (L.map fun i => (if seenB (lf l q) i = true then [] else (restF lf fo ns (q + 1) (lf l q i)).map fun r => (⟨cellP (lf l q) n (lf l q i) :: r.cells, r.out⟩ : Rw)).length).sum ≤ (L.map fun i : Nat => ((exts ns).map fun c => (i : Int) :: c).length).sum := by
        intro L
        induction L with
        | nil => simp
        | cons i L ih =>
          simp only [List.map_cons, List.sum_cons]
          have : (if seenB (lf l q) i = true then [] else (restF lf fo ns (q + 1) (lf l q i)).map fun r => (⟨cellP (lf l q) n (lf l q i) :: r.cells, r.out⟩ : Rw)).length ≤ ((exts ns).map fun c => (i : Int) :: c).length := by
            split
            · simp
            · rw [List.length_map, List.length_map]
              exact restF_len lf fo ns (q + 1) (lf l q i)
          omega
      exact h _
theorem flat_one {α : Type} {P : Nat → Bool} {L : List α} {n i : Nat} (hi : i < n) (hp : P i = true) (hu : ∀ j, j < n → P j = true → j = i) : ((List.range n).flatMap fun j => if P j = true then L else []) = L := by
  rw [show n = i + ((n - i - 1) + 1) by omega, List.range_add, List.range_succ_eq_map, List.flatMap_append]
  have h1 : ((List.range i).flatMap fun j => if P j = true then L else []) = [] := by
    rw [List.flatMap_eq_nil_iff]
    intro j hj
    rw [if_neg]
    intro h
    have := hu j (by have := List.mem_range.1 hj; omega) h
    have := List.mem_range.1 hj
    omega
  have h2 : ((List.map (fun x => i + x) (0 :: List.map Nat.succ (List.range (n - i - 1)))).flatMap fun j => if P j = true then L else []) = L := by
    rw [List.map_cons, List.flatMap_cons, Nat.add_zero, if_pos hp]
    have h3 : ((List.map (fun x => i + x) (List.map Nat.succ (List.range (n - i - 1)))).flatMap fun j => if P j = true then L else []) = [] := by
      rw [List.flatMap_eq_nil_iff]
      intro j hj
      obtain ⟨x, hx, rfl⟩ := List.mem_map.1 hj
      obtain ⟨y, hy, rfl⟩ := List.mem_map.1 hx
      have := List.mem_range.1 hy
      rw [if_neg]
      intro h
      have := hu (i + Nat.succ y) (by omega) h
      omega
    rw [h3, List.append_nil]
  rw [h1, h2, List.nil_append]
theorem seen_at {f : Nat → Nat} {i : Nat} (h : seenB f i = true) : ∃ j, j < i ∧ f j = f i := by
  unfold seenB anyTo at h
  rw [List.any_eq_true] at h
  obtain ⟨j, hj, e⟩ := h
  exact ⟨j, List.mem_range.1 hj, beq_iff_eq.1 e⟩
theorem seen_not {f : Nat → Nat} {i j : Nat} (h : seenB f i = false) (hj : j < i) : f j ≠ f i := by
  have := anyTo_no h hj
  simpa using this
/-- the first answer that leaves the same rows -/
theorem first_same (f : Nat → Nat) (a : Nat) : ∃ i, i ≤ a ∧ f i = f a ∧ seenB f i = false := by
  induction a using Nat.strongRecOn with
  | ind a ih =>
    cases h : seenB f a with
    | false => exact ⟨a, Nat.le_refl _, rfl, h⟩
    | true =>
      obtain ⟨j, hj, e⟩ := seen_at h
      obtain ⟨i, h1, h2, h3⟩ := ih j hj
      exact ⟨i, by omega, h2.trans e, h3⟩
theorem fit_cellP {f : Nat → Nat} {n x a : Nat} (ha : a < n) : fitC (cellP f n x) (a : Int) = (f a == x) := by
  unfold cellP
  split
  · rename_i h
    have h2 : ((List.range n).filter fun k => f k == x).length = (List.range n).length := by rw [h, List.length_range]
    have h3 := List.length_filter_eq_length_iff.1 h2 a (List.mem_range.2 ha)
    rw [h3]
    rfl
  · show (((List.range n).filter fun k => f k == x).map fun k : Nat => (k : Int)).contains (a : Int) = _
    rw [Bool.eq_iff_iff, List.contains_iff_mem, List.mem_map]
    constructor
    · rintro ⟨k, hk, e⟩
      have : k = a := by omega
      subst this
      exact (List.mem_filter.1 hk).2
    · intro h
      exact ⟨a, List.mem_filter.2 ⟨List.mem_range.2 ha, h⟩, rfl⟩
/-- which rows of a parted table a case fits -/
theorem restF_fits (lf : Nat → Nat → Nat → Nat) (fo : Nat → List UInt8) (hz : ∀ q a, lf 0 q a = 0) : ∀ (ns : List Nat) (q l : Nat) (c : List Int), c ∈ exts ns →
    ((restF lf fo ns q l).filter fun r => fitR r.cells c).map (·.out) = if lAll lf q l c = 0 then [] else [fo (lAll lf q l c)]
  | [], q, l, c, h => by
    simp only [exts, List.mem_singleton] at h
    subst h
    unfold restF lAll
    split
    · rfl
    · simp [fitR]
  | n :: ns, q, l, c, h => by
    simp only [exts, List.mem_flatMap, List.mem_map, List.mem_range] at h
    obtain ⟨a, ha, d, hd, rfl⟩ := h
    rw [lAll, Int.toNat_natCast]
    unfold restF
    by_cases hl : l = 0
    · subst hl
      rw [if_pos rfl, hz, lAll_zero hz, if_pos rfl]
      rfl
    · rw [if_neg hl, List.filter_flatMap, List.map_flatMap, ← restF_fits lf fo hz ns (q + 1) (lf l q a) d hd]
      obtain ⟨i, hi, he, hs⟩ := first_same (lf l q) a
      have e : (fun j : Nat => (List.filter (fun r => fitR r.cells ((a : Int) :: d)) (if seenB (lf l q) j = true then [] else (restF lf fo ns (q + 1) (lf l q j)).map fun r => (⟨cellP (lf l q) n (lf l q j) :: r.cells, r.out⟩ : Rw))).map (·.out)) =
          fun j => if (!seenB (lf l q) j && (lf l q a == lf l q j)) = true then ((restF lf fo ns (q + 1) (lf l q a)).filter fun r => fitR r.cells d).map (·.out) else [] := by
        funext j
        cases hsj : seenB (lf l q) j with
        | true => simp
        | false =>
          simp only [Bool.false_eq_true, if_false, Bool.not_false, Bool.true_and]
          rw [List.filter_map, List.map_map]
          by_cases hx : lf l q a = lf l q j
          · rw [if_pos (by simp [hx])]
            have h3 : ((fun r : Rw => fitR r.cells ((a : Int) :: d)) ∘ fun r : Rw => (⟨cellP (lf l q) n (lf l q j) :: r.cells, r.out⟩ : Rw)) = fun r : Rw => fitR r.cells d := by
              funext r
              simp only [Function.comp, fitR, fit_cellP ha, hx]
              simp
            rw [h3, hx]
            rfl
          · rw [if_neg (by simp [hx])]
            have h3 : ((fun r : Rw => fitR r.cells ((a : Int) :: d)) ∘ fun r : Rw => (⟨cellP (lf l q) n (lf l q j) :: r.cells, r.out⟩ : Rw)) = fun _ => false := by
              funext r
              simp only [Function.comp, fitR, fit_cellP ha]
              simp [hx]
            rw [h3]
            simp
      rw [e]
      exact flat_one (by omega : i < n) (by simp [hs, he]) (fun j hj hp => by
        simp only [Bool.and_eq_true, Bool.not_eq_true', beq_iff_eq] at hp
        by_cases h1 : j < i
        · exact absurd (hp.2.symm.trans he.symm) (seen_not hs h1)
        · by_cases h2 : i < j
          · exact absurd (he.trans hp.2) (seen_not hp.1 h2)
          · omega)
/-- cells of a parted table -/
structure CellsV (ns : List Nat) (r : Rw) : Prop where
  len : r.cells.length = ns.length
  inr : ∀ k (h : k < r.cells.length) (h2 : k < ns.length) l, r.cells[k] = some l → ∀ x ∈ l, 0 ≤ x ∧ x < (ns[k] : Nat)
  ord : ∀ k (h : k < r.cells.length) l, r.cells[k] = some l → ∀ m, 0 < m → iAt l m ≤ iAt l (m - 1) → l.length ≤ m
theorem range_filter_ord (p : Nat → Bool) (n : Nat) : ∀ m, 0 < m → m < (((List.range n).filter p).map fun k : Nat => (k : Int)).length → iAt (((List.range n).filter p).map fun k : Nat => (k : Int)) (m - 1) < iAt (((List.range n).filter p).map fun k : Nat => (k : Int)) m := by
  intro m hm hlt
  have hp : ((List.range n).filter p).Pairwise (· < ·) := List.Pairwise.filter _ List.pairwise_lt_range
  have hlt2 : m < ((List.range n).filter p).length := by rwa [List.length_map] at hlt
  have h := List.pairwise_iff_getElem.1 hp (m - 1) m (by omega) hlt2 (by omega)
  rw [iAt_get hlt, iAt_get (by omega)]
  simp only [List.getElem_map]
  omega
theorem restF_cells (lf : Nat → Nat → Nat → Nat) (fo : Nat → List UInt8) : ∀ (ns : List Nat) (q l : Nat), ∀ r ∈ restF lf fo ns q l, CellsV ns r ∧ ∃ l', l' ≠ 0 ∧ r.out = fo l'
  | [], q, l, r, h => by
    unfold restF at h
    split at h
    · cases h
    · rename_i hl
      rw [List.mem_singleton] at h
      subst h
      exact ⟨⟨rfl, fun k h => by simp at h, fun k h => by simp at h⟩, l, hl, rfl⟩
  | n :: ns, q, l, r, h => by
    unfold restF at h
    split at h
    · cases h
    · rw [List.mem_flatMap] at h
      obtain ⟨i, hi, h⟩ := h
      split at h
      · cases h
      · obtain ⟨r', hr', rfl⟩ := List.mem_map.1 h
        obtain ⟨hc, l', hl', ho⟩ := restF_cells lf fo ns (q + 1) (lf l q i) r' hr'
        refine ⟨⟨by simp [hc.len], fun k hk h2 x hx => ?_, fun k hk x hx => ?_⟩, l', hl', ho⟩
        · cases k with
          | zero =>
            simp only [List.getElem_cons_zero] at hx ⊢
            unfold cellP at hx
            split at hx
            · cases hx
            · simp only [Option.some.injEq] at hx
              subst hx
              intro y hy
              obtain ⟨z, hz, rfl⟩ := List.mem_map.1 hy
              have := List.mem_range.1 (List.mem_filter.1 hz).1
              omega
          | succ k =>
            simp only [List.getElem_cons_succ] at hx ⊢
            exact hc.inr k (by simpa using hk) (by simpa using h2) x hx
        · cases k with
          | zero =>
            simp only [List.getElem_cons_zero] at hx
            unfold cellP at hx
            split at hx
            · cases hx
            · simp only [Option.some.injEq] at hx
              subst hx
              intro m hm hle
              apply Nat.le_of_not_lt
              intro hlt
              have := range_filter_ord (fun k => lf l q k == lf l q i) n m hm hlt
              omega
          | succ k =>
            simp only [List.getElem_cons_succ] at hx
            exact hc.ord k (by simpa using hk) x hx
end Go.Proofs.YtjfiodknjchngaaDoor.Gp
namespace Go.Proofs.YtjfiodknjchngaaDoor.Gp
open Go.RowKit Mem Nest Fk MapSet

theorem alive_law : Go.Maps.Keyed Tryd.prog 86 := Go.Maps.int_keyed Tryd.underlying86
theorem alive_key (a : Nat) (ha : a < 2 ^ 64) : ∃ kl, keyOf Tryd.prog 86 (.int .u64 (a : Int)) = some kl := by
  have h : a < 18446744073709551616 := ha
  have wu : (Lit.int .u64 (a : Int)).wf = true := Go.WalkArith.wf_u64 (by omega)
  refine ⟨.int .u64 (a : Int), ?_⟩
  unfold keyOf mapKey
  simp [Tryd.underlying86, wu]
theorem zeroBK (w : World) : (zeroValue 4).run Tryd.prog w = .ok (.bool false) w := by kernel_rfl
/-- a block of one cell that was just built is a row of one's own -/
theorem own_built {w : World} {B base : Nat} {T : TypeId} {v : Value} (h : Blk w B T [v]) (hb : base ≤ B) : w.ownsRow base T 1 (.slice (some ⟨B, 0, none⟩) 1 1) 1 [v] :=
  ⟨rfl, .inr ⟨B, 1, #[v], rfl, hb, h, Nat.le_refl _, by simp [maxLen], rfl, rfl⟩⟩
theorem own_lower {w : World} {base base' : Nat} {e : TypeId} {size n : Nat} {v : Value} {xs : List Value} (h : w.ownsRow base e size v n xs) (hb : base' ≤ base) : w.ownsRow base' e size v n xs :=
  ⟨h.1, h.2.imp id fun ⟨g, cap, cur, hv, hg, hr⟩ => ⟨g, cap, cur, hv, Nat.le_trans hb hg, hr⟩⟩
theorem own_builtN {w : World} {B base size : Nat} {T : TypeId} {cs : List Value} (h : Blk w B T cs) (hs : cs.length = size) (hb : base ≤ B) : w.ownsRow base T size (.slice (some ⟨B, 0, none⟩) 1 1) 1 cs := by
  subst hs
  exact ⟨by omega, .inr ⟨B, 1, cs.toArray, rfl, hb, h, Nat.le_refl _, by simp [maxLen], by simp, by simp⟩⟩
/-- a row that came out of rest -/
def RoN (w : World) (r : RwM) : Prop := RoK w r ∧ (r.A = none → r.c = 0)
/-- what rest tells -/
def RestPost (rs : List Rw) (w : World) (e : Ending) (w' : World) : Prop :=
  ∃ (A' : Option Addr) (c' : Nat) (m : List RwM), e = .returned (.slice A' m.length c') ∧ m.map RwM.rw = rs ∧ w'.ownsRow w.heap.size 91 2 (.slice A' m.length c') m.length (m.flatMap rwmCells) ∧ (∀ r ∈ m, RoN w' r) ∧ Below w.heap.size w w'
/-- a store into a map turns no row -/
theorem kp_map {P : Program} {k e : TypeId} {w w' : World} {b n : Nat} {S : Value → Prop} (h : SetM P k e w b n S) (hg : w.grownBy w' (some b)) : Kp (fun _ => False) w w' := by
  obtain ⟨D, ⟨es, cl, h1, h2⟩, hs⟩ := h
  refine ⟨hg.size, fun j c T fz hj _ => ?_⟩
  rw [hg.block j (Array.getElem?_eq_some_iff.1 hj).1]
  · exact hj
  · intro e
    cases e
    rw [h1] at hj
    cases hj
theorem RoN.kp {S : TypeId → Prop} {w w' : World} {r : RwM} (h : RoN w r) (k : Kp S w w') (h1 : ¬ S 3) (h2 : ¬ S 46) : RoN w' r := ⟨h.1.kp k h1 h2, h.2⟩
theorem RoN.ext {w w' : World} {r : RwM} (h : RoN w r) (hb : Below w.heap.size w w') : RoN w' r := h.kp (Kp.of (fun _ => False) hb) (fun h => h) (fun h => h)
theorem row_infoK : (Tryd.prog.info? 91).map (fun i => (i.zero, i.size, i.bytes)) = some (some (.agg #[.slice none 0 0, .string ByteArray.empty]), 2, 40) := by kernel_rfl
theorem int_infoK : (Tryd.prog.info? 3).map (fun i => (i.zero, i.size, i.bytes)) = some (some (.int .i64 0), 1, 8) := by kernel_rfl
theorem ints_infoK : (Tryd.prog.info? 46).map (fun i => (i.zero, i.size, i.bytes)) = some (some (.slice none 0 0), 1, 24) := by kernel_rfl
theorem restF_clen {lf : Nat → Nat → Nat → Nat} {fo : Nat → List UInt8} {ns : List Nat} {q l : Nat} {r : Rw} (h : r ∈ restF lf fo ns q l) : r.cells.length = ns.length := (restF_cells lf fo ns q l r h).1.len
theorem full_stop {α β : Type} {A : List β} {R M : List α} {F : List β} {g : α → β} {k : Nat} (hF : A ++ R.map g <+: F) (hM : M = R.take 61) (hl : (A ++ (M.take k).map g).length = 61) : A ++ (M.take k).map g = F.take 61 := by
  have h1 : A ++ (M.take k).map g <+: F := by
    refine List.IsPrefix.trans ?_ hF
    rw [hM]
    exact (List.prefix_append_right_inj A).2 (((List.take_prefix _ _).trans (List.take_prefix _ _)).map g)
  have h2 := List.prefix_iff_eq_take.1 h1
  rw [hl] at h2
  exact h2
theorem full_go {α β : Type} {A : List β} {R M : List α} {g : α → β} (hM : M = R.take 61) (hl : (A ++ M.map g).length ≤ 60) : A ++ M.map g = A ++ R.map g := by
  have h : R.length ≤ 60 := by
    rw [hM, List.length_append, List.length_map, List.length_take] at hl
    omega
  rw [hM, List.take_of_length_le (by omega)]
/-- the cell that the loop built -/
theorem cell_made {w : World} {base n x i : Nat} {f : Nat → Nat} {A : Option Addr} {c : Nat} {cl : List Int} (hn : n ≤ 1048576) (hi : i < n) (hf : f i = x) (hcl : cl = ((List.range n).filter fun k => f k == x).map fun k : Nat => (k : Int)) (h : w.ownsRow base 3 1 (.slice A cl.length c) cl.length (ints cl)) (hne : cl.length ≠ n) :
    CelK w ⟨cellP f n x, A, c⟩ ∧ cellP f n x = some cl := by
  have hc : cellP f n x = some cl := by
    unfold cellP
    rw [if_neg (by rw [hcl, List.length_map] at hne; exact hne), hcl]
  have hmem : i ∈ (List.range n).filter fun k => f k == x := List.mem_filter.2 ⟨List.mem_range.2 hi, by simp [hf]⟩
  have hpos : 0 < cl.length := by
    rw [hcl, List.length_map]
    exact List.length_pos_of_mem hmem
  have hle : cl.length ≤ n := by
    rw [hcl, List.length_map]
    have := List.length_filter_le (fun k => f k == x) (List.range n)
    rwa [List.length_range] at this
  refine ⟨⟨?_, fun h0 => ?_, fun _ => ?_, ?_⟩, hc⟩
  · rw [hc]
    exact RdK.of_own h
  · rw [hc] at h0
    cases h0
  · rcases h.2 with ⟨_, h2⟩ | ⟨g, cap, cur, h1, _⟩
    · omega
    · cases h1
      exact fun h => by cases h
  · rw [hc]
    show cl.length ≤ _
    omega
theorem rowKp {w w' : World} (h : Below w.heap.size w w') {m : RwM} (hm : RoK w m) : RoK w' m := hm.kp (Kp.of (fun _ => False) h) (fun h => h) (fun h => h)
/-- the rows of one answer's set -/
def onP (f : Nat → Nat) (n x : Nat) (r : Rw) : Rw := ⟨cellP f n x :: r.cells, r.out⟩
def fullP (lf : Nat → Nat → Nat → Nat) (fo : Nat → List UInt8) (ns : List Nat) (q l n k : Nat) : List Rw := (List.range k).flatMap fun i => if seenB (lf l q) i = true then [] else (restF lf fo ns (q + 1) (lf l q i)).map (onP (lf l q) n (lf l q i))
theorem fullP_succ (lf : Nat → Nat → Nat → Nat) (fo : Nat → List UInt8) (ns : List Nat) (q l n k : Nat) : fullP lf fo ns q l n (k + 1) = fullP lf fo ns q l n k ++ if seenB (lf l q) k = true then [] else (restF lf fo ns (q + 1) (lf l q k)).map (onP (lf l q) n (lf l q k)) := by
  unfold fullP
  rw [List.range_succ, List.flatMap_append]
  simp
theorem fullP_pre (lf : Nat → Nat → Nat → Nat) (fo : Nat → List UInt8) (ns : List Nat) (q l n : Nat) {k m : Nat} (h : k ≤ m) : fullP lf fo ns q l n k <+: fullP lf fo ns q l n m := by
  unfold fullP
  rw [show m = k + (m - k) by omega, List.range_add, List.flatMap_append]
  exact List.prefix_append _ _
theorem restF_full (lf : Nat → Nat → Nat → Nat) (fo : Nat → List UInt8) (ns : List Nat) (n q l : Nat) (hl : l ≠ 0) : restF lf fo (n :: ns) q l = fullP lf fo ns q l n n := by
  rw [restF, if_neg hl]
  rfl
end Go.Proofs.YtjfiodknjchngaaDoor.Gp

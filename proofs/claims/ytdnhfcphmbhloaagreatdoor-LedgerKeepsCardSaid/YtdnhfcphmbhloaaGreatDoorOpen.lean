/- Slices of integers among the arguments, opened to the walks' own words. Slices of structs among the arguments, opened to the walks' own words. Slices among the arguments, opened, their lengths bounded by the reading's bulk. -/
import Derived.Test.YtdnhfcphmbhloaaGreatDoorMem
import Derived.Test.YtdnhfcphmbhloaaGreatDoorCal
import Derived.Test.YtdnhfcphmbhloaaGreatDoorDay
import Derived.ProofKit
import Derived.OpenShut
import Derived.ChangeOld
import Derived.Below
import Derived.Test.YtdnhfcphmbhloaaGreatDoorNest
import Derived.Test.YtdnhfcphmbhloaaGreatDoorRows
namespace Go.Proofs.YtdnhfcphmbhloaaGreatDoor.Open
open Go.ChangeShapes Go.WideShapes Go.ChangeAt Go.RowKit Mem
theorem getD_map (zs : List Int) (j : Nat) (h : j < zs.length) : (zs.map (Value.int .i64))[j]? = some (.int .i64 (zs.getD j 0)) := by
  simp [List.getD, List.getElem?_eq_getElem h]
/-- a slice of ints came in: its elements, as a list -/
theorem ints_of {H : Type} {enc : TypeId × Value → H} {W : World} {A : Option Addr} {n c fuel : Nat} {x : DataW H × List MemPlace}
    (h : DataW.trod enc Tryz.prog W 0 (fun _ => true) true fuel 115 (Value.slice A n c).cells.toList = some x) : ∃ zs : List Int, n = zs.length ∧ zs.length ≤ c ∧ c ≤ maxLen ∧ Rd W A (ints zs) := by
  rcases open_ints Tryz.underlying115 Tryz.underlying3 (by kernel_rfl) h with ⟨hcs, _⟩ | ⟨a, l, cap, zs, hcs, _, hl, hm, hz, _, hcell, hwz⟩
  · simp [Value.cells] at hcs
    obtain ⟨rfl, rfl, rfl⟩ := hcs
    exact ⟨[], rfl, by simp, by simp [maxLen], Rd.nil⟩
  · simp [Value.cells] at hcs
    obtain ⟨rfl, rfl, rfl⟩ := hcs
    have hz' : zs.length = c := by simpa using hz
    refine ⟨zs.take n, by rw [List.length_take]; omega, by rw [List.length_take]; omega, hm, ?_⟩
    have hr : Rd W (some a) (ints zs) := by
      intro j u hj
      have hjl : j < zs.length := by
        have := (List.getElem?_eq_some_iff.1 hj).1
        rwa [ints_len] at this
      obtain ⟨b, o, rfl, hc⟩ := ints_at hcell (by omega)
      refine ⟨b, o, rfl, ?_⟩
      rw [hc j hjl, ← getD_map zs j hjl]
      exact hj
    have := hr.take n
    rwa [ints, ← List.map_take] at this
end Go.Proofs.YtdnhfcphmbhloaaGreatDoor.Open
namespace Go.Proofs.YtdnhfcphmbhloaaGreatDoor.Open
open Go.ChangeShapes Go.WideShapes Go.ChangeAt Go.RowKit Mem

theorem pick {α : Type} {P : Nat → α → Prop} : ∀ (n : Nat), (∀ i, i < n → ∃ r, P i r) → ∃ l : List α, l.length = n ∧ ∀ (i : Nat) (r : α), l[i]? = some r → P i r
  | 0, _ => ⟨[], rfl, fun i r h => by simp at h⟩
  | n + 1, h => by
    obtain ⟨l, hl, hp⟩ := pick n (fun i hi => h i (by omega))
    obtain ⟨r, hr⟩ := h n (by omega)
    refine ⟨l ++ [r], by simp [hl], fun i r' h' => ?_⟩
    by_cases hi : i < l.length
    · rw [List.getElem?_append_left hi] at h'
      exact hp i r' h'
    · rw [List.getElem?_append_right (by omega)] at h'
      have hlt := (List.getElem?_eq_some_iff.1 h').1
      simp at hlt
      have : i = n := by omega
      subst this
      rw [hl] at h'
      simp at h'
      subst h'
      exact hr

section
variable {H : Type} {enc : TypeId × Value → H} {P : Program} {w : World} {base : Nat} {spare : Nat → Bool} {held : Bool}
/-- a slice came in, whose elements are read by a reader of the element's type -/
theorem rows_of {α : Type} {f : α → List Value} {Q : α → Prop} {sz : Nat} {t e : TypeId} (hsz : 0 < sz) (hf : ∀ x, (f x).length = sz) (ht : P.underlying t = some (.slice e)) (hc : P.cellsOf e = sz)
    (hread : ∀ n cs y, DataW.trod enc P w base spare held n e cs = some y → ∃ r, cs = f r ∧ Q r)
    {A : Option Addr} {n c fuel : Nat} {x : DataW H × List MemPlace} (h : DataW.trod enc P w base spare held fuel t (Value.slice A n c).cells.toList = some x) :
    ∃ l : List α, n = l.length ∧ l.length ≤ c ∧ c ≤ maxLen ∧ Rd w A (l.flatMap f) ∧ ∀ r ∈ l, Q r := by
  rcases DataW.trod_slice ht h with ⟨h0, _⟩ | ⟨a, len, cap, elems, rest, m, _, hcs, _, _, hl, hm, hlen, hel, _, _⟩
  · simp [Value.cells] at h0
    obtain ⟨rfl, rfl, rfl⟩ := h0
    exact ⟨[], rfl, by simp, by simp [maxLen], Rd.nil, by simp⟩
  · simp [Value.cells] at hcs
    obtain ⟨rfl, rfl, rfl⟩ := hcs
    have each : ∀ i, i < n → ∃ r, w.cells? base (a.add (i * sz)) sz = some (f r) ∧ Q r := by
      intro i hi
      have hb := hel i hi
      rw [hc, List.getElem?_eq_getElem (by omega), Option.bind_eq_some_iff] at hb
      obtain ⟨cs, h1, h2⟩ := hb
      obtain ⟨r, rfl, hq⟩ := hread _ _ _ h2
      exact ⟨r, h1, hq⟩
    obtain ⟨l, hll, hp⟩ := pick n each
    refine ⟨l, hll.symm, by omega, hm, ?_, fun r hr => ?_⟩
    · intro j u hj
      have hjl : j < l.length * sz := by
        have := (List.getElem?_eq_some_iff.1 hj).1
        rwa [flat_len hf] at this
      have hk : j / sz < l.length := (Nat.div_lt_iff_lt_mul hsz).2 hjl
      have hm' : j % sz < sz := Nat.mod_lt _ hsz
      have hsplit : j / sz * sz + j % sz = j := Nat.div_add_mod' j sz
      have hcell := (World.cells?_some (hp (j / sz) _ (List.getElem?_eq_getElem hk)).1).2.2 (j % sz) hm'
      have hv : (f l[j / sz])[j % sz]? = some u := by
        have := flat_at hf l (j / sz) (j % sz) hm'
        rw [hsplit, hj, List.getElem?_eq_getElem hk] at this
        exact this.symm
      rw [hv, Addr.add_add, hsplit] at hcell
      obtain ⟨b, off, spot⟩ := a
      have hpos : 0 < l.length := Nat.lt_of_le_of_lt (Nat.zero_le _) hk
      have h0 := (World.cells?_some (hp 0 _ (List.getElem?_eq_getElem hpos)).1).2.2 0 hsz
      have hv0 : (f (l[0]'hpos))[0]? = some ((f (l[0]'hpos))[0]'(by rw [hf]; exact hsz)) := List.getElem?_eq_getElem _
      rw [hv0] at h0
      have hs := World.cell?_spot h0
      have : spot = none := by simpa [Addr.add] using hs
      subst this
      rw [add_plain] at hcell
      exact ⟨b, off, rfl, hcell⟩
    · obtain ⟨i, hi⟩ := List.getElem?_of_mem hr
      exact (hp i r hi).2
end
end Go.Proofs.YtdnhfcphmbhloaaGreatDoor.Open
namespace Go.Proofs.YtdnhfcphmbhloaaGreatDoor.Open
open Go.ChangeShapes Go.WideShapes Go.ChangeAt Go.RowKit Mem

section
variable {H : Type}
theorem bulk_pos (d : DataW H) : 1 ≤ Rows.uptoBulk d := by
  cases d with
  | lit l => cases l <;> simp [Rows.uptoBulk]
  | _ => simp [Rows.uptoBulk]
theorem bulkAll_len : ∀ (l : List (DataW H)), l.length ≤ Rows.uptoBulkAll l
  | [] => by simp
  | d :: r => by
    have h1 := bulk_pos d
    have h2 := bulkAll_len r
    simp only [Rows.uptoBulkAll, List.length_cons]
    omega
theorem bulkAll_mem : ∀ (l : List (DataW H)) (d : DataW H), d ∈ l → Rows.uptoBulk d ≤ Rows.uptoBulkAll l
  | [], d, h => by cases h
  | x :: r, d, h => by
    simp only [Rows.uptoBulkAll]
    rcases List.mem_cons.1 h with rfl | h
    · omega
    · have := bulkAll_mem r d h
      omega
end
section
variable {H : Type} {enc : TypeId × Value → H} {P : Program} {w : World} {base : Nat} {spare : Nat → Bool} {held : Bool}
/-- a slice came in, whose elements are read by a reader of the element's type -/
theorem rows_ofN {N : Nat} {α : Type} {f : α → List Value} {Q : α → Prop} {sz : Nat} {t e : TypeId} (hsz : 0 < sz) (hf : ∀ x, (f x).length = sz) (ht : P.underlying t = some (.slice e)) (hc : P.cellsOf e = sz)
    (hread : ∀ n cs y, DataW.trod enc P w base spare held n e cs = some y → Rows.uptoBulk y.1 ≤ N → ∃ r, cs = f r ∧ Q r)
    {A : Option Addr} {n c fuel : Nat} {x : DataW H × List MemPlace} (h : DataW.trod enc P w base spare held fuel t (Value.slice A n c).cells.toList = some x) (hx : Rows.uptoBulk x.1 ≤ N) :
    ∃ l : List α, n = l.length ∧ l.length ≤ c ∧ c ≤ maxLen ∧ Rd w A (l.flatMap f) ∧ l.length ≤ N ∧ ∀ r ∈ l, Q r := by
  rcases DataW.trod_slice ht h with ⟨h0, _⟩ | ⟨a, len, cap, elems, rest, m, _, hcs, hxe, _, hl, hm, hlen, hel, _, _⟩
  · simp [Value.cells] at h0
    obtain ⟨rfl, rfl, rfl⟩ := h0
    exact ⟨[], rfl, by simp, by simp [maxLen], Rd.nil, by simp, by simp⟩
  · simp [Value.cells] at hcs
    obtain ⟨rfl, rfl, rfl⟩ := hcs
    subst hxe
    simp only [Rows.uptoBulk] at hx
    have hle : elems.length ≤ N := by
      have := bulkAll_len (elems.map (·.1))
      rw [List.length_map] at this
      omega
    have each : ∀ i, i < n → ∃ r, w.cells? base (a.add (i * sz)) sz = some (f r) ∧ Q r := by
      intro i hi
      have hb := hel i hi
      rw [hc, List.getElem?_eq_getElem (by omega), Option.bind_eq_some_iff] at hb
      obtain ⟨cs, h1, h2⟩ := hb
      obtain ⟨r, rfl, hq⟩ := hread _ _ _ h2 (by
        have := bulkAll_mem (elems.map (·.1)) _ (List.mem_map.2 ⟨_, List.getElem_mem (show i < elems.length by omega), rfl⟩)
        omega)
      exact ⟨r, h1, hq⟩
    obtain ⟨l, hll, hp⟩ := pick n each
    refine ⟨l, hll.symm, by omega, hm, ?_, by omega, fun r hr => ?_⟩
    · intro j u hj
      have hjl : j < l.length * sz := by
        have := (List.getElem?_eq_some_iff.1 hj).1
        rwa [flat_len hf] at this
      have hk : j / sz < l.length := (Nat.div_lt_iff_lt_mul hsz).2 hjl
      have hm' : j % sz < sz := Nat.mod_lt _ hsz
      have hsplit : j / sz * sz + j % sz = j := Nat.div_add_mod' j sz
      have hcell := (World.cells?_some (hp (j / sz) _ (List.getElem?_eq_getElem hk)).1).2.2 (j % sz) hm'
      have hv : (f l[j / sz])[j % sz]? = some u := by
        have := flat_at hf l (j / sz) (j % sz) hm'
        rw [hsplit, hj, List.getElem?_eq_getElem hk] at this
        exact this.symm
      rw [hv, Addr.add_add, hsplit] at hcell
      obtain ⟨b, off, spot⟩ := a
      have hpos : 0 < l.length := Nat.lt_of_le_of_lt (Nat.zero_le _) hk
      have h0 := (World.cells?_some (hp 0 _ (List.getElem?_eq_getElem hpos)).1).2.2 0 hsz
      have hv0 : (f (l[0]'hpos))[0]? = some ((f (l[0]'hpos))[0]'(by rw [hf]; exact hsz)) := List.getElem?_eq_getElem _
      rw [hv0] at h0
      have hs := World.cell?_spot h0
      have : spot = none := by simpa [Addr.add] using hs
      subst this
      rw [add_plain] at hcell
      exact ⟨b, off, rfl, hcell⟩
    · obtain ⟨i, hi⟩ := List.getElem?_of_mem hr
      exact (hp i r hi).2
end
section
variable {H : Type} {enc : TypeId × Value → H} {P : Program} {w : World} {base : Nat} {spare : Nat → Bool} {held : Bool}
theorem slice_nil {t e : TypeId} (ht : P.underlying t = some (.slice e)) {A : Option Addr} {n c fuel : Nat} {x : DataW H × List MemPlace} (h : DataW.trod enc P w base spare held fuel t (Value.slice A n c).cells.toList = some x) : A = none → c = 0 := fun hA => by
  subst hA
  rcases DataW.trod_slice ht h with ⟨h0, _⟩ | ⟨a, len, cap, elems, rest, m, _, hcs, _⟩
  · simp [Value.cells] at h0
    exact h0.2
  · simp [Value.cells] at hcs
theorem slice_form {t e : TypeId} (ht : P.underlying t = some (.slice e)) {v : Value} {fuel : Nat} {x : DataW H × List MemPlace} (h : DataW.trod enc P w base spare held fuel t [v] = some x) : ∃ A n c, v = .slice A n c := by
  rcases DataW.trod_slice ht h with ⟨h0, _⟩ | ⟨a, len, cap, _, _, _, _, hcs, _⟩
  · simp at h0
    exact ⟨_, _, _, h0⟩
  · simp at hcs
    exact ⟨_, _, _, hcs⟩
theorem cells_one (A : Option Addr) (n c : Nat) : (Value.slice A n c).cells.toList = [.slice A n c] := rfl
theorem flat_ints (zs : List Int) : (zs.flatMap fun z => [Value.int .i64 z]) = ints zs := by
  induction zs with
  | nil => rfl
  | cons z zs ih => simp only [List.flatMap_cons, ih, ints, List.map_cons]; rfl
theorem bulk_part {ds : List (DataW H)} {N : Nat} (h : Rows.uptoBulk (.agg ds) ≤ N) {d : DataW H} (hd : d ∈ ds) : Rows.uptoBulk d ≤ N := by
  simp only [Rows.uptoBulk] at h
  have := bulkAll_mem ds d hd
  omega
theorem bulk_ptr {d : DataW H} {N : Nat} (h : Rows.uptoBulk (.ptr d) ≤ N) : Rows.uptoBulk d ≤ N := by
  simp only [Rows.uptoBulk] at h
  omega
theorem len3 {l : List Value} (h : l.length = 3) : ∃ a b c, l = [a, b, c] := by
  match l, h with
  | [a, b, c], _ => exact ⟨a, b, c, rfl⟩
theorem len2 {l : List Value} (h : l.length = 2) : ∃ a b, l = [a, b] := by
  match l, h with
  | [a, b], _ => exact ⟨a, b, rfl⟩
end
section
variable {H : Type} {enc : TypeId × Value → H} {w : World} {base : Nat} {spare : Nat → Bool} {held : Bool}
/-- a slice of integers -/
theorem intsN {N : Nat} {A : Option Addr} {n c fuel : Nat} {x : DataW H × List MemPlace} (h : DataW.trod enc Tryz.prog w base spare held fuel 115 (Value.slice A n c).cells.toList = some x) (hx : Rows.uptoBulk x.1 ≤ N) :
    ∃ zs : List Int, n = zs.length ∧ zs.length ≤ c ∧ c ≤ maxLen ∧ Rd w A (ints zs) ∧ zs.length ≤ N ∧ (A = none → c = 0) ∧ ∀ z ∈ zs, (Lit.int .i64 z).wf = true := by
  have hn := slice_nil Tryz.underlying115 h
  obtain ⟨l, h1, h2, h3, h4, h5, h6⟩ := rows_ofN (f := fun z => [Value.int .i64 z]) (Q := fun z => (Lit.int .i64 z).wf = true) (sz := 1) (by omega) (fun _ => rfl) Tryz.underlying115 (by kernel_rfl) (fun n cs y h _ => by
    obtain ⟨z, e, _, hw⟩ := DataW.trod_int Tryz.underlying3 h
    exact ⟨z, e, hw⟩) h hx
  rw [flat_ints] at h4
  exact ⟨l, h1, h2, h3, h4, h5, hn, h6⟩
end
end Go.Proofs.YtdnhfcphmbhloaaGreatDoor.Open

/- Gaps: what a parted table says, in plain lists. -/
import Derived.Test.YtjfiodknjchngaaDoorGrP
import Derived.Test.YtjfiodknjchngaaDoorGpS
namespace Go.Proofs.YtjfiodknjchngaaDoor.Gp
open Go.RowKit Mem Nest Fk

theorem lAll_mk (rs : List Rw) (nq : Nat) (hN : ∀ r ∈ rs, r.cells.length = nq) (lf : Nat → Nat → Nat → Nat) (hlf : lf = fun (m q i : Nat) => lft rs q (i : Nat) m rs.length) : ∀ (c pre : List Int), pre.length + c.length ≤ nq → (∀ a ∈ c, 0 ≤ a) →
    lAll lf pre.length (mkF rs (fun _ => true) pre) c = mkF rs (fun _ => true) (pre ++ c)
  | [], pre, _, _ => by rw [lAll, List.append_nil]
  | a :: c, pre, h, h0 => by
    simp only [List.length_cons] at h
    have ha : 0 ≤ a := h0 a (by simp)
    have e : lf (mkF rs (fun _ => true) pre) pre.length a.toNat = mkF rs (fun _ => true) (pre ++ [a]) := by
      rw [hlf]
      have := mkF_step rs (fun _ => true) nq hN pre a.toNat (by omega)
      rw [show ((a.toNat : Nat) : Int) = a by omega] at this
      show lft rs pre.length ((a.toNat : Nat) : Int) _ _ = _
      rw [show ((a.toNat : Nat) : Int) = a by omega]
      exact this
    rw [lAll, e]
    have ih := lAll_mk rs nq hN lf hlf c (pre ++ [a]) (by simp; omega) (fun x hx => h0 x (List.mem_cons_of_mem _ hx))
    rw [List.length_append] at ih
    rw [show pre.length + 1 = pre.length + [a].length from rfl, ih, List.append_assoc]
    rfl
theorem lt_of_bits {m n : Nat} (h : ∀ i, n ≤ i → m.testBit i = false) : m < 2 ^ n := Nat.lt_pow_two_of_testBit m h
theorem lft_low {rs : List Rw} {q : Nat} {a : Int} {m n k : Nat} (h : m < 2 ^ n) : lft rs q a m k < 2 ^ n := by
  refine lt_of_bits fun i hi => ?_
  rw [lft_test, Nat.testBit_lt_two_pow (Nat.lt_of_lt_of_le h (Nat.pow_le_pow_right (by omega) hi)), Bool.false_and]
theorem first_some {rs : List Rw} {m : Nat} (h0 : m ≠ 0) (hm : m < 2 ^ rs.length) : ∃ k, k < rs.length ∧ firstF rs m = some (rAt rs k).out := by
  cases h : firstF rs m with
  | some s =>
    unfold firstF at h
    rw [Option.map_eq_some_iff] at h
    obtain ⟨k, hk, e⟩ := h
    exact ⟨k, List.mem_range.1 (List.mem_of_find?_eq_some hk), by rw [e]⟩
  | none =>
    unfold firstF at h
    rw [Option.map_eq_none_iff, List.find?_eq_none] at h
    refine absurd (Nat.eq_of_testBit_eq fun i => ?_) h0
    rw [Nat.zero_testBit]
    by_cases hi : i < rs.length
    · simpa using h i (List.mem_range.2 hi)
    · exact Nat.testBit_lt_two_pow (Nat.lt_of_lt_of_le hm (Nat.pow_le_pow_right (by omega) (by omega)))
theorem idx_head (p : Rw → Bool) : ∀ (rs : List Rw), (rs.findIdx? p).map (fun k => (rAt rs k).out) = ((rs.filter p).map (·.out)).head?
  | [] => rfl
  | r :: rs => by
    have ih := idx_head p rs
    rw [List.findIdx?_cons]
    cases hp : p r with
    | true =>
      rw [List.filter_cons_of_pos hp]
      simp [rAt]
    | false =>
      rw [List.filter_cons_of_neg (by simp [hp]), ← ih]
      cases h : rs.findIdx? p with
      | none => simp
      | some k => simp [rAt]
/-- what a parted table says of a case: the same, in one row -/
theorem part_says {rs : List Rw} {ns : List Nat} {lf : Nat → Nat → Nat → Nat} {fo : Nat → List UInt8} {R : List Rw} {c : List Int} (hN : ∀ r ∈ rs, r.cells.length = ns.length) (hlf : lf = fun (m q i : Nat) => lft rs q (i : Nat) m rs.length) (hfo : fo = fun m => (firstF rs m).getD []) (hR : R = restF lf fo ns 0 (2 ^ rs.length - 1)) (hc : c ∈ exts ns) :
    sayO R c = sayO rs c ∧ (R.filter fun r => fitR r.cells c).length ≤ 1 := by
  have hz : ∀ q a, lf 0 q a = 0 := fun q a => by
    rw [hlf]
    apply Nat.eq_of_testBit_eq
    intro i
    rw [lft_test, Nat.zero_testBit, Bool.false_and]
  have hm := mem_exts.1 hc
  have hL : lAll lf 0 (2 ^ rs.length - 1) c = mkF rs (fun _ => true) c := by
    have h := lAll_mk rs ns.length hN lf hlf c [] (by rw [List.length_nil]; omega) (fun a ha => by
      obtain ⟨i, hi, rfl⟩ := List.mem_iff_getElem.1 ha
      exact (hm.2 i hi (by omega)).1)
    rw [mkF_nil, bitsF_all, List.nil_append] at h
    exact h
  have hf := restF_fits lf fo hz ns 0 (2 ^ rs.length - 1) c hc
  rw [← hR, hL] at hf
  constructor
  · have h1 : sayO R c = ((R.filter fun r => fitR r.cells c).map (·.out)).head? := by
      unfold sayO saysF
      exact idx_head _ R
    rw [h1, hf, ← first_mk]
    by_cases h0 : mkF rs (fun _ => true) c = 0
    · rw [if_pos h0, h0, first_no (fun j _ => Nat.zero_testBit j)]
      rfl
    · obtain ⟨k, _, hk⟩ := first_some h0 (mkF_lt rs _ c)
      rw [if_neg h0, hfo]
      simp [hk]
  · have := congrArg List.length hf
    rw [List.length_map] at this
    rw [this]
    split <;> simp
theorem restF_inv (P : Nat → Prop) (lf : Nat → Nat → Nat → Nat) (fo : Nat → List UInt8) (hP : ∀ l q i, P l → P (lf l q i)) : ∀ (ns : List Nat) (q l : Nat), P l → ∀ r ∈ restF lf fo ns q l, ∃ l', l' ≠ 0 ∧ P l' ∧ r.out = fo l'
  | [], q, l, hl, r, h => by
    unfold restF at h
    split at h
    · cases h
    · rename_i h0
      rw [List.mem_singleton] at h
      subst h
      exact ⟨l, h0, hl, rfl⟩
  | n :: ns, q, l, hl, r, h => by
    unfold restF at h
    split at h
    · cases h
    · rw [List.mem_flatMap] at h
      obtain ⟨i, hi, h⟩ := h
      split at h
      · cases h
      · obtain ⟨r', hr', rfl⟩ := List.mem_map.1 h
        exact restF_inv P lf fo hP ns (q + 1) (lf l q i) (hP _ _ _ hl) r' hr'
theorem anyTo_false {f : Nat → Bool} {n : Nat} (h : ∀ k, k < n → f k = false) : anyTo f n = false := by
  unfold anyTo
  rw [List.any_eq_false]
  intro k hk
  rw [h k (List.mem_range.1 hk)]
  simp
/-- a parted table is valid -/
theorem part_valid {qs : List Qn} {rs : List Rw} {lf : Nat → Nat → Nat → Nat} {fo : Nat → List UInt8} {R : List Rw} (hv : vcode qs rs = 0) (hlf : lf = fun (m q i : Nat) => lft rs q (i : Nat) m rs.length) (hfo : fo = fun m => (firstF rs m).getD []) (hR : R = restF lf fo (qs.map fun q => q.ans.length) 0 (2 ^ rs.length - 1)) (h60 : R.length ≤ 60) : vcode qs R = 0 := by
  obtain ⟨hb, hn, hk, ho, ht⟩ := codeOf_zero hv
  have hb2 : boundF qs R = false := by
    unfold boundF at hb ⊢
    simp only [Bool.or_eq_false_iff, decide_eq_false_iff_not] at hb ⊢
    exact ⟨⟨hb.1.1, by omega⟩, hb.2⟩
  have hce : ∀ r ∈ R, CellsV (qs.map fun q => q.ans.length) r := fun r hr => by
    rw [hR] at hr
    exact (restF_cells lf fo _ _ _ r hr).1
  have hat : ∀ (r : Rw), CellsV (qs.map fun q => q.ans.length) r → ∀ k, k < r.cells.length → ∀ m, m < (cAt r k).length → ∃ l, r.cells[k]? = some (some l) ∧ cAt r k = l := fun r hr k hk m hm => by
    unfold cAt at hm ⊢
    rw [List.getElem?_eq_getElem hk] at hm ⊢
    cases h : r.cells[k] with
    | none => rw [h] at hm; simp at hm
    | some l => exact ⟨l, rfl, by simp⟩
  have hk2 : kindF qs R = false := by
    unfold kindF at hk ⊢
    simp only [Bool.or_eq_false_iff] at hk ⊢
    refine ⟨hk.1, anyTo_false fun i hi => ?_⟩
    have hr := hce _ (List.getElem_mem hi)
    rw [rAt_get hi]
    have hlen : R[i].cells.length = qs.length := by rw [hr.len, List.length_map]
    rw [hlen]
    simp only [beq_self_eq_true, Bool.not_true, Bool.false_or]
    refine anyTo_false fun k hk => anyTo_false fun m hm => ?_
    obtain ⟨l, hl, e⟩ := hat _ hr k (by omega) m hm
    rw [e] at hm ⊢
    have hkl : k < R[i].cells.length := by omega
    rw [List.getElem?_eq_getElem hkl] at hl
    have h := hr.inr k hkl (by rw [List.length_map]; omega) l (Option.some.inj hl) l[m] (List.getElem_mem hm)
    unfold kindC
    rw [iAt_get hm, qAt_get hk]
    simp only [List.getElem_map] at h
    simp only [Bool.or_eq_false_iff, decide_eq_false_iff_not]
    exact ⟨⟨by omega, by omega⟩, by omega⟩
  have ho2 : ordR R R.length = false := by
    refine anyTo_false fun i hi => ?_
    have hr := hce _ (List.getElem_mem hi)
    rw [rAt_get hi]
    refine anyTo_false fun k hk => anyTo_false fun m hm => ?_
    obtain ⟨l, hl, e⟩ := hat _ hr k hk m hm
    rw [e] at hm ⊢
    rw [List.getElem?_eq_getElem hk] at hl
    have h := hr.ord k hk l (Option.some.inj hl) m
    unfold ordC
    by_cases h0 : 0 < m
    · by_cases h1 : iAt l m ≤ iAt l (m - 1)
      · exact absurd (h h0 h1) (by omega)
      · simp [h1]
    · simp [h0]
  have ht2 : textF R R.length = false := by
    refine anyTo_false fun i hi => ?_
    rw [rAt_get hi]
    have hin : R[i] ∈ restF lf fo (qs.map fun q => q.ans.length) 0 (2 ^ rs.length - 1) := by rw [← hR]; exact List.getElem_mem hi
    obtain ⟨l', h0, hl', e⟩ := restF_inv (fun l => l < 2 ^ rs.length) lf fo (fun l q i hl => by rw [hlf]; exact lft_low hl) _ _ _ (by have := Nat.two_pow_pos rs.length; omega) _ hin
    obtain ⟨k, hk, hf⟩ := first_some h0 hl'
    have h := anyTo_no ht hk
    rw [e, hfo]
    simp only [hf, Option.getD_some]
    exact h
  unfold vcode
  rw [hb2, hn, hk2, ho2, ht2]
  rfl
end Go.Proofs.YtjfiodknjchngaaDoor.Gp

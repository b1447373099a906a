/- Gaps: what a table says of a case, and the first case of which two tables say different things, in plain lists; first. -/
import Derived.Test.YtjfiodknjchngaaDoorGpS
namespace Go.Proofs.YtjfiodknjchngaaDoor.Gp
open Go.RowKit Mem Nest Fk

def sayO (rs : List Rw) (c : List Int) : Option (List UInt8) := (saysF rs c).map fun k => (rAt rs k).out
def firstF (rs : List Rw) (m : Nat) : Option (List UInt8) := ((List.range rs.length).find? fun i => m.testBit i).map fun i => (rAt rs i).out
theorem range_find_at {p : Nat → Bool} {n k : Nat} (hk : k < n) (h : ∀ j, j < k → p j = false) (hp : p k = true) : (List.range n).find? p = some k := by
  rw [show n = k + ((n - k - 1) + 1) by omega, List.range_add, List.find?_append, List.find?_eq_none.2 (fun j hj => by rw [h j (List.mem_range.1 hj)]; simp), List.range_succ_eq_map]
  simp [hp]
theorem range_find_no {p : Nat → Bool} {n : Nat} (h : ∀ j, j < n → p j = false) : (List.range n).find? p = none :=
  List.find?_eq_none.2 (fun j hj => by rw [h j (List.mem_range.1 hj)]; simp)
theorem first_at {rs : List Rw} {m k : Nat} (hk : k < rs.length) (h : ∀ j, j < k → m.testBit j = false) (hp : m.testBit k = true) : firstF rs m = some (rAt rs k).out := by
  unfold firstF
  rw [range_find_at hk h hp]
  rfl
theorem first_no {rs : List Rw} {m : Nat} (h : ∀ j, j < rs.length → m.testBit j = false) : firstF rs m = none := by
  unfold firstF
  rw [range_find_no h]
  rfl
theorem first_mk (rs : List Rw) (c : List Int) : firstF rs (mkF rs (fun _ => true) c) = sayO rs c := by
  have ht : ∀ i, i < rs.length → (mkF rs (fun _ => true) c).testBit i = fitR (rAt rs i).cells c := fun i hi => by
    unfold mkF
    rw [bitsF_test]
    simp [hi]
  unfold sayO
  cases hs : saysF rs c with
  | none =>
    have h := (says_none_iff rs c).1 (by rw [hs]; rfl)
    rw [first_no fun j hj => by rw [ht j hj, h j hj]]
    rfl
  | some k =>
    have hk : k < rs.length := by
      unfold saysF at hs
      rw [List.findIdx?_eq_some_iff_getElem] at hs
      exact hs.1
    have h := (says_some_iff rs c k hk).1 hs
    rw [first_at hk (fun j hj => by rw [ht j (by omega), h.2 j hj]) (by rw [ht k hk, h.1])]
    rfl
theorem same_find (P : Prm) (ra rb : List Rw) (hNa : ∀ r ∈ ra, r.cells.length = P.ns.length) (hNb : ∀ r ∈ rb, r.cells.length = P.ns.length) (h1 : P.l1 = fun (m q i : Nat) => lft ra q (i : Nat) m ra.length) (h2 : P.l2 = fun (m q i : Nat) => lft rb q (i : Nat) m rb.length)
    (ho : ∀ q i, P.only q i = true) (hf : ∀ a b, P.fd a b = !(firstF ra a == firstF rb b)) : P.R 0 (2 ^ ra.length - 1) (2 ^ rb.length - 1) = (exts P.ns).find? fun c => !(sayO ra c == sayO rb c) := by
  have h := srch_find P.only P.l1 P.l2 P.fd (mkF ra fun _ => true) (mkF rb fun _ => true) P.ns.length
    (fun pre i hp => by rw [h1]; exact mkF_step ra _ P.ns.length hNa pre i hp) (fun pre i hp => by rw [h2]; exact mkF_step rb _ P.ns.length hNb pre i hp) P.ns [] (by simp)
  rw [mkF_nil, bitsF_all, mkF_nil, bitsF_all] at h
  unfold Prm.R
  rw [List.drop_zero]
  refine h.trans (find_congr fun c hc => ?_)
  have hon : ∀ (c : List Int) (q : Nat), onlyF P.only q c = true := by
    intro c
    induction c with
    | nil => intro q; rfl
    | cons a c ih => intro q; rw [onlyF, ho, ih]; rfl
  rw [hon, Bool.true_and, hf, List.nil_append, first_mk, first_mk]
theorem mem_exts : ∀ {ns : List Nat} {c : List Int}, c ∈ exts ns ↔ c.length = ns.length ∧ ∀ i (h : i < c.length) (h2 : i < ns.length), 0 ≤ c[i] ∧ c[i] < (ns[i] : Nat)
  | [], c => by
    simp only [exts, List.mem_singleton, List.length_nil]
    constructor
    · rintro rfl
      exact ⟨rfl, fun i h => by simp at h⟩
    · rintro ⟨h, _⟩
      exact List.eq_nil_of_length_eq_zero h
  | n :: ns, c => by
    simp only [exts, List.mem_flatMap, List.mem_map, List.mem_range]
    constructor
    · rintro ⟨i, hi, d, hd, rfl⟩
      have ih := mem_exts.1 hd
      refine ⟨by simp [ih.1], fun j h h2 => ?_⟩
      cases j with
      | zero =>
        simp only [List.getElem_cons_zero]
        omega
      | succ j =>
        simp only [List.getElem_cons_succ]
        exact ih.2 j (by simpa using h) (by simpa using h2)
    · rintro ⟨h1, h2⟩
      cases c with
      | nil => simp at h1
      | cons a c =>
        have h0 := h2 0 (by simp) (by simp)
        simp only [List.getElem_cons_zero] at h0
        refine ⟨a.toNat, by omega, c, mem_exts.2 ⟨by simpa using h1, fun j h h3 => ?_⟩, ?_⟩
        · have := h2 (j + 1) (by simpa using h) (by simpa using h3)
          simpa using this
        · congr 1
          omega
/-- what tells what is said, or nothing -/
def SayPost (o : Option (List UInt8)) (w : World) (e : Ending) (w' : World) : Prop := e = .returned (.tuple #[.string ⟨(o.getD []).toArray⟩, .bool o.isSome]) ∧ Below w.heap.size w w'
set_option maxRecDepth 20000 in
set_option maxHeartbeats 1000000 in
theorem first_any (qv : Value) (ms : List RwM) (A : Option Addr) (c : Nat) (m : Nat) (_hm : m < 2 ^ 64) (h64 : ms.length ≤ 63) (w : World) (h : RowsP w A ms) :
    Calls Tryd.prog 49 #[.agg #[qv, .slice A ms.length c], .int .u64 m] w (SayPost (firstF (ms.map RwM.rw) m) w) := by
  have hbk := Blk.new w 31 [qv, .slice A ms.length c]
  have hx := ext_alloc w (.cells (List.toArray [qv, .slice A ms.length c]) 31)
  obtain ⟨W, hW⟩ : ∃ W, W = w.alloc (.cells (List.toArray [qv, .slice A ms.length c]) 31) := ⟨_, rfl⟩
  obtain ⟨K, hK⟩ : ∃ K, K = w.heap.size := ⟨_, rfl⟩
  rw [← hW] at hx hbk
  rw [← hK] at hbk
  have HX := Lib.hid hx
  have HR := Lib.hid (h.ext hx)
  have HW := Lib.hid hW
  have HK := Lib.hid hK
  have r1 := hbk.cell 1 rfl
  obtain ⟨res, hres⟩ : ∃ res, res = firstF (ms.map RwM.rw) m := ⟨_, rfl⟩
  rw [← hres]
  have HRes := Lib.hid hres
  have HRl := Lib.hid (show (ms.map RwM.rw).length = ms.length from List.length_map _)
  clear hbk hx hW h hK hres
  go_enter Tryd.func49, Tryd.ntmps49
  go_upto_region 1 with fail
  rw [show w.alloc (.cells #[qv, .slice A ms.length c] 31) = W from HW.out.symm, ← HK.out]
  clear HW
  go_wp2_with fail
  go_loopw [11] (fun t11 wr => ∃ (j : Nat), t11 = .int .i64 j ∧ j ≤ ms.length ∧ Hid (∀ i, i < j → m.testBit i = false) ∧ Hid (Below W.heap.size W wr)) (fun t11 _ => ms.length - (intOf t11).toNat)
  case atStart => exact ⟨0, rfl, by omega, (fun i h => absurd h (by omega)), Below.refl _ _⟩
  case round =>
    obtain ⟨j, rfl, hj, HN, HB⟩ := hrel
    by_cases hlt : j < ms.length
    · have hcl : (j : Int) < ms.length := by omega
      obtain ⟨b, o, hA, c0, c1⟩ := (HR.out.ext HB.out).row hlt
      subst hA
      obtain ⟨P, hP⟩ : ∃ P : Int, P = ((2 ^ j : Nat) : Int) := ⟨_, rfl⟩
      have e1 := shlN j (by omega)
      have e2 := andN m j (by omega)
      have hP0 : 0 < P := by rw [hP]; exact_mod_cast Nat.two_pow_pos j
      rw [← hP] at e1 e2
      have HP := Lib.hid hP
      have HAt := Lib.hid (show m.testBit j = true → res = some ms[j].out from fun h => by
        rw [HRes.out, first_at (by rw [HRl.out]; exact hlt) HN.out h]
        simp [rAt, hlt, RwM.rw])
      have HSt := Lib.hid (show m.testBit j = false → ∀ i, i < j + 1 → m.testBit i = false from fun h i hi => by
        rcases Nat.lt_succ_iff_lt_or_eq.1 hi with h2 | rfl
        · exact HN.out i h2
        · exact h)
      clear hP
      generalize ms[j] = r at *
      obtain ⟨cs, rA, rc, ro⟩ := r
      simp only at c0 c1 HAt
      have b1 := (Blk.new wr 91 [.slice rA cs.length rc, .string ⟨ro.toArray⟩]).cell 1 rfl
      cases hb : m.testBit j with
      | false =>
        have HS2 := Lib.hid (HSt.out hb)
        simp only [hb, Bool.false_eq_true, if_false] at e2
        rw [show ((0 : Nat) : Int) = 0 from rfl] at e2
        clear hb
        go_wp2_with fail
        go_roundw
        case rel => exact ⟨j + 1, by go_num, by omega, HS2.out, ext_trans HB.out (ext_alloc wr _)⟩
        case measure => simp [intOf]; omega
      | true =>
        have HA2 := Lib.hid (HAt.out hb)
        simp only [hb, if_true] at e2
        rw [show ((2 ^ j : Nat) : Int) = P from HP.out.symm] at e2
        have hPb : (P != 0) = true := by simp; omega
        clear hb
        go_wp2_with fail
        go_ret2
        exact ⟨by rw [HA2.out]; rfl, ext_trans HX.out (ext_trans HB.out (ext_alloc wr _))⟩
    · obtain rfl : ms.length = j := by omega
      have hcl : ¬ (ms.length : Int) < ms.length := by omega
      have HNo := Lib.hid (show res = none by rw [HRes.out]; exact first_no (fun i hi => HN.out i (by rw [HRl.out] at hi; exact hi)))
      go_wp2_with fail
      go_ret2
      exact ⟨by rw [HNo.out]; rfl, ext_trans HX.out HB.out⟩
end Go.Proofs.YtjfiodknjchngaaDoor.Gp

/- Gaps: which tables are valid, in plain lists. Gaps: twice. -/
import Derived.Test.YtjfiodknjchngaaDoorGpW
import Derived.BigQuiet
namespace Go.Proofs.YtjfiodknjchngaaDoor.Gp
open Go.RowKit Mem Nest Fk

def anyTo (f : Nat → Bool) (k : Nat) : Bool := (List.range k).any f
theorem anyTo_zero (f : Nat → Bool) : anyTo f 0 = false := rfl
theorem anyTo_succ (f : Nat → Bool) (k : Nat) : anyTo f (k + 1) = (anyTo f k || f k) := by
  unfold anyTo
  rw [List.range_succ, List.any_append]
  simp
theorem anyTo_no {f : Nat → Bool} {n : Nat} (h : anyTo f n = false) {k : Nat} (hk : k < n) : f k = false := by
  unfold anyTo at h
  rw [List.any_eq_false] at h
  simpa using h k (List.mem_range.2 hk)
theorem anyTo_congr {f g : Nat → Bool} {n : Nat} (h : ∀ k, k < n → f k = g k) : anyTo f n = anyTo g n := by
  induction n with
  | zero => rfl
  | succ n ih => rw [anyTo_succ, anyTo_succ, ih fun k hk => h k (by omega), h n (by omega)]
def txtAt (l : List (List UInt8)) (k : Nat) : List UInt8 := l[k]?.getD []
theorem txtAt_get {l : List (List UInt8)} {k : Nat} (h : k < l.length) : txtAt l k = l[k] := by simp [txtAt, h]
def qAt (qs : List Qn) (k : Nat) : Qn := qs[k]?.getD ⟨[], []⟩
theorem qAt_get {l : List Qn} {k : Nat} (h : k < l.length) : qAt l k = l[k] := by simp [qAt, h]
def rAt (rs : List Rw) (k : Nat) : Rw := rs[k]?.getD ⟨[], []⟩
theorem rAt_get {l : List Rw} {k : Nat} (h : k < l.length) : rAt l k = l[k] := by simp [rAt, h]
def iAt (l : List Int) (k : Nat) : Int := l[k]?.getD 0
theorem iAt_get {l : List Int} {k : Nat} (h : k < l.length) : iAt l k = l[k] := by simp [iAt, h]
def cAt (r : Rw) (k : Nat) : List Int := (r.cells[k]?.getD none).getD []
def noneT : List UInt8 := [110, 111, 110, 101]
def thenT : List UInt8 := [116, 104, 101, 110]
/-- a text stands in a list ahead of a place -/
def dupB (l : List (List UInt8)) (k : Nat) : Bool := anyTo (fun m => txtAt l m == txtAt l k) k
def ansB (l : List (List UInt8)) (k : Nat) : Bool := !wordB (txtAt l k) || (txtAt l k == noneT) || (txtAt l k == thenT) || dupB l k
def qnB (qs : List Qn) (i : Nat) : Bool := !wordB (qAt qs i).name || ((qAt qs i).name == thenT) || dupB (qs.map (·.name)) i
def nameF (qs : List Qn) (i : Nat) : Bool := anyTo (fun i => qnB qs i || anyTo (ansB (qAt qs i).ans) (qAt qs i).ans.length) i
def kindQ (qs : List Qn) (i : Nat) : Bool := anyTo (fun i => (qAt qs i).ans.length == 0) i
def boundQ (qs : List Qn) (i : Nat) : Bool := anyTo (fun i => decide (12 < (qAt qs i).ans.length)) i
def textF (rs : List Rw) (i : Nat) : Bool := anyTo (fun i => ((rAt rs i).out == []) || !lineB (rAt rs i).out) i
def kindC (qs : List Qn) (k : Nat) (l : List Int) (m : Nat) : Bool := decide (qs.length ≤ k) || decide (iAt l m < 0) || decide (((qAt qs k).ans.length : Int) ≤ iAt l m)
def kindL (qs : List Qn) (r : Rw) (k : Nat) : Bool := anyTo (fun k => anyTo (kindC qs k (cAt r k)) (cAt r k).length) k
def kindR (qs : List Qn) (rs : List Rw) (i : Nat) : Bool := anyTo (fun i => !((rAt rs i).cells.length == qs.length) || kindL qs (rAt rs i) (rAt rs i).cells.length) i
def ordC (l : List Int) (m : Nat) : Bool := decide (0 < m) && decide (iAt l m ≤ iAt l (m - 1))
def ordL (r : Rw) (k : Nat) : Bool := anyTo (fun k => anyTo (ordC (cAt r k)) (cAt r k).length) k
def ordR (rs : List Rw) (i : Nat) : Bool := anyTo (fun i => ordL (rAt rs i) (rAt rs i).cells.length) i
def boundF (qs : List Qn) (rs : List Rw) : Bool := decide (12 < qs.length) || decide (60 < rs.length) || boundQ qs qs.length
def kindF (qs : List Qn) (rs : List Rw) : Bool := kindQ qs qs.length || kindR qs rs rs.length
def codeOf (b n k o t : Bool) : Nat := if b then 2 else if n then 7 else if k then 9 else if o then 8 else if t then 1 else 0
/-- 0, or an error's number -/
def vcode (qs : List Qn) (rs : List Rw) : Nat := codeOf (boundF qs rs) (nameF qs qs.length) (kindF qs rs) (ordR rs rs.length) (textF rs rs.length)
theorem codeOf_zero {b n k o t : Bool} (h : codeOf b n k o t = 0) : b = false ∧ n = false ∧ k = false ∧ o = false ∧ t = false := by
  revert h
  cases b <;> cases n <;> cases k <;> cases o <;> cases t <;> decide
structure ValidT (qs : List Qn) (rs : List Rw) : Prop where
  q12 : qs.length ≤ 12
  r60 : rs.length ≤ 60
  a12 : ∀ q ∈ qs, q.ans.length ≤ 12
  a1 : ∀ q ∈ qs, 1 ≤ q.ans.length
  cl : ∀ r ∈ rs, r.cells.length = qs.length
theorem valid_of {qs : List Qn} {rs : List Rw} (h : vcode qs rs = 0) : ValidT qs rs := by
  obtain ⟨hb, _, hk, _, _⟩ := codeOf_zero h
  unfold boundF at hb
  unfold kindF at hk
  simp only [Bool.or_eq_false_iff, decide_eq_false_iff_not] at hb hk
  refine ⟨by omega, by omega, fun q hq => ?_, fun q hq => ?_, fun r hr => ?_⟩
  · obtain ⟨i, hi, rfl⟩ := List.mem_iff_getElem.1 hq
    have := anyTo_no hb.2 hi
    simp only [qAt_get hi, decide_eq_false_iff_not] at this
    omega
  · obtain ⟨i, hi, rfl⟩ := List.mem_iff_getElem.1 hq
    have := anyTo_no hk.1 hi
    simp only [qAt_get hi, beq_eq_false_iff_ne] at this
    omega
  · obtain ⟨i, hi, rfl⟩ := List.mem_iff_getElem.1 hr
    have := anyTo_no hk.2 hi
    simp only [rAt_get hi, Bool.or_eq_false_iff, Bool.not_eq_false', beq_iff_eq] at this
    exact this.1
end Go.Proofs.YtjfiodknjchngaaDoor.Gp
namespace Go.Proofs.YtjfiodknjchngaaDoor.Gp
open Go.RowKit Mem Nest Fk

theorem dup_contains (l : List (List UInt8)) (k : Nat) (hk : k < l.length) : (l.take k).contains l[k] = dupB l k := by
  unfold dupB anyTo
  rw [Bool.eq_iff_iff, List.contains_iff_mem, List.any_eq_true]
  constructor
  · intro h
    obtain ⟨j, hj, e⟩ := List.mem_iff_getElem.1 h
    have hjk : j < k := by simp at hj; omega
    refine ⟨j, List.mem_range.2 hjk, ?_⟩
    rw [txtAt_get hk, txtAt_get (by omega)]
    rw [List.getElem_take] at e
    simp [e]
  · rintro ⟨j, hj, e⟩
    have hjk := List.mem_range.1 hj
    rw [txtAt_get hk, txtAt_get (by omega), beq_iff_eq] at e
    rw [← e]
    exact List.mem_iff_getElem.2 ⟨j, by simp; omega, by simp⟩
set_option maxRecDepth 20000 in
set_option maxHeartbeats 1000000 in
theorem twice_any (l : List (List UInt8)) (hl : l.length ≤ 1048576) (A : Option Addr) (c : Nat) (hc : l.length ≤ c) (k : Nat) (hk : k < l.length) (w : World) (h : Rd w A (strsV l)) :
    Calls Tryd.prog 47 #[.slice A l.length c, .int .i64 k] w (RetA (dupB l k) w) := by
  obtain ⟨b, o, rfl, r0⟩ := str_at h hk
  have hrt : Rd w (some ⟨b, o, none⟩) (strsV (l.take k)) := fun j u hj => by
    have hjl : j < (l.take k).length := by
      have := (List.getElem?_eq_some_iff.1 hj).1
      simpa [strsV] using this
    have hjk : j < k := by simp at hjl; omega
    refine h j u ?_
    rw [← hj]
    simp [strsV, hjk]
  have hlk : (l.take k).length = k := by simp; omega
  have HC := Lib.hid (show ∀ n, Calls Tryd.prog 38 #[.slice (some ⟨b, o, none⟩) k c, .string ⟨l[k].toArray⟩] (w.drewN n) (fun e w' => e = .returned (.bool (dupB l k)) ∧ ∃ m, w' = w.drewN m) from fun n => by
    have h1 := containss_any (l.take k) (by omega) (some ⟨b, o, none⟩) c l[k] (w.drewN n) (hrt.ext (ext_drewN w n))
    rw [hlk, dup_contains l k hk] at h1
    exact h1.mono fun e w' h2 => ⟨h2.1, n, h2.2.symm⟩)
  obtain ⟨d, hd⟩ : ∃ d, d = dupB l k := ⟨_, rfl⟩
  rw [← hd] at HC ⊢
  have hkc : (k : Int) < l.length := by omega
  have hkC : (k : Int) ≤ c := by omega
  have hkc2 : k ≤ c := by omega
  clear hd h hrt hlk
  generalize l[k] = s at *
  go_enter Tryd.func47, Tryd.ntmps47
  go_upto_region 1 with fail
  go_quiet (exact HC.out _)
  go_wp2_with fail
  go_ret
  exact retA rfl (ext_drewN w nq)
end Go.Proofs.YtjfiodknjchngaaDoor.Gp

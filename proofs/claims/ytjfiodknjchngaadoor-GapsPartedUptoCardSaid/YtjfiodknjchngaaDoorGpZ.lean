/- Gaps: Gap. -/
import Derived.Test.YtjfiodknjchngaaDoorGpS
import Derived.Test.YtjfiodknjchngaaDoorErr
import Derived.OwnWalk
namespace Go.Proofs.YtjfiodknjchngaaDoor.Gp
open Go.RowKit Mem Nest Fk MapSet Err

def errVal (A : Nat → Addr) (c : Nat) : Value := if c = 0 then .nilIface else sentV (A (c - 1))
def ValidPost (A : Nat → Addr) (c : Nat) (w : World) (e : Ending) (w' : World) : Prop := e = .returned (errVal A c) ∧ Below w.heap.size w w'
theorem gapfd_any (a b : Nat) (w : World) : Calls Tryd.prog 44 #[.int .u64 a, .int .u64 b] w (RetA (a == 0) w) := by
  by_cases h : a = 0
  · have h1 : ((a : Int) == 0) = true := by simp [h]
    have HE := Lib.hid (show (a == 0) = true by simp [h])
    clear h
    go_enter Tryd.func44, Tryd.ntmps44
    go_wp2_with fail
    go_ret
    exact retA HE.out.symm (Below.refl _ _)
  · have h1 : ((a : Int) == 0) = false := by simp; omega
    have HE := Lib.hid (show (a == 0) = false by simp [h])
    clear h
    go_enter Tryd.func44, Tryd.ntmps44
    go_wp2_with fail
    go_ret
    exact retA HE.out.symm (Below.refl _ _)
/-- the search of a table beside an empty one -/
def prmOf (ns : List Nat) (rs : List Rw) (only : Nat → Nat → Bool) : Prm := ⟨ns, only, fun (m q i : Nat) => lft rs q (i : Nat) m rs.length, fun (m q i : Nat) => lft [] q (i : Nat) m 0, fun a _ => a == 0⟩
def knOf (w0 : World) (sb mb : Nat) (QA : Option Addr) (qc : Nat) (qms : List QnM) (RA : Option Addr) (rc : Nat) (ms : List RwM) (only : Nat → Nat → Bool) (O F : Value) : Kn :=
  ⟨prmOf (qms.map fun q => q.ans.length) (ms.map RwM.rw) only, w0, sb, mb, QA, qc, qms, RA, rc, ms, .slice none 0 0, none, 0, [], O, F⟩
theorem knOf_ok {w0 : World} {sb mb : Nat} {QA : Option Addr} {qc : Nat} {qms : List QnM} {RA : Option Addr} {rc : Nat} {ms : List RwM} {only : Nat → Nat → Bool} {O F : Value}
    (hq : QsP w0 QA qms) (hr : RowsP w0 RA ms) (hv : ValidT (qms.map QnM.qn) (ms.map RwM.rw)) (h0 : w0.heap.size ≤ mb) (h1 : mb < sb) : (knOf w0 sb mb QA qc qms RA rc ms only O F).Ok where
  qs := hq
  ra := hr
  rb := ⟨Rd.nil, fun m hm => by cases hm⟩
  ns := rfl
  n12 := by
    have := hv.q12
    rw [List.length_map] at this
    exact this
  a12 := fun q hq => by have := hv.a12 q.qn (List.mem_map.2 ⟨q, hq, rfl⟩); exact this
  la := by
    have := hv.r60
    rw [List.length_map] at this
    exact this
  lb := by show 0 ≤ 60; omega
  ca := fun r hr => by
    have := hv.cl r.rw (List.mem_map.2 ⟨r, hr, rfl⟩)
    unfold RwM.rw at this
    rw [List.length_map, List.length_map] at this
    exact this
  cb := fun r hr => by cases hr
  l1 := by funext m q i; simp [knOf, prmOf]
  l2 := rfl
  s0 := h0
  m0 := h1
/-- a search that has just been made -/
theorem inv_new (k : Kn) (w : World) (hw : Below k.w0.heap.size k.w0 w) (hm : k.mb = w.heap.size) (hs : k.sb = w.heap.size + 1) :
    k.Inv ((w.alloc (.map #[] 0)).alloc (.cells (k.cells (.slice none 0 0)).toArray 122)) (.slice none 0 0) [] 0 where
  below := (hw.trans ((ext_alloc w _).mono hw.size)).trans ((ext_alloc _ _).mono (by rw [World.size_alloc]; have := hw.size; omega))
  blk := by
    have := Blk.new (w.alloc (.map #[] 0)) 122 (k.cells (.slice none 0 0))
    rw [World.size_alloc] at this
    rw [hs]
    exact this
  row := World.ownsRow_nil _ _ _ _
  map := ⟨fun _ => False, by rw [hm]; exact (SetM.made w).ext (ext_alloc _ _), fun _ _ _ h => h.elim⟩
/-- what Gap tells -/
def GapPost (c : Nat) (r : Option (List Int)) (A : Nat → Addr) (w : World) (e : Ending) (w' : World) : Prop := Below w.heap.size w w' ∧
  ((c ≠ 0 ∧ e = .returned (.tuple #[.slice none 0 0, .bool false, errVal A c])) ∨ (c = 0 ∧ r = none ∧ e = .returned (.tuple #[.slice none 0 0, .bool false, .nilIface])) ∨
    (c = 0 ∧ ∃ cs A' c', r = some cs ∧ e = .returned (.tuple #[.slice A' cs.length c', .bool true, .nilIface]) ∧ Rd w' A' (ints cs)))
set_option maxRecDepth 100000 in
set_option maxHeartbeats 4000000 in
theorem gap_any (A : Nat → Addr) (qms : List QnM) (QA : Option Addr) (qc : Nat) (ms : List RwM) (RA : Option Addr) (rc : Nat) (w : World) (hq : QsP w QA qms) (hr : RowsP w RA ms)
    (hV : ∀ w' : World, Below w.heap.size w w' → Calls Tryd.prog 25 #[.agg #[.slice QA qms.length qc, .slice RA ms.length rc]] w' (ValidPost A (vcode (qms.map QnM.qn) (ms.map RwM.rw)) w'))
    (res : Option (List Int)) (hres : res = (exts (qms.map fun q => q.ans.length)).find? fun c => (saysF (ms.map RwM.rw) c).isNone) :
    Calls Tryd.prog 24 #[.agg #[.slice QA qms.length qc, .slice RA ms.length rc]] w (GapPost (vcode (qms.map QnM.qn) (ms.map RwM.rw)) res A w) := by
  have HRes := Lib.hid hres
  clear hres
  have hmm := @run_makeMap Tryd.prog
  have hbk := Blk.new w 31 [.slice QA qms.length qc, .slice RA ms.length rc]
  have hx := ext_alloc w (.cells (List.toArray [.slice QA qms.length qc, .slice RA ms.length rc]) 31)
  obtain ⟨W, hW⟩ : ∃ W, W = w.alloc (.cells (List.toArray [.slice QA qms.length qc, .slice RA ms.length rc]) 31) := ⟨_, rfl⟩
  obtain ⟨K, hK⟩ : ∃ K, K = w.heap.size := ⟨_, rfl⟩
  rw [← hW] at hx hbk
  rw [← hK] at hbk
  have HX := Lib.hid hx
  have HV := Lib.hid (hV W hx)
  have HQ := Lib.hid (hq.ext hx)
  have HR := Lib.hid (hr.ext hx)
  have HW := Lib.hid hW
  have HK := Lib.hid hK
  have r0 := hbk.cell 0 rfl
  have r1 := hbk.cell 1 rfl
  obtain ⟨c, hc⟩ : ∃ c, c = vcode (qms.map QnM.qn) (ms.map RwM.rw) := ⟨_, rfl⟩
  rw [← hc] at HV ⊢
  have HC := Lib.hid hc
  clear hbk hx hW hK hq hr hV hc
  go_enter Tryd.func24, Tryd.ntmps24
  go_upto_region 1 with fail
  rw [show w.alloc (.cells #[.slice QA qms.length qc, .slice RA ms.length rc] 31) = W from HW.out.symm, ← HK.out]
  clear HW
  go_wp2_with fail
  refine HV.out.mono ?_
  rintro e w1 ⟨rfl, hb1⟩
  have HB1 := Lib.hid hb1
  have r0 := cell_ext hb1 r0
  have r1 := cell_ext hb1 r1
  clear hb1
  by_cases h0 : c = 0
  · subst h0
    unfold errVal
    rw [if_pos rfl]
    have HVt := Lib.hid (valid_of HC.out.symm)
    obtain ⟨k, hk⟩ : ∃ k, k = knOf w1 (w1.heap.size + 1) w1.heap.size QA qc qms RA rc ms (fun _ _ => true) .nilFunc (.func (.func 44) #[] #[]) := ⟨_, rfl⟩
    have hkok : k.Ok := by rw [hk]; exact knOf_ok (HQ.out.ext HB1.out) (HR.out.ext HB1.out) HVt.out (Nat.le_refl _) (by omega)
    have hin : k.Inv ((w1.alloc (.map #[] 0)).alloc (.cells (k.cells (.slice none 0 0)).toArray 122)) (.slice none 0 0) [] 0 := inv_new k w1 (by rw [hk]; exact Below.refl _ _) (by rw [hk]; rfl) (by rw [hk]; rfl)
    have hcs : k.cells (.slice none 0 0) = [.slice QA qms.length qc, .slice RA ms.length rc, .slice none 0 0, .slice none 0 0, .map (some w1.heap.size), .nilFunc, .func (.func 44) #[] #[], .nilFunc, .slice none 0 0] := by rw [hk]; rfl
    rw [hcs] at hin
    have HIn := Lib.hid hin
    have HKk := Lib.hid hk
    have HKo := Lib.hid hkok
    have hsb : k.sb = w1.heap.size + 1 := by rw [hk]; rfl
    have hw0 : k.w0 = w1 := by rw [hk]; rfl
    have hFv : k.F = .func (.func 44) #[] #[] := by rw [hk]; rfl
    have hOv : k.O = .nilFunc := by rw [hk]; rfl
    have hon : ∀ q i, k.P.only q i = true := by rw [hk]; intro q i; rfl
    have hfd : ∀ a b, k.P.fd a b = (a == 0) := by rw [hk]; intro a b; rfl
    have hns : k.P.ns = qms.map fun q => q.ans.length := by rw [hk]; rfl
    have hn12 : k.P.ns.length ≤ 12 := by rw [hns, List.length_map]; have := HVt.out.q12; rwa [List.length_map] at this
    have hm60 : ms.length ≤ 60 := by have := HVt.out.r60; rwa [List.length_map] at this
    have hp2 : 2 ^ ms.length - 1 < 2 ^ 64 := Nat.lt_of_le_of_lt (Nat.sub_le _ _) (Nat.pow_lt_pow_right (by omega) (by omega))
    have h13 : 0 + 13 ^ (k.P.ns.length + 1) ≤ 1000000000000000000 := by
      rw [Nat.zero_add]
      exact Nat.le_trans (Nat.pow_le_pow_right (n := 13) (by omega) (by omega : k.P.ns.length + 1 ≤ 13)) (by decide)
    have hRf : k.P.R 0 (2 ^ ms.length - 1) 0 = res := by
      have h := gap_find k.P (ms.map RwM.rw) (by
        intro r hr
        rw [hns, List.length_map]
        have := HVt.out.cl r hr
        rwa [List.length_map] at this) (by rw [hk]; rfl) (by rw [hk]; rfl) hon hfd
      rw [List.length_map, hns, ← HRes.out] at h
      exact h
    obtain ⟨W2, hW2⟩ : ∃ W2, W2 = (w1.alloc (.map #[] 0)).alloc (.cells (List.toArray [.slice QA qms.length qc, .slice RA ms.length rc, .slice none 0 0, .slice none 0 0, .map (some w1.heap.size), .nilFunc, .func (.func 44) #[] #[], .nilFunc, .slice none 0 0]) 122) := ⟨_, rfl⟩
    have hb2 : Below w1.heap.size w1 W2 := by rw [hW2]; exact ext_trans (ext_alloc w1 _) (ext_alloc _ _)
    rw [← hW2] at HIn
    have HB2 := Lib.hid hb2
    have q0 := cell_ext hb2 r0
    have q1 := cell_ext hb2 r1
    have HAl := Lib.hid (all_any (.slice QA qms.length qc) RA ms.length rc (by omega) W2)
    have HRun := Lib.hid (show ∀ w2, Below W2.heap.size W2 w2 → Calls Tryd.prog 45 #[.pointer (some ⟨w1.heap.size + 1, 0, none⟩), .int .i64 0, .int .u64 ((2 ^ ms.length - 1 : Nat) : Int), .int .u64 0] w2 (k.RunPost 0 (2 ^ ms.length - 1) 0 0 [] w2) from fun w2 hb3 => by
      have h := run_any k HKo.out 44 #[] hFv (fun _ _ => by kernel_rfl) (fun a b w _ _ _ => by rw [hfd]; simpa using gapfd_any a b w) (.inl ⟨hOv, hon⟩) k.P.ns.length 0 (by omega) (2 ^ ms.length - 1) 0 0 [] (.slice none 0 0) w2 hp2 (Nat.two_pow_pos 64) (HIn.out.ext hb3) rfl h13
      rw [hsb] at h
      exact h)
    have HRf := Lib.hid hRf
    have HSb := Lib.hid hsb
    have HW0 := Lib.hid hw0
    have HW2 := Lib.hid hW2
    clear hk hkok hin hcs hsb hw0 hFv hOv hon hfd hns hn12 hp2 h13 hRf hW2 hb2
    go_upto_region 5 with fail
    rw [show (w1.alloc (.map #[] 0)).alloc (.cells #[.slice QA qms.length qc, .slice RA ms.length rc, .slice none 0 0, .slice none 0 0, .map (some w1.heap.size), .nilFunc, .func (.func 44) #[] #[], .nilFunc, .slice none 0 0] 122) = W2 from HW2.out.symm]
    clear HW2
    obtain ⟨pw, hpw⟩ : ∃ pw, pw = 2 ^ ms.length - 1 := ⟨_, rfl⟩
    rw [← hpw] at HAl HRun HRf
    clear hpw r0 r1
    go_wp2_with fail
    refine HAl.out.mono ?_
    rintro e w2 ⟨rfl, hb3⟩
    have HRn := Lib.hid (HRun.out w2 hb3)
    clear hb3 HRun HAl
    obtain ⟨ri, hri⟩ : ∃ ri, ri = res.isSome := ⟨_, rfl⟩
    have HRI := Lib.hid hri
    have HRn2 := Lib.hid (show Calls Tryd.prog 45 #[.pointer (some ⟨w1.heap.size + 1, 0, none⟩), .int .i64 0, .int .u64 (pw : Int), .int .u64 0] w2 (fun e w3 => e = .returned (.bool ri) ∧ k.After 0 pw 0 0 [] w2 w3) from HRn.out.mono fun e w3 h => ⟨by rw [h.1, HRf.out, ← hri], h.2⟩)
    clear hri HRn q0 q1
    go_wp2_with fail
    refine HRn2.out.mono ?_
    rintro e w3 ⟨rfl, haf⟩
    obtain ⟨_, v3, cs3, n3, hi3, _, _, _, hsome⟩ := haf
    have HI3 := Lib.hid hi3
    have HSm := Lib.hid hsome
    have HEnd := Lib.hid (show Below w.heap.size w w3 from by
      have h1 := hi3.below
      rw [HW0.out] at h1
      exact ext_trans HX.out (ext_trans HB1.out h1))
    have x8 := hi3.blk.cell 8 rfl
    rw [HSb.out] at x8
    clear hi3 hsome
    cases res with
    | none =>
      obtain rfl : ri = false := HRI.out
      go_wp2_with fail
      go_ret3
      exact ⟨HEnd.out, .inr (.inl ⟨rfl, rfl, rfl⟩)⟩
    | some cs =>
      obtain rfl : ri = true := HRI.out
      have h3 : cs3 = [] ++ cs := HSm.out cs HRf.out
      rw [List.nil_append] at h3
      subst h3
      obtain ⟨A3, c3, rfl, _, _⟩ := own_slice HI3.out.row
      go_wp2_with fail
      go_ret3
      exact ⟨HEnd.out, .inr (.inr ⟨rfl, cs3, A3, c3, rfl, rfl, Rd.of_own HI3.out.row⟩)⟩
  · have HNz := Lib.hid h0
    unfold errVal
    rw [if_neg h0]
    unfold sentV
    clear h0
    go_wp2_with fail
    go_ret3
    refine ⟨ext_trans HX.out HB1.out, .inl ⟨HNz.out, ?_⟩⟩
    unfold errVal
    rw [if_neg HNz.out]
    rfl
end Go.Proofs.YtjfiodknjchngaaDoor.Gp

/- Gaps: Idle. -/
import Derived.Test.YtednlkchbjpabaaDoorGpZ
import Derived.Laws.AppendOwn
namespace Go.Proofs.YtednlkchbjpabaaDoor.Gp
open Go.RowKit Mem Nest Fk MapSet Err

theorem idlefd_any (a b : Nat) (w : World) : Calls Tryd.prog 43 #[.int .u64 a, .int .u64 b] w (RetA (a == 0) w) := by
  by_cases h : a = 0
  · have h1 : ((a : Int) == 0) = true := by simp [h]
    have HE := Lib.hid (show (a == 0) = true by simp [h])
    clear h
    go_enter Tryd.func43, Tryd.ntmps43
    go_wp2_with fail
    go_ret
    exact retA HE.out.symm (Below.refl _ _)
  · have h1 : ((a : Int) == 0) = false := by simp; omega
    have HE := Lib.hid (show (a == 0) = false by simp [h])
    clear h
    go_enter Tryd.func43, Tryd.ntmps43
    go_wp2_with fail
    go_ret
    exact retA HE.out.symm (Below.refl _ _)
/-- the rows, up to one, of which no case is decided first -/
def idleB (ns : List Nat) (rs : List Rw) (k : Nat) : Bool := ((exts ns).find? fun c => saysF rs c == some k).isSome
def idleTo (ns : List Nat) (rs : List Rw) : Nat → List Int
  | 0 => []
  | k + 1 => if idleB ns rs k = true then idleTo ns rs k else idleTo ns rs k ++ [(k : Int)]
theorem idleTo_len (ns : List Nat) (rs : List Rw) : ∀ k, (idleTo ns rs k).length ≤ k
  | 0 => Nat.le_refl 0
  | k + 1 => by
    have := idleTo_len ns rs k
    rw [idleTo]
    split
    · omega
    · rw [List.length_append]
      simp
      omega
def IdlePost (c : Nat) (l : List Int) (A : Nat → Addr) (w : World) (e : Ending) (w' : World) : Prop := Below w.heap.size w w' ∧
  ((c ≠ 0 ∧ e = .returned (.tuple #[.slice none 0 0, errVal A c])) ∨ (c = 0 ∧ ∃ A' c', e = .returned (.tuple #[.slice A' l.length c', .nilIface]) ∧ Rd w' A' (ints l)))
set_option maxRecDepth 100000 in
set_option maxHeartbeats 8000000 in
theorem idle_any (A : Nat → Addr) (qms : List QnM) (QA : Option Addr) (qc : Nat) (ms : List RwM) (RA : Option Addr) (rc : Nat) (w : World) (hq : QsP w QA qms) (hr : RowsP w RA ms)
    (hV : ∀ w' : World, Below w.heap.size w w' → Calls Tryd.prog 14 #[.agg #[.slice QA qms.length qc, .slice RA ms.length rc]] w' (ValidPost A (vcode (qms.map QnM.qn) (ms.map RwM.rw)) w'))
    (res : List Int) (hres : res = idleTo (qms.map fun q => q.ans.length) (ms.map RwM.rw) ms.length) :
    Calls Tryd.prog 13 #[.agg #[.slice QA qms.length qc, .slice RA ms.length rc]] w (IdlePost (vcode (qms.map QnM.qn) (ms.map RwM.rw)) res A w) := by
  have HRes := Lib.hid hres
  have hmm := @run_makeMap Tryd.prog
  have hbk := Blk.new w 31 [.slice QA qms.length qc, .slice RA ms.length rc]
  have hx := ext_alloc w (.cells (List.toArray [.slice QA qms.length qc, .slice RA ms.length rc]) 31)
  obtain ⟨W, hW⟩ : ∃ W, W = w.alloc (.cells (List.toArray [.slice QA qms.length qc, .slice RA ms.length rc]) 31) := ⟨_, rfl⟩
  obtain ⟨K, hK⟩ : ∃ K, K = w.heap.size := ⟨_, rfl⟩
  rw [← hW] at hx hbk
  rw [← hK] at hbk
  have HX := Lib.hid hx
  have HV := Lib.hid (hV W hx)
  have HQ := Lib.hid (hq.ext hx)
  have HR := Lib.hid (hr.ext hx)
  have HW := Lib.hid hW
  have HK := Lib.hid hK
  have r0 := hbk.cell 0 rfl
  have r1 := hbk.cell 1 rfl
  obtain ⟨c, hc⟩ : ∃ c, c = vcode (qms.map QnM.qn) (ms.map RwM.rw) := ⟨_, rfl⟩
  rw [← hc] at HV ⊢
  have HC := Lib.hid hc
  obtain ⟨i0, hi, hz0, hz1, hz2⟩ := info_parts int_info
  have HI := Lib.hid hi
  have HZ0 := Lib.hid hz0
  have HZ1 := Lib.hid hz1
  have HZ2 := Lib.hid hz2
  clear hbk hx hW hK hq hr hV hc hres hi hz0 hz1 hz2
  go_enter Tryd.func13, Tryd.ntmps13
  go_upto_region 1 with fail
  rw [show w.alloc (.cells #[.slice QA qms.length qc, .slice RA ms.length rc] 31) = W from HW.out.symm, ← HK.out]
  clear HW
  go_wp2_with fail
  refine HV.out.mono ?_
  rintro e w1 ⟨rfl, hb1⟩
  have HB1 := Lib.hid hb1
  have r0 := cell_ext hb1 r0
  have r1 := cell_ext hb1 r1
  clear hb1
  by_cases h0 : c = 0
  · subst h0
    unfold errVal
    rw [if_pos rfl]
    have HVt := Lib.hid (valid_of HC.out.symm)
    have hm60 : ms.length ≤ 60 := by have := HVt.out.r60; rwa [List.length_map] at this
    go_wp2_with fail
    go_loopw [5, 17] (fun t5 t17 wr => ∃ (j : Nat) (v : Value) (l : List Int), v = t5 ∧ t17 = .int .i64 j ∧ j ≤ ms.length ∧ Hid (l = idleTo (qms.map fun q => q.ans.length) (ms.map RwM.rw) j) ∧ Hid (wr.ownsRow w1.heap.size 3 1 v l.length (ints l)) ∧ Hid (Below w1.heap.size w1 wr)) (fun _ t17 _ => ms.length - (intOf t17).toNat)
    case atStart => exact ⟨0, _, [], rfl, rfl, by omega, rfl, World.ownsRow_nil _ _ _ _, Below.refl _ _⟩
    case round =>
      obtain ⟨j, v, l, rfl, rfl, hj, HL, HO, HB2⟩ := hrel
      have r0 := cell_ext HB2.out r0
      have r1 := cell_ext HB2.out r1
      by_cases hlt : j < ms.length
      · have hcl : (j : Int) < ms.length := by omega
        have HR2 := Lib.hid ((HR.out.ext HB1.out).ext HB2.out)
        have HQ2 := Lib.hid ((HQ.out.ext HB1.out).ext HB2.out)
        obtain ⟨rb, ro, hRA, z0, z1⟩ := HR2.out.row hlt
        have HCe := Lib.hid (HR2.out.cells _ (List.getElem_mem hlt))
        subst hRA
        have hnq : (qms.map QnM.qn).length = qms.length := List.length_map _
        have HCo := Lib.hid (fun (q : Nat) (hq : q < ms[j].cells.length) => cellOf_map ms j q hlt hq)
        have hclen : ms[j].cells.length = qms.length := by
          have h1 := HVt.out.cl ms[j].rw (List.mem_map.2 ⟨ms[j], List.getElem_mem hlt, rfl⟩)
          unfold RwM.rw at h1
          rw [List.length_map, List.length_map] at h1
          exact h1
        generalize ms[j] = r at *
        obtain ⟨cs, cA, cc, out⟩ := r
        simp only at z0 z1 HCe HCo hclen
        obtain ⟨V, hVe⟩ : ∃ V, V = wr.alloc (.cells (List.toArray [.slice cA cs.length cc, .string ⟨out.toArray⟩]) 95) := ⟨_, rfl⟩
        have hxv : Below wr.heap.size wr V := by rw [hVe]; exact ext_alloc wr _
        have hbv : Blk V wr.heap.size 95 [.slice cA cs.length cc, .string ⟨out.toArray⟩] := by rw [hVe]; exact Blk.new wr _ _
        have y0 := hbv.cell 0 rfl
        have y1 := hbv.cell 1 rfl
        have y2 := cell_ext (ext_alloc V (.map #[] 0)) y0
        have y3 := cell_ext (ext_alloc V (.map #[] 0)) y1
        have s0 := cell_ext hxv r0
        have s1 := cell_ext hxv r1
        obtain ⟨only, hon⟩ : ∃ only : Nat → Nat → Bool, only = fun (q a : Nat) => fitC (cellOf (ms.map RwM.rw) j q) (a : Nat) := ⟨_, rfl⟩
        obtain ⟨k, hk⟩ : ∃ k, k = knOf V (V.heap.size + 1) V.heap.size QA qc qms (some ⟨rb, ro, none⟩) rc ms only (.func (.func 42) #[.agg #[.slice cA cs.length cc, .string ⟨out.toArray⟩]] #[]) (.func (.func 43) #[] #[]) := ⟨_, rfl⟩
        have hkok : k.Ok := by rw [hk]; exact knOf_ok (HQ2.out.ext hxv) (HR2.out.ext hxv) HVt.out (Nat.le_refl _) (by omega)
        have hin : k.Inv ((V.alloc (.map #[] 0)).alloc (.cells (k.cells (.slice none 0 0)).toArray 106)) (.slice none 0 0) [] 0 := inv_new k V (by rw [hk]; exact Below.refl _ _) (by rw [hk]; rfl) (by rw [hk]; rfl)
        have hcs : k.cells (.slice none 0 0) = [.slice QA qms.length qc, .slice (some ⟨rb, ro, none⟩) ms.length rc, .slice none 0 0, .slice none 0 0, .map (some V.heap.size), .func (.func 42) #[.agg #[.slice cA cs.length cc, .string ⟨out.toArray⟩]] #[], .func (.func 43) #[] #[], .nilFunc, .slice none 0 0] := by rw [hk]; rfl
        rw [hcs] at hin
        have hsb : k.sb = V.heap.size + 1 := by rw [hk]; rfl
        have hw0 : k.w0 = V := by rw [hk]; rfl
        have hFv : k.F = .func (.func 43) #[] #[] := by rw [hk]; rfl
        have hOv : k.O = .func (.func 42) #[.agg #[.slice cA cs.length cc, .string ⟨out.toArray⟩]] #[] := by rw [hk]; rfl
        have hko : k.P.only = fun (q a : Nat) => fitC (cellOf (ms.map RwM.rw) j q) (a : Nat) := by rw [hk, ← hon]; rfl
        have hfd : ∀ a b, k.P.fd a b = (a == 0) := by rw [hk]; intro a b; rfl
        have hns : k.P.ns = qms.map fun q => q.ans.length := by rw [hk]; rfl
        have hkq : k.qms = qms := by rw [hk]; rfl
        have hn12 : k.P.ns.length ≤ 12 := by rw [hns, List.length_map]; have := HVt.out.q12; rwa [List.length_map] at this
        have hp2 : 2 ^ j - 1 < 2 ^ 64 := Nat.lt_of_le_of_lt (Nat.sub_le _ _) (Nat.pow_lt_pow_right (by omega) (by omega))
        have h13 : 0 + 13 ^ (k.P.ns.length + 1) ≤ 1000000000000000000 := by
          rw [Nat.zero_add]
          exact Nat.le_trans (Nat.pow_le_pow_right (n := 13) (by omega) (by omega : k.P.ns.length + 1 ≤ 13)) (by decide)
        obtain ⟨ri, hri⟩ : ∃ ri, ri = idleB (qms.map fun q => q.ans.length) (ms.map RwM.rw) j := ⟨_, rfl⟩
        have hRf : (k.P.R 0 (2 ^ j - 1) 0).isSome = ri := by
          have h := idle_find k.P (ms.map RwM.rw) j (by rw [List.length_map]; exact hlt) (by
            intro r hr
            rw [hns, List.length_map]
            have := HVt.out.cl r hr
            rwa [List.length_map] at this) (by rw [hk]; rfl) (by rw [hk]; rfl) hko hfd
          rw [h, hns, hri]
          rfl
        obtain ⟨W2, hW2⟩ : ∃ W2, W2 = (V.alloc (.map #[] 0)).alloc (.cells (List.toArray [.slice QA qms.length qc, .slice (some ⟨rb, ro, none⟩) ms.length rc, .slice none 0 0, .slice none 0 0, .map (some V.heap.size), .func (.func 42) #[.agg #[.slice cA cs.length cc, .string ⟨out.toArray⟩]] #[], .func (.func 43) #[] #[], .nilFunc, .slice none 0 0]) 106) := ⟨_, rfl⟩
        rw [← hW2] at hin
        have HIn := Lib.hid hin
        obtain ⟨pw, hpw⟩ : ∃ pw, pw = 2 ^ j := ⟨_, rfl⟩
        have hpw0 : 0 < pw := by rw [hpw]; exact Nat.two_pow_pos j
        have hpw1 : pw < 18446744073709551616 := by
          rw [hpw]
          show 2 ^ j < 2 ^ 64
          exact Nat.pow_lt_pow_right (by omega) (by omega)
        have e1 := shlN j (by omega)
        rw [← hpw] at e1 hRf hp2
        have HRun := Lib.hid (show Calls Tryd.prog 39 #[.pointer (some ⟨V.heap.size + 1, 0, none⟩), .int .i64 0, .int .u64 ((pw : Int) - 1), .int .u64 0] W2 (fun e w3 => e = .returned (.bool ri) ∧ Below V.heap.size V w3) from by
          have h := run_any k hkok 43 #[] hFv (fun _ _ => by kernel_rfl) (fun a b w _ _ _ => by rw [hfd]; simpa using idlefd_any a b w)
            (.inr ⟨42, .agg #[.slice cA cs.length cc, .string ⟨out.toArray⟩], hOv, (fun _ _ => by kernel_rfl), fun q i w hq hb => by
              rw [hkq] at hq
              rw [hw0] at hb
              have hqc : q < cs.length := by omega
              have h1 := fits_any cs cA cc ⟨out.toArray⟩ q (i : Int) hqc w ((HCe.out.ext hxv).ext hb)
              rw [hko]
              show Calls _ _ _ _ (RetA (fitC (cellOf (ms.map RwM.rw) j q) (i : Nat)) w)
              rw [HCo.out q hqc]
              exact h1⟩) k.P.ns.length 0 (by omega) (pw - 1) 0 0 [] (.slice none 0 0) W2 hp2 (Nat.two_pow_pos 64) HIn.out rfl h13
          rw [hsb, show ((pw - 1 : Nat) : Int) = (pw : Int) - 1 by omega] at h
          refine h.mono fun e w3 hp => ⟨by rw [hp.1, hRf], ?_⟩
          obtain ⟨_, _, _, _, hi3, _⟩ := hp.2
          have := hi3.below
          rwa [hw0] at this)
        have HRi := Lib.hid hri
        have HXv := Lib.hid hxv
        have HVe := Lib.hid hVe
        have HW2 := Lib.hid hW2
        have hlen : l.length ≤ 60 := by rw [HL.out]; have := idleTo_len (qms.map fun q => q.ans.length) (ms.map RwM.rw) j; omega
        have hsz1 : w1.heap.size ≤ wr.heap.size := HB2.out.size
        clear hnq hclen hVe hxv hbv hon hk hkok hin hcs hsb hw0 hFv hOv hko hfd hns hkq hn12 hp2 h13 hri hRf hW2 hpw HCo
        go_upto_region 8 with fail
        rw [show wr.alloc (.cells #[.slice cA cs.length cc, .string ⟨out.toArray⟩] 95) = V from HVe.out.symm]
        clear HVe z0 z1 r0 r1
        go_upto_region 9 with fail
        rw [show (V.alloc (.map #[] 0)).alloc (.cells #[.slice QA qms.length qc, .slice (some ⟨rb, ro, none⟩) ms.length rc, .slice none 0 0, .slice none 0 0, .map (some V.heap.size), .func (.func 42) #[.agg #[.slice cA cs.length cc, .string ⟨out.toArray⟩]] #[], .func (.func 43) #[] #[], .nilFunc, .slice none 0 0] 106) = W2 from HW2.out.symm]
        clear HW2
        go_wp2_with fail
        refine HRun.out.mono ?_
        rintro e w3 ⟨rfl, hb3⟩
        have HB3 := Lib.hid (ext_trans HXv.out hb3)
        have hsz3 : wr.heap.size ≤ w3.heap.size := HB3.out.size
        clear hb3 HRun y0 y1 y2 y3 s0 s1
        cases ri with
        | true =>
          go_wp2_with fail
          go_roundw
          case rel => exact ⟨j + 1, v, l, rfl, by go_num, by omega, (show l = idleTo (qms.map fun q => q.ans.length) (ms.map RwM.rw) (j + 1) by rw [idleTo, ← HRi.out, if_pos rfl, HL.out]), own_ext HO.out HB3.out, ext_trans HB2.out HB3.out⟩
          case measure => simp [intOf]; omega
        | false =>
          go_wp2_with (at_builtin; refine wpList_append_own _ rfl _ _ _ rfl w1.heap.size 3 i0 _ 1 8 Tryd.underlying34 HI.out HZ0.out HZ1.out HZ2.out rfl (by omega) v l.length (ints l) rfl (World.ownsRow.alloc (own_ext HO.out HB3.out) _) ⟨w3.heap.size, 0, none⟩ 1 1 [.int .i64 (j : Int)] rfl rfl (new_cells w3 [.int .i64 (j : Int)] _ _ rfl) (by intro u hu; simp only [List.mem_cons, List.not_mem_nil, or_false] at hu; rcases hu with rfl; rfl) (by unfold maxLen; omega) (by omega) (by simp; omega) ?_; intro v4 w4 hown4 hg4 _; have HO4 := Lib.hid hown4; have HG4 := Lib.hid hg4; clear hown4 hg4)
          go_roundw
          case rel => exact ⟨j + 1, v4, l ++ [(j : Int)], rfl, by go_num, by omega, (show l ++ [(j : Int)] = idleTo (qms.map fun q => q.ans.length) (ms.map RwM.rw) (j + 1) by rw [idleTo, ← HRi.out, if_neg (by simp), HL.out]), (show w4.ownsRow w1.heap.size 3 1 v4 (l ++ [(j : Int)]).length (ints (l ++ [(j : Int)])) by rw [ints_snoc, List.length_append]; exact HO4.out),
            ((HB2.out.trans (HB3.out.mono hsz1)).alloc (Nat.le_trans hsz1 hsz3) _).grown HG4.out (by simp; omega) (fun g hg => (HO.out.lt g hg).1)⟩
          case measure => simp [intOf]; omega
      · obtain rfl : ms.length = j := by omega
        have hcl : ¬ (ms.length : Int) < ms.length := by omega
        have hlr : l = res := by rw [HL.out, HRes.out]
        subst hlr
        obtain ⟨A3, c3, rfl, _, _⟩ := own_slice HO.out
        go_wp2_with fail
        go_ret2
        exact ⟨ext_trans HX.out (ext_trans HB1.out HB2.out), .inr ⟨rfl, A3, c3, rfl, Rd.of_own HO.out⟩⟩
  · have HNz := Lib.hid h0
    unfold errVal
    rw [if_neg h0]
    unfold sentV
    clear h0
    go_wp2_with fail
    go_ret2
    refine ⟨ext_trans HX.out HB1.out, .inl ⟨HNz.out, ?_⟩⟩
    unfold errVal
    rw [if_neg HNz.out]
    rfl
end Go.Proofs.YtednlkchbjpabaaDoor.Gp

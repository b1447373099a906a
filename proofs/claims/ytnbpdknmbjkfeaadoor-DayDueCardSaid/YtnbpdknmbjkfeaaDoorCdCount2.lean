/- Counting working days: the program's Count. -/
import Derived.Test.YtnbpdknmbjkfeaaDoorCdCount
import Derived.Deep.DeepCutAuto
namespace Go.Proofs.YtnbpdknmbjkfeaaDoor.CdM
open Go.RowKit Mem CdP MapSet Solve CdR Day Nest RefDay

/-- a day among those that there are, or the one behind them -/
def cl (x : Int) : Int := if x < 1 then 1 else if 3652060 < x then 3652060 else x
theorem cl_bd (x : Int) : 1 ≤ cl x ∧ cl x ≤ 3652060 := by unfold cl; split <;> (try split) <;> omega
theorem cl_mono {x y : Int} (h : x ≤ y) : cl x ≤ cl y := by unfold cl; (repeat' split) <;> omega
theorem cl_is (x : Int) : (x < 1 → cl x = 1) ∧ (3652060 < x → cl x = 3652060) ∧ (1 ≤ x → x ≤ 3652060 → cl x = x) := by
  unfold cl
  refine ⟨fun h => by rw [if_pos h], fun h => by rw [if_neg (by omega), if_pos h], fun h h' => by rw [if_neg (by omega), if_neg (by omega)]⟩
def cntR (c : Cd) (f t : Int) : Int := (cnt c.off c.hol (cl f) (cl t - cl f).toNat : Nat)
/-- how many working days: what both functions give -/
def cntI (c : Cd) (f t : Int) : Int := if t < f then -cntR c t f else cntR c f t
theorem cntR_bd (c : Cd) (f t : Int) : 0 ≤ cntR c f t ∧ cntR c f t ≤ 3652060 := by
  have h := cnt_le c.off c.hol (cl f) (cl t - cl f).toNat
  have h1 := cl_bd f
  have h2 := cl_bd t
  unfold cntR
  omega
set_option maxRecDepth 100000 in
set_option maxHeartbeats 4000000 in
theorem countp_any (c : Cd) (ok : CdOk c) (b o : Nat) (A : Option Addr) (hc : Nat) (f t : Int) (hft : f ≤ t) (w : World) (h : CdA w b o c A hc) :
    Calls Tryd.prog 23 #[.pointer (some ⟨b, o, none⟩), .int .i64 f, .int .i64 t] w fun e w' => e = .returned (.int .i64 (cntR c f t)) ∧ Below w.heap.size w w' := by
  have HC := Lib.hid h
  have h7 := h.hol
  have hlen := ok.len
  have hmm := @run_makeMap Tryd.prog
  have hlt' : decide (t < f) = false := by simp; omega
  obtain ⟨F1, F2⟩ := cl_bd f
  obtain ⟨T1, T2⟩ := cl_bd t
  have hm := cl_mono hft
  have HB1 := Lib.hid (before_any c b o A hc (cl t) T1 T2 w h)
  have HB2 := Lib.hid (before_any c b o A hc (cl f) F1 F2 w h)
  obtain ⟨k, hk⟩ : ∃ k : Nat, (k : Int) = cl t - cl f := ⟨(cl t - cl f).toNat, by omega⟩
  have hbc := bef_cnt c.off c.len (cl f) F1 k
  rw [show cl f + (k : Int) = cl t by omega] at hbc
  have HBC := Lib.hid hbc
  have HLe := Lib.hid (fun hol => cnt_le c.off hol (cl f) k)
  have HR := Lib.hid (show cntR c f t = (cnt c.off c.hol (cl f) k : Nat) by unfold cntR; rw [show (cl t - cl f).toNat = k by omega])
  have hbb : 0 ≤ bef c.off 0 (cl f) ∧ bef c.off 0 (cl f) ≤ 4200000 := by
    have h0 := bef_cnt c.off c.len 1 (by omega) (cl f - 1).toNat
    have h1 := cnt_le c.off [] 1 (cl f - 1).toNat
    rw [show (1 : Int) + ((cl f - 1).toNat : Nat) = cl f by omega] at h0
    have h2 : 0 ≤ bef c.off 0 1 ∧ bef c.off 0 1 ≤ 7 := by
      have hl := c.len
      generalize c.off = l at hl
      match l, hl with
      | [a0, a1, a2, a3, a4, a5, a6], _ =>
        simp only [bef]
        cases a0 <;> cases a1 <;> cases a2 <;> cases a3 <;> cases a4 <;> cases a5 <;> cases a6 <;> simp
    omega
  have HIf := Lib.hid (cl_is f)
  have HIt := Lib.hid (cl_is t)
  generalize hf' : cl f = a at *
  generalize ht' : cl t = z at *
  clear h
  go_enter Tryd.func23, Tryd.ntmps23
  go_upto_region 3 with fail
  go_cut [1, 2] (fun s1 s2 wx => w = wx ∧ s1 = .int .i64 a ∧ s2 = .int .i64 z)
  case first =>
    obtain ⟨if1, if2, if3⟩ := HIf.out
    obtain ⟨it1, it2, it3⟩ := HIt.out
    clear HB1 HB2 HBC HLe HR hbb hk hm F1 F2 T1 T2 hf' ht' h7 HIf HIt HC hmm hbc
    have cf : f < 1 ∨ f = 1 ∨ (1 < f ∧ f < 3652060) ∨ f = 3652060 ∨ 3652060 < f := by omega
    have ct : t < 1 ∨ t = 1 ∨ (1 < t ∧ t < 3652060) ∨ t = 3652060 ∨ 3652060 < t := by omega
    rcases cf with c1 | c1 | ⟨c1, c2⟩ | c1 | c1
    · obtain rfl : a = 1 := by omega
      rcases ct with d1 | d1 | ⟨d1, d2⟩ | d1 | d1
      · obtain rfl : z = 1 := by omega
        clear if1 if2 if3 it1 it2 it3
        go_wp2_with fail
        go_meet
        exact ⟨rfl, rfl, rfl⟩
      · obtain rfl : z = 1 := by omega
        subst d1
        clear if1 if2 if3 it1 it2 it3
        go_wp2_with fail
        go_meet
        exact ⟨rfl, rfl, rfl⟩
      · obtain rfl : z = t := by omega
        clear if1 if2 if3 it1 it2 it3
        go_wp2_with fail
        go_meet
        exact ⟨rfl, rfl, rfl⟩
      · obtain rfl : z = 3652060 := by omega
        subst d1
        clear if1 if2 if3 it1 it2 it3
        go_wp2_with fail
        go_meet
        exact ⟨rfl, rfl, rfl⟩
      · obtain rfl : z = 3652060 := by omega
        clear if1 if2 if3 it1 it2 it3
        go_wp2_with fail
        go_meet
        exact ⟨rfl, rfl, rfl⟩
    · obtain rfl : a = 1 := by omega
      subst c1
      rcases ct with d1 | d1 | ⟨d1, d2⟩ | d1 | d1
      · exfalso; omega
      · obtain rfl : z = 1 := by omega
        subst d1
        clear if1 if2 if3 it1 it2 it3
        go_wp2_with fail
        go_meet
        exact ⟨rfl, rfl, rfl⟩
      · obtain rfl : z = t := by omega
        clear if1 if2 if3 it1 it2 it3
        go_wp2_with fail
        go_meet
        exact ⟨rfl, rfl, rfl⟩
      · obtain rfl : z = 3652060 := by omega
        subst d1
        clear if1 if2 if3 it1 it2 it3
        go_wp2_with fail
        go_meet
        exact ⟨rfl, rfl, rfl⟩
      · obtain rfl : z = 3652060 := by omega
        clear if1 if2 if3 it1 it2 it3
        go_wp2_with fail
        go_meet
        exact ⟨rfl, rfl, rfl⟩
    · obtain rfl : a = f := by omega
      rcases ct with d1 | d1 | ⟨d1, d2⟩ | d1 | d1
      · exfalso; omega
      · exfalso; omega
      · obtain rfl : z = t := by omega
        clear if1 if2 if3 it1 it2 it3
        go_wp2_with fail
        go_meet
        exact ⟨rfl, rfl, rfl⟩
      · obtain rfl : z = 3652060 := by omega
        subst d1
        clear if1 if2 if3 it1 it2 it3
        go_wp2_with fail
        go_meet
        exact ⟨rfl, rfl, rfl⟩
      · obtain rfl : z = 3652060 := by omega
        clear if1 if2 if3 it1 it2 it3
        go_wp2_with fail
        go_meet
        exact ⟨rfl, rfl, rfl⟩
    · obtain rfl : a = 3652060 := by omega
      subst c1
      rcases ct with d1 | d1 | ⟨d1, d2⟩ | d1 | d1
      · exfalso; omega
      · exfalso; omega
      · exfalso; omega
      · obtain rfl : z = 3652060 := by omega
        subst d1
        clear if1 if2 if3 it1 it2 it3
        go_wp2_with fail
        go_meet
        exact ⟨rfl, rfl, rfl⟩
      · obtain rfl : z = 3652060 := by omega
        clear if1 if2 if3 it1 it2 it3
        go_wp2_with fail
        go_meet
        exact ⟨rfl, rfl, rfl⟩
    · obtain rfl : a = 3652060 := by omega
      rcases ct with d1 | d1 | ⟨d1, d2⟩ | d1 | d1
      · exfalso; omega
      · exfalso; omega
      · exfalso; omega
      · exfalso; omega
      · obtain rfl : z = 3652060 := by omega
        clear if1 if2 if3 it1 it2 it3
        go_wp2_with fail
        go_meet
        exact ⟨rfl, rfl, rfl⟩
  case rest =>
    obtain ⟨rfl, rfl, rfl⟩ := hcut
    clear hf' ht' HIf HIt
    have hX0 := ext_alloc w (.map #[] 0)
    have HX0 := Lib.hid hX0
    have h7x := cell_ext hX0 h7
    have HF0 := Lib.hid (show FreeM (w.alloc (.map #[] 0)) w.heap.size 0 (c.hol.take 0) from (SetM.made w).congr fun v => by simp)
    clear hX0 h7
    go_wp2_with fail
    refine HB1.out.mono ?_
    rintro e w' ⟨rfl, rfl⟩
    go_wp2_with fail
    refine HB2.out.mono ?_
    rintro e w' ⟨rfl, rfl⟩
    obtain ⟨hb1, hb2⟩ := hbb
    have hle := HLe.out []
    have hbc2 := HBC.out
    generalize bef c.off 0 z = bz at *
    generalize bef c.off 0 a = ba at *
    obtain ⟨m0, hm0⟩ : ∃ m0, m0 = cnt c.off [] a k := ⟨_, rfl⟩
    rw [← hm0] at hle hbc2
    subst hbc2
    have HM0 := Lib.hid hm0
    have hkb : k ≤ 3652060 := by omega
    clear hm0 HB1 HB2 HBC
    go_wp2_with fail
    clear h7x hmm
    go_loopw [7, 38] (fun t7 t38 wr => ∃ (n j : Nat), t7 = .int .i64 n ∧ t38 = .int .i64 j ∧ j ≤ c.hol.length ∧ n ≤ 3652060 ∧ Hid (n = cnt c.off (c.hol.take j) a k) ∧ Hid (Below w.heap.size w wr) ∧ Hid (FreeM wr w.heap.size j (c.hol.take j))) (fun _ t38 _ => c.hol.length - (intOf t38).toNat)
    case atStart => exact ⟨m0, 0, by congr 1; omega, rfl, Nat.zero_le _, by omega, HM0.out, HX0.out, HF0.out⟩
    case round =>
      clear HX0 HF0 HM0
      obtain ⟨n, j, rfl, rfl, hj, hn, HN, HB, HF⟩ := hrel
      by_cases hlt : j < c.hol.length
      · obtain ⟨b', o', rfl, hx⟩ := (HC.out.ext HB.out).rd.int hlt
        have HAdd := Lib.hid (cnt_add c.off (c.hol.take j) c.hol[j] a k)
        have hwf := ok.wf _ (List.getElem_mem hlt)
        have HTk := Lib.hid (show c.hol.take (j + 1) = c.hol.take j ++ [c.hol[j]] from List.take_succ_eq_append_getElem hlt)
        have HUp := Lib.hid (fun (q : Nat) => SetM.update (show FreeM (wr.drewN q) w.heap.size j (c.hol.take j) from SetM.ext HF.out (ext_drewN wr q)) int_law Tryd.underlying141 Tryd.underlying4 (by have := ok.len; unfold maxLen; omega) (int_key c.hol[j] hwf))
        have HFn := Lib.hid (fun (w1 : World) (hs : SetM Tryd.prog 3 4 w1 w.heap.size (j + 1) (fun x => x = .int .i64 c.hol[j] ∨ ∃ y ∈ c.hol.take j, x = .int .i64 y)) => show FreeM w1 w.heap.size (j + 1) (c.hol.take (j + 1)) from hs.congr fun v => by
          rw [List.take_succ_eq_append_getElem hlt]
          constructor
          · rintro (rfl | ⟨y, hy, rfl⟩)
            · exact ⟨_, List.mem_append_right _ (List.mem_singleton.2 rfl), rfl⟩
            · exact ⟨y, List.mem_append_left _ hy, rfl⟩
          · rintro ⟨y, hy, rfl⟩
            rcases List.mem_append.1 hy with hy | hy
            · exact .inr ⟨y, hy, rfl⟩
            · rw [List.mem_singleton] at hy; subst hy; exact .inl rfl)
        have hlk : ∀ q, (Instr.lookup 141 (.map (some w.heap.size)) (.int .i64 c.hol[j]) false).run Tryd.prog (wr.drewN q) = .ok (.bool ((c.hol.take j).contains c.hol[j])) (wr.drewN q) := fun q => FreeM.look (SetM.ext HF.out (ext_drewN wr q)) _ hwf
        have HFl := Lib.hid (HC.out.ext HB.out).flag
        generalize c.hol[j] = x at *
        have HStay := Lib.hid (fun (hno : ¬ (a ≤ x ∧ x < a + k ∧ wk c.off (c.hol.take j) x = true)) => show n = cnt c.off (c.hol.take (j + 1)) a k by rw [HTk.out, HN.out, HAdd.out, if_neg hno]; rfl)
        have HLess := Lib.hid (fun (hy : a ≤ x ∧ x < a + k ∧ wk c.off (c.hol.take j) x = true) => show 0 < n ∧ n - 1 = cnt c.off (c.hol.take (j + 1)) a k by have := HAdd.out; rw [if_pos hy, ← HN.out] at this; rw [HTk.out]; omega)
        have hz : z = a + k := by omega
        have HZ := Lib.hid hz
        clear HAdd HTk
        by_cases x1 : a ≤ x
        · have x1' : decide (a ≤ x) = true := by simp [x1]
          by_cases x2 : x < z
          · have x2' : decide (x < z) = true := by simp [x2]
            have g1 : 1 ≤ x := by omega
            have g2 : x ≤ 3652059 := by omega
            have HWk := Lib.hid (fun w => week_yes x g1 g2 w)
            have hf := HFl.out x
            have hmo0 : (0 : Int) ≤ (x - 1) % 7 := by omega
            have hmo1 : (x - 1) % 7 < 7 := by omega
            have HWv := Lib.hid (show wk c.off (c.hol.take j) x = (!offAt c.off x && !(c.hol.take j).contains x) from rfl)
            have HXX := Lib.hid (show a ≤ x ∧ x < a + k by omega)
            generalize (c.hol.take j).contains x = g at *
            generalize offAt c.off x = fl at *
            generalize (x - 1) % 7 = mo at *
            clear hz
            cases g
            · cases fl
              · have HL := Lib.hid (HLess.out ⟨HXX.out.1, HXX.out.2, by rw [HWv.out]; rfl⟩)
                clear HStay HLess HWv
                have hnp : 0 < n := HL.out.1
                go_wp2_with fail
                go_quiet ((go_at_call 63; exact Calls.quiet_of_same ((HWk.out _).mono fun e w' h => ⟨h.1, h.2.symm⟩)))
                obtain ⟨w1, hrun, hs, hg⟩ := HUp.out nq
                have HB1 := Lib.hid (HB.out.trans (((ext_drewN wr nq).mono HB.out.size).trans (grown_keep hg (Nat.le_refl _) HB.out.size)))
                have HF1 := Lib.hid (HFn.out w1 hs)
                clear hs hg hlk
                go_wp2_with fail
                go_roundw
                case rel => exact ⟨n - 1, j + 1, by congr 1; omega, by go_num, by omega, by omega, HL.out.2, HB1.out, HF1.out⟩
                case measure => simp [intOf]; omega
              · have HL := Lib.hid (HStay.out (fun hh => by rw [HWv.out] at hh; simp at hh))
                clear HStay HLess HWv
                go_wp2_with fail
                go_quiet ((go_at_call 63; exact Calls.quiet_of_same ((HWk.out _).mono fun e w' h => ⟨h.1, h.2.symm⟩)))
                obtain ⟨w1, hrun, hs, hg⟩ := HUp.out nq
                have HB1 := Lib.hid (HB.out.trans (((ext_drewN wr nq).mono HB.out.size).trans (grown_keep hg (Nat.le_refl _) HB.out.size)))
                have HF1 := Lib.hid (HFn.out w1 hs)
                clear hs hg hlk
                go_wp2_with fail
                go_roundw
                case rel => exact ⟨n, j + 1, rfl, by go_num, by omega, by omega, HL.out, HB1.out, HF1.out⟩
                case measure => simp [intOf]; omega
            · have HL := Lib.hid (HStay.out (fun hh => by rw [HWv.out] at hh; simp at hh))
              clear HStay HLess HWv hf
              go_wp2_with fail
              go_quiet (fail)
              obtain ⟨w1, hrun, hs, hg⟩ := HUp.out nq
              have HB1 := Lib.hid (HB.out.trans (((ext_drewN wr nq).mono HB.out.size).trans (grown_keep hg (Nat.le_refl _) HB.out.size)))
              have HF1 := Lib.hid (HFn.out w1 hs)
              clear hs hg hlk
              go_wp2_with fail
              go_roundw
              case rel => exact ⟨n, j + 1, rfl, by go_num, by omega, by omega, HL.out, HB1.out, HF1.out⟩
              case measure => simp [intOf]; omega
          · have x2' : decide (x < z) = false := by simp; omega
            have HL := Lib.hid (HStay.out (fun hh => by have := HZ.out; omega))
            clear HStay HLess hz hlk
            go_wp2_with fail
            go_quiet (fail)
            obtain ⟨w1, hrun, hs, hg⟩ := HUp.out nq
            have HB1 := Lib.hid (HB.out.trans (((ext_drewN wr nq).mono HB.out.size).trans (grown_keep hg (Nat.le_refl _) HB.out.size)))
            have HF1 := Lib.hid (HFn.out w1 hs)
            clear hs hg
            go_wp2_with fail
            go_roundw
            case rel => exact ⟨n, j + 1, rfl, by go_num, by omega, by omega, HL.out, HB1.out, HF1.out⟩
            case measure => simp [intOf]; omega
        · have x1' : decide (a ≤ x) = false := by simp; omega
          have HL := Lib.hid (HStay.out (fun hh => x1 hh.1))
          clear HStay HLess hz hlk
          go_wp2_with fail
          go_quiet (fail)
          obtain ⟨w1, hrun, hs, hg⟩ := HUp.out nq
          have HB1 := Lib.hid (HB.out.trans (((ext_drewN wr nq).mono HB.out.size).trans (grown_keep hg (Nat.le_refl _) HB.out.size)))
          have HF1 := Lib.hid (HFn.out w1 hs)
          clear hs hg
          go_wp2_with fail
          go_roundw
          case rel => exact ⟨n, j + 1, rfl, by go_num, by omega, by omega, HL.out, HB1.out, HF1.out⟩
          case measure => simp [intOf]; omega
      · obtain rfl : c.hol.length = j := by omega
        go_wp2_with fail
        go_ret
        have hN := HN.out
        rw [List.take_length] at hN
        exact ⟨ret_int (by rw [HR.out, hN]), HB.out⟩
set_option maxHeartbeats 400000 in
theorem count_any (c : Cd) (ok : CdOk c) (b o : Nat) (A : Option Addr) (hc : Nat) (f t : Int) (w : World) (h : CdA w b o c A hc) :
    Calls Tryd.prog 23 #[.pointer (some ⟨b, o, none⟩), .int .i64 f, .int .i64 t] w fun e w' => e = .returned (.int .i64 (cntI c f t)) ∧ Below w.heap.size w w' := by
  by_cases hft : t < f
  · have HP := Lib.hid (countp_any c ok b o A hc t f (by omega) w h)
    have hft' : decide (t < f) = true := by simp [hft]
    have HI := Lib.hid (show -cntR c t f = cntI c f t by unfold cntI; rw [if_pos hft])
    obtain ⟨hb1, hb2⟩ := cntR_bd c t f
    generalize cntR c t f = r at *
    clear h hft
    go_enter Tryd.func23, Tryd.ntmps23
    go_wp2_with fail
    refine HP.out.mono ?_
    rintro e w' ⟨rfl, hb⟩
    have HB := Lib.hid hb
    clear hb
    go_wp2_with fail
    go_ret
    exact ⟨ret_int HI.out, HB.out⟩
  · rw [show cntI c f t = cntR c f t by unfold cntI; rw [if_neg hft]]
    exact countp_any c ok b o A hc f t (by omega) w h
end Go.Proofs.YtnbpdknmbjkfeaaDoor.CdM

/- The document's each and Truth, against the plain answer. The document's Truth, against the plain answer. -/
import Derived.Test.YtnchlnfenebomaaGreatDoorHdT
namespace Go.Proofs.YtnchlnfenebomaaGreatDoor.Hd
open Go.RowKit Mem Nest Fk Coin Err

def IHT (q : Ask) (fb : Nat) (X : Nat → Prop) (d : Nat) : Prop := ∀ (x : Nd) (who : Int) (lb : Nat) (w : World), InW w X d x → Lr q fb lb who w → Lf q fb w → Calls Tryz.prog 11 #[.pointer (some ⟨lb, 0, none⟩), ndV x] w (BRPost (evH d q x who) w)
theorem bcode_cases {r : Bool × Nat} (h : OkH r) : r.2 = 0 ∨ (0 < r.2 ∧ r.1 = false) := by
  rcases h with e | ⟨e1, e | e⟩
  · exact .inl e
  · exact .inr ⟨by omega, e1⟩
  · exact .inr ⟨by omega, e1⟩
theorem count_take {f : Int → Bool} {l : List Int} {i : Nat} (h : i < l.length) : (l.take (i + 1)).countP f = (l.take i).countP f + (if f l[i] = true then 1 else 0) := by
  rw [List.take_succ_eq_append_getElem h, List.countP_append]
  simp
set_option maxRecDepth 100000 in
set_option maxHeartbeats 8000000 in
theorem each1 {q : Ask} (hq : Okq q) (fb lb : Nat) (who : Int) (X : Nat → Prop) (d : Nat) (IH : IHT q fb X d) (k s : List UInt8) (n : Int) (A : Option Addr) (c : Nat) (xk xs : List UInt8) (xn : Int) (xA : Option Addr) (xc : Nat) (xl : List Nd) (ev : Bool) (hev : (k == [101, 118, 101, 114, 121]) = ev) (rres : Bool × Nat) (hres : rres = eachF ev (fun o => evH d q (.mk xk xs xn xA xc xl) o) (q.others who s)) (w : World) (hN : InW w X (d + 1) (.mk k s n A c [.mk xk xs xn xA xc xl])) (hLr : Lr q fb lb who w) (hLf : Lf q fb w) :
    Calls Tryz.prog 45 #[.pointer (some ⟨lb, 0, none⟩), .agg #[.string ⟨k.toArray⟩, .string ⟨s.toArray⟩, .int .i64 n, .slice A 1 c]] w (BRPost rres w) := by
    have HIH := Lib.hid IH
    have HP0 := Lib.hid hres
    clear IH hres
    have HN := Lib.hid hN
    have HLr0 := Lib.hid hLr
    have HLf0 := Lib.hid hLf
    obtain ⟨W, hW, hx, hbn⟩ := boxedR w k s n A c (1)
    have HX := Lib.hid hx
    have HBn := Lib.hid hbn
    have HNW := Lib.hid (hN.ext hx)
    have HLr := Lib.hid (hLr.ext hx)
    have HLf := Lib.hid (hLf.ext hx)
    have m0 := hbn.cell 0 rfl
    have m1 := hbn.cell 1 rfl
    have m2 := hbn.cell 2 rfl
    have m3 := hbn.cell 3 rfl
    clear hN hLr hLf hx hbn
    go_enter Tryz.func45, Tryz.ntmps45
    go_upto_region 1 with fail
    rw [show w.alloc (.cells #[.string ⟨k.toArray⟩, .string ⟨s.toArray⟩, .int .i64 n, .slice A 1 c] 25) = W from hW.symm]
    clear hW
    have hol := others_len q who s
    have a0 := HLr.out.blk.cell 0 rfl
    have a1 := HLr.out.blk.cell 1 rfl
    have a2 := HLr.out.blk.cell 2 rfl
    have a3 := HLr.out.blk.cell 3 rfl
    have a4 := HLr.out.blk.cell 4 rfl
    have a5 := HLr.out.blk.cell 5 rfl
    have a6 := HLr.out.blk.cell 6 rfl
    have a7 := HLr.out.blk.cell 7 rfl
    have HV := Lib.hid (fun wx (hb : Below W.heap.size W wx) => (by obtain ⟨FA, fc, hf⟩ := HLf.out.ext hb; exact rothers_any q.l hq.len fb FA fc who s q.on q.kn wx hf : Calls Tryz.prog 51 #[.pointer (some ⟨fb, 0, none⟩), .int .i64 who, .string ⟨s.toArray⟩, .int .i64 q.on, .int .i64 q.kn] wx (IntsPost (q.others who s) wx)))
    obtain ⟨os, hos⟩ : ∃ os, q.others who s = os := ⟨_, rfl⟩
    rw [hos] at hol HP0 HV
    clear hos
    have HOK := Lib.hid (fun o => evH_ok hq d (.mk xk xs xn xA xc xl) o)
    obtain ⟨f, hf⟩ : ∃ f : Int → Bool × Nat, f = fun o => evH d q (.mk xk xs xn xA xc xl) o := ⟨_, rfl⟩
    rw [show (fun o => evH d q (.mk xk xs xn xA xc xl) o) = f from hf.symm] at HP0
    have HFe := Lib.hid hf
    clear hf
    go_wp2_with fail
    have hdr := ext_drewN W 1
    go_region_held3 (fun w' => w'.cell? ⟨lb, 0, none⟩ = some (.pointer (some ⟨fb, 0, none⟩)) ∧ w'.cell? ⟨lb, 1, none⟩ = some (.int .i64 who) ∧ w'.cell? ⟨lb, 2, none⟩ = some (.int .i64 q.on) ∧ w'.cell? ⟨lb, 3, none⟩ = some (.int .i64 q.kn) ∧ w'.cell? ⟨w.heap.size, 1, none⟩ = some (.string ⟨s.toArray⟩))
      ((first | exact ⟨a0, a1, a2, a3, m1⟩ | exact ⟨cell_ext hdr a0, cell_ext hdr a1, cell_ext hdr a2, cell_ext hdr a3, cell_ext hdr m1⟩ | exact ⟨cell_ext HBs.out a0, cell_ext HBs.out a1, cell_ext HBs.out a2, cell_ext HBs.out a3, cell_ext HBs.out m1⟩))
      ((go_at_call 51; refine (HV.out _ hdr).mono ?_; rintro e w2 ⟨OA, oc, rfl, hs, hb⟩; have HBs := Lib.hid (ext_trans hdr hb); have HS := Lib.hid hs; clear hb hs))
    clear hdr HV m0 m1 m2 m3 a0 a1 a2 a3 a4 a5 a6 a7
    go_wp2_with fail
    go_loopw [7, 8] (fun t7 t8 wr => ∃ (i cnt : Nat), t7 = .int .i64 cnt ∧ t8 = .int .i64 i ∧ i ≤ os.length ∧ cnt ≤ i ∧ Hid (Below w2.heap.size w2 wr) ∧ Hid (cnt = (os.take i).countP fun o => (f o).1) ∧ Hid (∀ j (h : j < os.length), j < i → (f os[j]).2 = 0)) (fun _ t8 _ => os.length - (intOf t8).toNat)
    case atStart => exact ⟨0, 0, rfl, rfl, Nat.zero_le _, Nat.le_refl _, Below.refl _ _, rfl, fun j _ hj => absurd hj (by omega)⟩
    case round =>
      obtain ⟨i, cnt, rfl, rfl, hi, hcn, HBr, HA, HZ⟩ := hrel
      have HBW := Lib.hid (HBs.out.trans (HBr.out.mono HBs.out.size))
      by_cases hlt : i < os.length
      · have hltc : (i : Int) < (os.length : Int) := by omega
        obtain ⟨ob, oo, rfl, u0⟩ := (HS.out.ext HBr.out).rd.int hlt
        have HA2 := Lib.hid (count_take (f := fun o => (f o).1) hlt)
        have HEr := Lib.hid (each_err (ev := ev) (f := f) hlt HZ.out)
        have HZ2 := Lib.hid (fun (h : (f os[i]).2 = 0) j (h1 : j < os.length) (h2 : j < i + 1) => (by
          by_cases e : j = i
          · subst e; exact h
          · exact HZ.out j h1 (by omega) : (f os[j]).2 = 0))
        generalize os[i] = ox at u0 HA2 HEr HZ2
        have HLrW := Lib.hid (HLr.out.ext HBW.out)
        have a0 := HLrW.out.blk.cell 0 rfl
        have a1 := HLrW.out.blk.cell 1 rfl
        have a2 := HLrW.out.blk.cell 2 rfl
        have a3 := HLrW.out.blk.cell 3 rfl
        have a4 := HLrW.out.blk.cell 4 rfl
        have a5 := HLrW.out.blk.cell 5 rfl
        have a6 := HLrW.out.blk.cell 6 rfl
        have a7 := HLrW.out.blk.cell 7 rfl
        go_upto_region 6 with fail
        go_cut [9] (fun s9 wx => s9 = .pointer (some ⟨wr.heap.size, 0, none⟩) ∧ Hid (Below wr.heap.size wr wx) ∧ Hid (Lr q fb wr.heap.size ox wx))
        case first =>
          have hdr := ext_drewN wr 1
          go_region_held3 (fun w' => w'.cell? ⟨lb, 0, none⟩ = some (.pointer (some ⟨fb, 0, none⟩)) ∧ w'.cell? ⟨lb, 2, none⟩ = some (.int .i64 q.on) ∧ w'.cell? ⟨lb, 3, none⟩ = some (.int .i64 q.kn) ∧ w'.cell? ⟨lb, 4, none⟩ = some (.slice none 0 0) ∧ w'.cell? ⟨lb, 5, none⟩ = some (.slice none 0 0) ∧ w'.cell? ⟨lb, 6, none⟩ = some (.slice none 0 0) ∧ w'.cell? ⟨lb, 7, none⟩ = some (.int .i64 4) ∧ w'.cell? ⟨ob, oo + i, none⟩ = some (.int .i64 ox))
            ((first | exact ⟨a0, a2, a3, a4, a5, a6, a7, u0⟩ | exact ⟨cell_ext hdr a0, cell_ext hdr a2, cell_ext hdr a3, cell_ext hdr a4, cell_ext hdr a5, cell_ext hdr a6, cell_ext hdr a7, cell_ext hdr u0⟩ | exact ⟨cell_ext (ext_alloc wr _) a0, cell_ext (ext_alloc wr _) a2, cell_ext (ext_alloc wr _) a3, cell_ext (ext_alloc wr _) a4, cell_ext (ext_alloc wr _) a5, cell_ext (ext_alloc wr _) a6, cell_ext (ext_alloc wr _) a7, cell_ext (ext_alloc wr _) u0⟩))
            (fail)
          all_goals
            go_wp2_with fail
            go_meet
            exact ⟨rfl, ext_trans (ext_alloc wr _) (ext_drewN _ 1), ⟨Sol.blk_ext (Blk.new wr _ [_, _, _, _, _, _, _, _]) (ext_drewN _ 1)⟩⟩
        case rest =>
          obtain ⟨rfl, HBx, HLx⟩ := hcut
          clear a0 a1 a2 a3 a4 a5 a6 a7 u0
          obtain ⟨LB, hLB⟩ : ∃ LB, LB = wr.heap.size := ⟨_, rfl⟩
          rw [← hLB] at HLx ⊢
          have HLbe := Lib.hid hLB
          clear hLB
          have HBc := Lib.hid (HBr.out.trans (HBx.out.mono HBr.out.size))
          have HBC := Lib.hid (HBs.out.trans (HBc.out.mono HBs.out.size))
          obtain ⟨Z, hZ⟩ : ∃ Z, Z = wc := ⟨_, rfl⟩
          rw [← hZ] at HBc HBC HLx ⊢
          clear hZ HBx
          have HLrZ := HLx
          have HLfZ := Lib.hid (HLf.out.ext HBC.out)
          have m3 := cell_ext HBC.out (HBn.out.cell 3 rfl)
          obtain ⟨b', o', hA, t0, t1, t2, t3, hkd⟩ := (HNW.out.ext HBC.out).kid (i := 0) (by simp)
          simp only [List.getElem_cons_zero, Nd.kind, Nd.word, Nd.n, Nd.A, Nd.c, Nd.kids, Nat.zero_mul, Nat.add_zero] at t0 t1 t2 t3
          have HC := Lib.hid (fun wx (hb : Below Z.heap.size Z wx) => (by have h := HIH.out (.mk xk xs xn xA xc xl) ox LB wx (hkd.ext hb) (HLrZ.out.ext hb) (HLfZ.out.ext hb); unfold ndV at h; exact h : Calls Tryz.prog 11 #[.pointer (some ⟨LB, 0, none⟩), .agg #[.string ⟨xk.toArray⟩, .string ⟨xs.toArray⟩, .int .i64 xn, .slice xA xl.length xc]] wx (BRPost (evH d q (.mk xk xs xn xA xc xl) ox) wx)))
          have hok : OkH (f ox) := by rw [HFe.out]; exact HOK.out ox
          rw [show evH d q (.mk xk xs xn xA xc xl) ox = f ox from by rw [HFe.out]] at HC
          cases hA
          clear hkd
          obtain ⟨rr, hrr⟩ : ∃ rr : Bool × Nat, rr = f ox := ⟨_, rfl⟩
          rw [← hrr] at HC hok HA2 HEr HZ2
          clear hrr
          go_wp2_with fail
          refine (HC.out _ (Below.refl _ _)).mono ?_
          rintro e w4 ⟨rfl, hb⟩
          have HB2 := Lib.hid (HBc.out.trans (hb.mono HBc.out.size))
          clear hb HC t0 t1 t2 t3 m3 HLrZ HLfZ
          obtain ⟨br, bc⟩ := rr
          rcases bcode_cases hok with e1 | ⟨e1, e2⟩
          · simp only at e1
            subst e1
            have HZ3 := Lib.hid (HZ2.out rfl)
            clear hok HEr HZ2
            simp only
            cases br with
            | true =>
              go_wp2_with fail
              go_roundw
              case rel => exact ⟨i + 1, cnt + 1, by go_num, by go_num, by omega, by omega, HB2.out, Lib.hid (by rw [HA2.out, ← HA.out]; simp), HZ3.out⟩
              case measure => simp [intOf]; omega
            | false =>
              go_wp2_with fail
              go_roundw
              case rel => exact ⟨i + 1, cnt, rfl, by go_num, by omega, by omega, HB2.out, Lib.hid (by rw [HA2.out, ← HA.out]; simp), HZ3.out⟩
              case measure => simp [intOf]; omega
          · simp only at e1 e2
            subst e2
            have HE2 := Lib.hid (HP0.out.trans (HEr.out e1))
            clear hok HEr HZ2
            simp only
            go_wp2_with fail
            go_ret2
            exact ⟨by rw [HE2.out]; rfl, ext_trans HX.out (HBs.out.trans (HB2.out.mono HBs.out.size))⟩
      · obtain rfl : os.length = i := by omega
        have hlc : ¬ (os.length : Int) < (os.length : Int) := by omega
        have HF1 := Lib.hid (HP0.out.trans (each_fine (ev := ev) (f := f) (l := os) fun j h => HZ.out j h h))
        have HA1 := Lib.hid (show cnt = os.countP fun o => (f o).1 by have := HA.out; rwa [List.take_length] at this)
        clear HA HZ
        have v0 := cell_ext HBW.out (HBn.out.cell 0 rfl)
        cases ev with
        | true =>
          by_cases he : cnt = os.length
          · have hq1 : ((cnt : Int) == (os.length : Int)) = true := by rw [beq_iff_eq, he]
            have HD := Lib.hid (show (os.all fun o => (f o).1) = true by rw [List.all_eq_true]; have := HA1.out; rw [he] at this; exact fun a ha => List.countP_eq_length.1 this.symm a ha)
            clear he
            go_wp2_with fail
            go_ret2
            exact ⟨by rw [HF1.out, HD.out]; rfl, ext_trans HX.out HBW.out⟩
          · have hq1 : ((cnt : Int) == (os.length : Int)) = false := by rw [beq_eq_false_iff_ne]; omega
            have HD := Lib.hid (show (os.all fun o => (f o).1) = false by rw [Bool.eq_false_iff]; intro h; rw [List.all_eq_true] at h; exact he (HA1.out.trans (List.countP_eq_length.2 h)))
            clear he
            go_wp2_with fail
            go_ret2
            exact ⟨by rw [HF1.out, HD.out]; rfl, ext_trans HX.out HBW.out⟩
        | false =>
          by_cases he : 0 < cnt
          · have HD := Lib.hid (show (os.any fun o => (f o).1) = true by rw [List.any_eq_true]; have := HA1.out; rw [this] at he; exact List.countP_pos_iff.1 he)
            go_wp2_with fail
            go_ret2
            exact ⟨by rw [HF1.out, HD.out]; rfl, ext_trans HX.out HBW.out⟩
          · obtain rfl : cnt = 0 := by omega
            have HD := Lib.hid (show (os.any fun o => (f o).1) = false by rw [Bool.eq_false_iff]; intro h; rw [List.any_eq_true] at h; have := List.countP_pos_iff.2 h; have := HA1.out; omega)
            clear he
            go_wp2_with fail
            go_ret2
            exact ⟨by rw [HF1.out, HD.out]; rfl, ext_trans HX.out HBW.out⟩
end Go.Proofs.YtnchlnfenebomaaGreatDoor.Hd
namespace Go.Proofs.YtnchlnfenebomaaGreatDoor.Hd
open Go.RowKit Mem Nest Fk Coin Err

set_option maxRecDepth 100000 in
set_option maxHeartbeats 8000000 in
theorem truth_bad {q : Ask} (hq : Okq q) (fb lb : Nat) (who : Int) (X : Nat → Prop) (d : Nat) (k s : List UInt8) (n : Int) (A : Option Addr) (c : Nat) (l : List Nd) (m : Nat) (hml : l.length = m) (hm : wantH k ≠ some m) (w : World) (hN : InW w X (d + 1) (.mk k s n A c l)) (hLr : Lr q fb lb who w) (hLf : Lf q fb w) :
    Calls Tryz.prog 11 #[.pointer (some ⟨lb, 0, none⟩), .agg #[.string ⟨k.toArray⟩, .string ⟨s.toArray⟩, .int .i64 n, .slice A m c]] w (BRPost (false, 9) w) := by
    have hlen : m ≤ 9223372036854775807 := by
      have h1 := hN.2.2.1.1
      have h2 := hN.2.2.1.2.1
      unfold maxLen at h2
      omega
    have HML := Lib.hid hml
    have HMw := Lib.hid hm
    clear hm hml
    have HWd := Lib.hid (fun w => rword_any s hN.2.2.1.2.2.2 w)
    obtain ⟨bw, hbw⟩ : ∃ bw, wordB s = bw := ⟨_, rfl⟩
    rw [hbw] at HWd
    have HBw := Lib.hid hbw
    clear hbw
    have HN := Lib.hid hN
    have HLr0 := Lib.hid hLr
    have HLf0 := Lib.hid hLf
    obtain ⟨W, hW, hx, hbn⟩ := boxedR w k s n A c (m)
    have HX := Lib.hid hx
    have HBn := Lib.hid hbn
    have HNW := Lib.hid (hN.ext hx)
    have HLr := Lib.hid (hLr.ext hx)
    have HLf := Lib.hid (hLf.ext hx)
    have m0 := hbn.cell 0 rfl
    have m1 := hbn.cell 1 rfl
    have m2 := hbn.cell 2 rfl
    have m3 := hbn.cell 3 rfl
    clear hN hLr hLf hx hbn
    go_enter Tryz.func11, Tryz.ntmps11
    go_upto_region 1 with fail
    rw [show w.alloc (.cells #[.string ⟨k.toArray⟩, .string ⟨s.toArray⟩, .int .i64 n, .slice A m c] 25) = W from hW.symm]
    clear hW
    have hno : wantH k ≠ some m := HMw.out
    unfold wantH at hno
    by_cases hk : k = [111, 114]
    · rw [if_pos hk] at hno
      have hne : m ≠ 2 := fun e => hno (by rw [e])
      have kc0 : (k == [111, 114]) = true := by rw [hk]; decide
      have kc1 : (k == [97, 110, 100]) = false := by rw [hk]; decide
      have kc2 : (k == [110, 111, 116]) = false := by rw [hk]; decide
      have kc3 : (k == [110, 97, 109, 101]) = false := by rw [hk]; decide
      have kc4 : (k == [115, 111, 109, 101]) = false := by rw [hk]; decide
      have kc5 : (k == [101, 118, 101, 114, 121]) = false := by rw [hk]; decide
      have kc6 : (k == [60]) = false := by rw [hk]; decide
      have kc7 : (k == [60, 61]) = false := by rw [hk]; decide
      have kc8 : (k == [61]) = false := by rw [hk]; decide
      have kc9 : (k == [60, 62]) = false := by rw [hk]; decide
      have kc10 : (k == [62, 61]) = false := by rw [hk]; decide
      have kc11 : (k == [62]) = false := by rw [hk]; decide
      have hm1 : ((m : Int) != 2) = true := by simpa using (show (m : Int) ≠ 2 by omega)
      have hm2 : ((m : Int) == 2) = false := by simpa using (show (m : Int) ≠ 2 by omega)
      have HNE := Lib.hid hne
      clear hk hno hne
      go_wp2_with fail
      go_ret2
      exact ⟨by rfl, HX.out⟩
    rw [if_neg hk] at hno
    have kb0 : (k == [111, 114]) = false := by simpa using hk
    have hk0 := Lib.hid hk
    clear hk
    by_cases hk : k = [97, 110, 100]
    · rw [if_pos hk] at hno
      have hne : m ≠ 2 := fun e => hno (by rw [e])
      have kc0 : (k == [111, 114]) = false := by rw [hk]; decide
      have kc1 : (k == [97, 110, 100]) = true := by rw [hk]; decide
      have kc2 : (k == [110, 111, 116]) = false := by rw [hk]; decide
      have kc3 : (k == [110, 97, 109, 101]) = false := by rw [hk]; decide
      have kc4 : (k == [115, 111, 109, 101]) = false := by rw [hk]; decide
      have kc5 : (k == [101, 118, 101, 114, 121]) = false := by rw [hk]; decide
      have kc6 : (k == [60]) = false := by rw [hk]; decide
      have kc7 : (k == [60, 61]) = false := by rw [hk]; decide
      have kc8 : (k == [61]) = false := by rw [hk]; decide
      have kc9 : (k == [60, 62]) = false := by rw [hk]; decide
      have kc10 : (k == [62, 61]) = false := by rw [hk]; decide
      have kc11 : (k == [62]) = false := by rw [hk]; decide
      have hm1 : ((m : Int) != 2) = true := by simpa using (show (m : Int) ≠ 2 by omega)
      have hm2 : ((m : Int) == 2) = false := by simpa using (show (m : Int) ≠ 2 by omega)
      have HNE := Lib.hid hne
      clear hk hno hne kb0
      go_wp2_with fail
      go_ret2
      exact ⟨by rfl, HX.out⟩
    rw [if_neg hk] at hno
    have kb1 : (k == [97, 110, 100]) = false := by simpa using hk
    have hk1 := Lib.hid hk
    clear hk
    by_cases hk : k = [110, 111, 116]
    · rw [if_pos hk] at hno
      have hne : m ≠ 1 := fun e => hno (by rw [e])
      have kc0 : (k == [111, 114]) = false := by rw [hk]; decide
      have kc1 : (k == [97, 110, 100]) = false := by rw [hk]; decide
      have kc2 : (k == [110, 111, 116]) = true := by rw [hk]; decide
      have kc3 : (k == [110, 97, 109, 101]) = false := by rw [hk]; decide
      have kc4 : (k == [115, 111, 109, 101]) = false := by rw [hk]; decide
      have kc5 : (k == [101, 118, 101, 114, 121]) = false := by rw [hk]; decide
      have kc6 : (k == [60]) = false := by rw [hk]; decide
      have kc7 : (k == [60, 61]) = false := by rw [hk]; decide
      have kc8 : (k == [61]) = false := by rw [hk]; decide
      have kc9 : (k == [60, 62]) = false := by rw [hk]; decide
      have kc10 : (k == [62, 61]) = false := by rw [hk]; decide
      have kc11 : (k == [62]) = false := by rw [hk]; decide
      have hm1 : ((m : Int) != 1) = true := by simpa using (show (m : Int) ≠ 1 by omega)
      have hm2 : ((m : Int) == 1) = false := by simpa using (show (m : Int) ≠ 1 by omega)
      have HNE := Lib.hid hne
      clear hk hno hne kb0 kb1
      go_wp2_with fail
      go_ret2
      exact ⟨by rfl, HX.out⟩
    rw [if_neg hk] at hno
    have kb2 : (k == [110, 111, 116]) = false := by simpa using hk
    have hk2 := Lib.hid hk
    clear hk
    by_cases hk : k = [110, 97, 109, 101]
    · rw [if_pos hk] at hno
      have hne : m ≠ 0 := fun e => hno (by rw [e])
      have kc0 : (k == [111, 114]) = false := by rw [hk]; decide
      have kc1 : (k == [97, 110, 100]) = false := by rw [hk]; decide
      have kc2 : (k == [110, 111, 116]) = false := by rw [hk]; decide
      have kc3 : (k == [110, 97, 109, 101]) = true := by rw [hk]; decide
      have kc4 : (k == [115, 111, 109, 101]) = false := by rw [hk]; decide
      have kc5 : (k == [101, 118, 101, 114, 121]) = false := by rw [hk]; decide
      have kc6 : (k == [60]) = false := by rw [hk]; decide
      have kc7 : (k == [60, 61]) = false := by rw [hk]; decide
      have kc8 : (k == [61]) = false := by rw [hk]; decide
      have kc9 : (k == [60, 62]) = false := by rw [hk]; decide
      have kc10 : (k == [62, 61]) = false := by rw [hk]; decide
      have kc11 : (k == [62]) = false := by rw [hk]; decide
      have hm1 : ((m : Int) != 0) = true := by simpa using (show (m : Int) ≠ 0 by omega)
      have hm2 : ((m : Int) == 0) = false := by simpa using (show (m : Int) ≠ 0 by omega)
      have hm3 : 0 < m := by omega
      have HNE := Lib.hid hne
      clear hk hno hne kb0 kb1 kb2
      go_wp2_with fail
      refine (HWd.out _).mono ?_
      rintro e w1 ⟨rfl, rfl⟩
      go_wp2_with fail
      go_ret2
      exact ⟨by rfl, HX.out⟩
    rw [if_neg hk] at hno
    have kb3 : (k == [110, 97, 109, 101]) = false := by simpa using hk
    have hk3 := Lib.hid hk
    clear hk
    by_cases hk : k = [115, 111, 109, 101]
    · rw [if_pos hk] at hno
      have hne : m ≠ 1 := fun e => hno (by rw [e])
      have kc0 : (k == [111, 114]) = false := by rw [hk]; decide
      have kc1 : (k == [97, 110, 100]) = false := by rw [hk]; decide
      have kc2 : (k == [110, 111, 116]) = false := by rw [hk]; decide
      have kc3 : (k == [110, 97, 109, 101]) = false := by rw [hk]; decide
      have kc4 : (k == [115, 111, 109, 101]) = true := by rw [hk]; decide
      have kc5 : (k == [101, 118, 101, 114, 121]) = false := by rw [hk]; decide
      have kc6 : (k == [60]) = false := by rw [hk]; decide
      have kc7 : (k == [60, 61]) = false := by rw [hk]; decide
      have kc8 : (k == [61]) = false := by rw [hk]; decide
      have kc9 : (k == [60, 62]) = false := by rw [hk]; decide
      have kc10 : (k == [62, 61]) = false := by rw [hk]; decide
      have kc11 : (k == [62]) = false := by rw [hk]; decide
      have hm1 : ((m : Int) != 1) = true := by simpa using (show (m : Int) ≠ 1 by omega)
      have hm2 : ((m : Int) == 1) = false := by simpa using (show (m : Int) ≠ 1 by omega)
      have HNE := Lib.hid hne
      clear hk hno hne kb0 kb1 kb2 kb3
      go_wp2_with fail
      refine (HWd.out _).mono ?_
      rintro e w1 ⟨rfl, rfl⟩
      go_wp2_with fail
      go_ret2
      exact ⟨by rfl, HX.out⟩
    rw [if_neg hk] at hno
    have kb4 : (k == [115, 111, 109, 101]) = false := by simpa using hk
    have hk4 := Lib.hid hk
    clear hk
    by_cases hk : k = [101, 118, 101, 114, 121]
    · rw [if_pos hk] at hno
      have hne : m ≠ 1 := fun e => hno (by rw [e])
      have kc0 : (k == [111, 114]) = false := by rw [hk]; decide
      have kc1 : (k == [97, 110, 100]) = false := by rw [hk]; decide
      have kc2 : (k == [110, 111, 116]) = false := by rw [hk]; decide
      have kc3 : (k == [110, 97, 109, 101]) = false := by rw [hk]; decide
      have kc4 : (k == [115, 111, 109, 101]) = false := by rw [hk]; decide
      have kc5 : (k == [101, 118, 101, 114, 121]) = true := by rw [hk]; decide
      have kc6 : (k == [60]) = false := by rw [hk]; decide
      have kc7 : (k == [60, 61]) = false := by rw [hk]; decide
      have kc8 : (k == [61]) = false := by rw [hk]; decide
      have kc9 : (k == [60, 62]) = false := by rw [hk]; decide
      have kc10 : (k == [62, 61]) = false := by rw [hk]; decide
      have kc11 : (k == [62]) = false := by rw [hk]; decide
      have hm1 : ((m : Int) != 1) = true := by simpa using (show (m : Int) ≠ 1 by omega)
      have hm2 : ((m : Int) == 1) = false := by simpa using (show (m : Int) ≠ 1 by omega)
      have HNE := Lib.hid hne
      clear hk hno hne kb0 kb1 kb2 kb3 kb4
      go_wp2_with fail
      refine (HWd.out _).mono ?_
      rintro e w1 ⟨rfl, rfl⟩
      go_wp2_with fail
      go_ret2
      exact ⟨by rfl, HX.out⟩
    rw [if_neg hk] at hno
    have kb5 : (k == [101, 118, 101, 114, 121]) = false := by simpa using hk
    have hk5 := Lib.hid hk
    clear hk
    by_cases hk : k = [60]
    · rw [if_pos hk] at hno
      have hne : m ≠ 2 := fun e => hno (by rw [e])
      have kc0 : (k == [111, 114]) = false := by rw [hk]; decide
      have kc1 : (k == [97, 110, 100]) = false := by rw [hk]; decide
      have kc2 : (k == [110, 111, 116]) = false := by rw [hk]; decide
      have kc3 : (k == [110, 97, 109, 101]) = false := by rw [hk]; decide
      have kc4 : (k == [115, 111, 109, 101]) = false := by rw [hk]; decide
      have kc5 : (k == [101, 118, 101, 114, 121]) = false := by rw [hk]; decide
      have kc6 : (k == [60]) = true := by rw [hk]; decide
      have kc7 : (k == [60, 61]) = false := by rw [hk]; decide
      have kc8 : (k == [61]) = false := by rw [hk]; decide
      have kc9 : (k == [60, 62]) = false := by rw [hk]; decide
      have kc10 : (k == [62, 61]) = false := by rw [hk]; decide
      have kc11 : (k == [62]) = false := by rw [hk]; decide
      have hm1 : ((m : Int) != 2) = true := by simpa using (show (m : Int) ≠ 2 by omega)
      have hm2 : ((m : Int) == 2) = false := by simpa using (show (m : Int) ≠ 2 by omega)
      have HNE := Lib.hid hne
      clear hk hno hne kb0 kb1 kb2 kb3 kb4 kb5
      have HC := Lib.hid (order_bad hq fb lb who X d k s n A c l m HML.out (.inr HNE.out) W HNW.out HLr.out HLf.out)
      go_wp2_with fail
      refine HC.out.mono ?_
      rintro e w2 ⟨rfl, hb⟩
      have HB := Lib.hid hb
      clear hb
      go_wp2_with fail
      go_ret2
      exact ⟨rfl, ext_trans HX.out HB.out⟩
    rw [if_neg hk] at hno
    have kb6 : (k == [60]) = false := by simpa using hk
    have hk6 := Lib.hid hk
    clear hk
    by_cases hk : k = [60, 61]
    · rw [if_pos hk] at hno
      have hne : m ≠ 2 := fun e => hno (by rw [e])
      have kc0 : (k == [111, 114]) = false := by rw [hk]; decide
      have kc1 : (k == [97, 110, 100]) = false := by rw [hk]; decide
      have kc2 : (k == [110, 111, 116]) = false := by rw [hk]; decide
      have kc3 : (k == [110, 97, 109, 101]) = false := by rw [hk]; decide
      have kc4 : (k == [115, 111, 109, 101]) = false := by rw [hk]; decide
      have kc5 : (k == [101, 118, 101, 114, 121]) = false := by rw [hk]; decide
      have kc6 : (k == [60]) = false := by rw [hk]; decide
      have kc7 : (k == [60, 61]) = true := by rw [hk]; decide
      have kc8 : (k == [61]) = false := by rw [hk]; decide
      have kc9 : (k == [60, 62]) = false := by rw [hk]; decide
      have kc10 : (k == [62, 61]) = false := by rw [hk]; decide
      have kc11 : (k == [62]) = false := by rw [hk]; decide
      have hm1 : ((m : Int) != 2) = true := by simpa using (show (m : Int) ≠ 2 by omega)
      have hm2 : ((m : Int) == 2) = false := by simpa using (show (m : Int) ≠ 2 by omega)
      have HNE := Lib.hid hne
      clear hk hno hne kb0 kb1 kb2 kb3 kb4 kb5 kb6
      have HC := Lib.hid (order_bad hq fb lb who X d k s n A c l m HML.out (.inr HNE.out) W HNW.out HLr.out HLf.out)
      go_wp2_with fail
      refine HC.out.mono ?_
      rintro e w2 ⟨rfl, hb⟩
      have HB := Lib.hid hb
      clear hb
      go_wp2_with fail
      go_ret2
      exact ⟨rfl, ext_trans HX.out HB.out⟩
    rw [if_neg hk] at hno
    have kb7 : (k == [60, 61]) = false := by simpa using hk
    have hk7 := Lib.hid hk
    clear hk
    by_cases hk : k = [61]
    · rw [if_pos hk] at hno
      have hne : m ≠ 2 := fun e => hno (by rw [e])
      have kc0 : (k == [111, 114]) = false := by rw [hk]; decide
      have kc1 : (k == [97, 110, 100]) = false := by rw [hk]; decide
      have kc2 : (k == [110, 111, 116]) = false := by rw [hk]; decide
      have kc3 : (k == [110, 97, 109, 101]) = false := by rw [hk]; decide
      have kc4 : (k == [115, 111, 109, 101]) = false := by rw [hk]; decide
      have kc5 : (k == [101, 118, 101, 114, 121]) = false := by rw [hk]; decide
      have kc6 : (k == [60]) = false := by rw [hk]; decide
      have kc7 : (k == [60, 61]) = false := by rw [hk]; decide
      have kc8 : (k == [61]) = true := by rw [hk]; decide
      have kc9 : (k == [60, 62]) = false := by rw [hk]; decide
      have kc10 : (k == [62, 61]) = false := by rw [hk]; decide
      have kc11 : (k == [62]) = false := by rw [hk]; decide
      have hm1 : ((m : Int) != 2) = true := by simpa using (show (m : Int) ≠ 2 by omega)
      have hm2 : ((m : Int) == 2) = false := by simpa using (show (m : Int) ≠ 2 by omega)
      have HNE := Lib.hid hne
      clear hk hno hne kb0 kb1 kb2 kb3 kb4 kb5 kb6 kb7
      have HC := Lib.hid (order_bad hq fb lb who X d k s n A c l m HML.out (.inr HNE.out) W HNW.out HLr.out HLf.out)
      go_wp2_with fail
      refine HC.out.mono ?_
      rintro e w2 ⟨rfl, hb⟩
      have HB := Lib.hid hb
      clear hb
      go_wp2_with fail
      go_ret2
      exact ⟨rfl, ext_trans HX.out HB.out⟩
    rw [if_neg hk] at hno
    have kb8 : (k == [61]) = false := by simpa using hk
    have hk8 := Lib.hid hk
    clear hk
    by_cases hk : k = [60, 62]
    · rw [if_pos hk] at hno
      have hne : m ≠ 2 := fun e => hno (by rw [e])
      have kc0 : (k == [111, 114]) = false := by rw [hk]; decide
      have kc1 : (k == [97, 110, 100]) = false := by rw [hk]; decide
      have kc2 : (k == [110, 111, 116]) = false := by rw [hk]; decide
      have kc3 : (k == [110, 97, 109, 101]) = false := by rw [hk]; decide
      have kc4 : (k == [115, 111, 109, 101]) = false := by rw [hk]; decide
      have kc5 : (k == [101, 118, 101, 114, 121]) = false := by rw [hk]; decide
      have kc6 : (k == [60]) = false := by rw [hk]; decide
      have kc7 : (k == [60, 61]) = false := by rw [hk]; decide
      have kc8 : (k == [61]) = false := by rw [hk]; decide
      have kc9 : (k == [60, 62]) = true := by rw [hk]; decide
      have kc10 : (k == [62, 61]) = false := by rw [hk]; decide
      have kc11 : (k == [62]) = false := by rw [hk]; decide
      have hm1 : ((m : Int) != 2) = true := by simpa using (show (m : Int) ≠ 2 by omega)
      have hm2 : ((m : Int) == 2) = false := by simpa using (show (m : Int) ≠ 2 by omega)
      have HNE := Lib.hid hne
      clear hk hno hne kb0 kb1 kb2 kb3 kb4 kb5 kb6 kb7 kb8
      have HC := Lib.hid (order_bad hq fb lb who X d k s n A c l m HML.out (.inr HNE.out) W HNW.out HLr.out HLf.out)
      go_wp2_with fail
      refine HC.out.mono ?_
      rintro e w2 ⟨rfl, hb⟩
      have HB := Lib.hid hb
      clear hb
      go_wp2_with fail
      go_ret2
      exact ⟨rfl, ext_trans HX.out HB.out⟩
    rw [if_neg hk] at hno
    have kb9 : (k == [60, 62]) = false := by simpa using hk
    have hk9 := Lib.hid hk
    clear hk
    by_cases hk : k = [62, 61]
    · rw [if_pos hk] at hno
      have hne : m ≠ 2 := fun e => hno (by rw [e])
      have kc0 : (k == [111, 114]) = false := by rw [hk]; decide
      have kc1 : (k == [97, 110, 100]) = false := by rw [hk]; decide
      have kc2 : (k == [110, 111, 116]) = false := by rw [hk]; decide
      have kc3 : (k == [110, 97, 109, 101]) = false := by rw [hk]; decide
      have kc4 : (k == [115, 111, 109, 101]) = false := by rw [hk]; decide
      have kc5 : (k == [101, 118, 101, 114, 121]) = false := by rw [hk]; decide
      have kc6 : (k == [60]) = false := by rw [hk]; decide
      have kc7 : (k == [60, 61]) = false := by rw [hk]; decide
      have kc8 : (k == [61]) = false := by rw [hk]; decide
      have kc9 : (k == [60, 62]) = false := by rw [hk]; decide
      have kc10 : (k == [62, 61]) = true := by rw [hk]; decide
      have kc11 : (k == [62]) = false := by rw [hk]; decide
      have hm1 : ((m : Int) != 2) = true := by simpa using (show (m : Int) ≠ 2 by omega)
      have hm2 : ((m : Int) == 2) = false := by simpa using (show (m : Int) ≠ 2 by omega)
      have HNE := Lib.hid hne
      clear hk hno hne kb0 kb1 kb2 kb3 kb4 kb5 kb6 kb7 kb8 kb9
      have HC := Lib.hid (order_bad hq fb lb who X d k s n A c l m HML.out (.inr HNE.out) W HNW.out HLr.out HLf.out)
      go_wp2_with fail
      refine HC.out.mono ?_
      rintro e w2 ⟨rfl, hb⟩
      have HB := Lib.hid hb
      clear hb
      go_wp2_with fail
      go_ret2
      exact ⟨rfl, ext_trans HX.out HB.out⟩
    rw [if_neg hk] at hno
    have kb10 : (k == [62, 61]) = false := by simpa using hk
    have hk10 := Lib.hid hk
    clear hk
    by_cases hk : k = [62]
    · rw [if_pos hk] at hno
      have hne : m ≠ 2 := fun e => hno (by rw [e])
      have kc0 : (k == [111, 114]) = false := by rw [hk]; decide
      have kc1 : (k == [97, 110, 100]) = false := by rw [hk]; decide
      have kc2 : (k == [110, 111, 116]) = false := by rw [hk]; decide
      have kc3 : (k == [110, 97, 109, 101]) = false := by rw [hk]; decide
      have kc4 : (k == [115, 111, 109, 101]) = false := by rw [hk]; decide
      have kc5 : (k == [101, 118, 101, 114, 121]) = false := by rw [hk]; decide
      have kc6 : (k == [60]) = false := by rw [hk]; decide
      have kc7 : (k == [60, 61]) = false := by rw [hk]; decide
      have kc8 : (k == [61]) = false := by rw [hk]; decide
      have kc9 : (k == [60, 62]) = false := by rw [hk]; decide
      have kc10 : (k == [62, 61]) = false := by rw [hk]; decide
      have kc11 : (k == [62]) = true := by rw [hk]; decide
      have hm1 : ((m : Int) != 2) = true := by simpa using (show (m : Int) ≠ 2 by omega)
      have hm2 : ((m : Int) == 2) = false := by simpa using (show (m : Int) ≠ 2 by omega)
      have HNE := Lib.hid hne
      clear hk hno hne kb0 kb1 kb2 kb3 kb4 kb5 kb6 kb7 kb8 kb9 kb10
      have HC := Lib.hid (order_bad hq fb lb who X d k s n A c l m HML.out (.inr HNE.out) W HNW.out HLr.out HLf.out)
      go_wp2_with fail
      refine HC.out.mono ?_
      rintro e w2 ⟨rfl, hb⟩
      have HB := Lib.hid hb
      clear hb
      go_wp2_with fail
      go_ret2
      exact ⟨rfl, ext_trans HX.out HB.out⟩
    rw [if_neg hk] at hno
    have kb11 : (k == [62]) = false := by simpa using hk
    have hk11 := Lib.hid hk
    clear hk
    clear hno
    have HC := Lib.hid (order_bad hq fb lb who X d k s n A c l m HML.out (.inl (by unfold cmpF; rw [if_neg hk6.out, if_neg hk7.out, if_neg hk8.out, if_neg hk9.out, if_neg hk10.out, if_neg hk11.out])) W HNW.out HLr.out HLf.out)
    go_wp2_with fail
    refine HC.out.mono ?_
    rintro e w2 ⟨rfl, hb⟩
    have HB := Lib.hid hb
    clear hb
    go_wp2_with fail
    go_ret2
    exact ⟨rfl, ext_trans HX.out HB.out⟩
set_option maxRecDepth 100000 in
set_option maxHeartbeats 8000000 in
theorem truth_name {q : Ask} (hq : Okq q) (fb lb : Nat) (who : Int) (X : Nat → Prop) (d : Nat) (k s : List UInt8) (n : Int) (A : Option Addr) (c : Nat) (hk : k = [110, 97, 109, 101]) (w : World) (hN : InW w X (d + 1) (.mk k s n A c [])) (hLr : Lr q fb lb who w) (hLf : Lf q fb w) :
    Calls Tryz.prog 11 #[.pointer (some ⟨lb, 0, none⟩), .agg #[.string ⟨k.toArray⟩, .string ⟨s.toArray⟩, .int .i64 n, .slice A 0 c]] w (BRPost (evH (d + 1) q (.mk k s n A c []) who) w) := by
    have HE := Lib.hid (show evH (d + 1) q (.mk k s n A c []) who = if wordB s = true then ((valF (q.best who s)).2 && decide (q.worth who s ≠ 0), 0) else (false, 9) by (conv => lhs; unfold evH); rw [hk]; simp [kName])
    have kb0 : (k == [111, 114]) = false := by rw [hk]; decide
    have kb1 : (k == [97, 110, 100]) = false := by rw [hk]; decide
    have kb2 : (k == [110, 111, 116]) = false := by rw [hk]; decide
    have kb3 : (k == [110, 97, 109, 101]) = true := by rw [hk]; decide
    have kb4 : (k == [115, 111, 109, 101]) = false := by rw [hk]; decide
    have kb5 : (k == [101, 118, 101, 114, 121]) = false := by rw [hk]; decide
    have kb6 : (k == [60]) = false := by rw [hk]; decide
    have kb7 : (k == [60, 61]) = false := by rw [hk]; decide
    have kb8 : (k == [61]) = false := by rw [hk]; decide
    have kb9 : (k == [60, 62]) = false := by rw [hk]; decide
    have kb10 : (k == [62, 61]) = false := by rw [hk]; decide
    have kb11 : (k == [62]) = false := by rw [hk]; decide
    clear hk
    have HWd := Lib.hid (fun w => rword_any s hN.2.2.1.2.2.2 w)
    obtain ⟨bw, hbw⟩ : ∃ bw, wordB s = bw := ⟨_, rfl⟩
    rw [hbw] at HWd
    have HBw := Lib.hid hbw
    clear hbw
    rw [HBw.out] at HE
    have HN := Lib.hid hN
    have HLr0 := Lib.hid hLr
    have HLf0 := Lib.hid hLf
    obtain ⟨W, hW, hx, hbn⟩ := boxedR w k s n A c (0)
    have HX := Lib.hid hx
    have HBn := Lib.hid hbn
    have HNW := Lib.hid (hN.ext hx)
    have HLr := Lib.hid (hLr.ext hx)
    have HLf := Lib.hid (hLf.ext hx)
    have m0 := hbn.cell 0 rfl
    have m1 := hbn.cell 1 rfl
    have m2 := hbn.cell 2 rfl
    have m3 := hbn.cell 3 rfl
    clear hN hLr hLf hx hbn
    go_enter Tryz.func11, Tryz.ntmps11
    go_upto_region 1 with fail
    rw [show w.alloc (.cells #[.string ⟨k.toArray⟩, .string ⟨s.toArray⟩, .int .i64 n, .slice A 0 c] 25) = W from hW.symm]
    clear hW
    cases bw with
    | false =>
      go_wp2_with fail
      refine (HWd.out _).mono ?_
      rintro e w1 ⟨rfl, rfl⟩
      go_wp2_with fail
      go_ret2
      exact ⟨by rw [HE.out]; rfl, HX.out⟩
    | true =>
      have a0 := HLr.out.blk.cell 0 rfl
      have a1 := HLr.out.blk.cell 1 rfl
      have a2 := HLr.out.blk.cell 2 rfl
      have a3 := HLr.out.blk.cell 3 rfl
      have a4 := HLr.out.blk.cell 4 rfl
      have a5 := HLr.out.blk.cell 5 rfl
      have a6 := HLr.out.blk.cell 6 rfl
      have a7 := HLr.out.blk.cell 7 rfl
      go_wp2_with fail
      refine (HWd.out _).mono ?_
      rintro e w1 ⟨rfl, rfl⟩
      go_wp2_with fail
      have HV := Lib.hid (fun wx (hb : Below W.heap.size W wx) => (by obtain ⟨FA, fc, hf⟩ := HLf.out.ext hb; exact rvalue_any q.l hq.len fb FA fc who s q.on q.kn wx hf : Calls Tryz.prog 44 #[.pointer (some ⟨fb, 0, none⟩), .int .i64 who, .string ⟨s.toArray⟩, .int .i64 q.on, .int .i64 q.kn] wx (ValPost (bestF who s q.on q.kn (-1) q.l) wx)))
      have hdr := ext_drewN W 1
      go_region_held3 (fun w' => w'.cell? ⟨lb, 0, none⟩ = some (.pointer (some ⟨fb, 0, none⟩)) ∧ w'.cell? ⟨lb, 1, none⟩ = some (.int .i64 who) ∧ w'.cell? ⟨lb, 2, none⟩ = some (.int .i64 q.on) ∧ w'.cell? ⟨lb, 3, none⟩ = some (.int .i64 q.kn) ∧ w'.cell? ⟨w.heap.size, 1, none⟩ = some (.string ⟨s.toArray⟩))
        ((first | exact ⟨a0, a1, a2, a3, m1⟩ | exact ⟨cell_ext hdr a0, cell_ext hdr a1, cell_ext hdr a2, cell_ext hdr a3, cell_ext hdr m1⟩ | exact ⟨cell_ext HBs.out a0, cell_ext HBs.out a1, cell_ext HBs.out a2, cell_ext HBs.out a3, cell_ext HBs.out m1⟩))
        ((go_at_call 44; refine (HV.out _ hdr).mono ?_; rintro e w2 ⟨rfl, hb⟩; have HBs := Lib.hid (ext_trans hdr hb); clear hb))
      have HE3 := Lib.hid (show evH (d + 1) q (.mk k s n A c []) who = ((valF (bestF who s q.on q.kn (-1) q.l)).2 && decide ((valF (bestF who s q.on q.kn (-1) q.l)).1 ≠ 0), 0) from HE.out)
      obtain ⟨⟨vz, vb⟩, hv⟩ : ∃ v, valF (bestF who s q.on q.kn (-1) q.l) = v := ⟨_, rfl⟩
      rw [hv] at HE3 ⊢
      simp only
      clear hv HE HV hdr
      cases vb with
      | false =>
        go_wp2_with fail
        go_ret2
        exact ⟨by rw [HE3.out]; rfl, ext_trans HX.out HBs.out⟩
      | true =>
        by_cases hz : vz = 0
        · have hz1 : (vz != 0) = false := by simpa using hz
          have HD := Lib.hid (show (true && decide (vz ≠ 0)) = false by simpa using hz)
          clear hz
          go_wp2_with fail
          go_ret2
          exact ⟨by rw [HE3.out]; simp only; rw [HD.out]; rfl, ext_trans HX.out HBs.out⟩
        · have hz1 : (vz != 0) = true := by simpa using hz
          have HD := Lib.hid (show (true && decide (vz ≠ 0)) = true by simpa using hz)
          clear hz
          go_wp2_with fail
          go_ret2
          exact ⟨by rw [HE3.out]; simp only; rw [HD.out]; rfl, ext_trans HX.out HBs.out⟩
set_option maxRecDepth 100000 in
set_option maxHeartbeats 8000000 in
theorem truth_not {q : Ask} (hq : Okq q) (fb lb : Nat) (who : Int) (X : Nat → Prop) (d : Nat) (IH : IHT q fb X d) (k s : List UInt8) (n : Int) (A : Option Addr) (c : Nat) (xk xs : List UInt8) (xn : Int) (xA : Option Addr) (xc : Nat) (xl : List Nd) (hk : k = [110, 111, 116]) (w : World) (hN : InW w X (d + 1) (.mk k s n A c [.mk xk xs xn xA xc xl])) (hLr : Lr q fb lb who w) (hLf : Lf q fb w) :
    Calls Tryz.prog 11 #[.pointer (some ⟨lb, 0, none⟩), .agg #[.string ⟨k.toArray⟩, .string ⟨s.toArray⟩, .int .i64 n, .slice A 1 c]] w (BRPost (evH (d + 1) q (.mk k s n A c [.mk xk xs xn xA xc xl]) who) w) := by
    have HE := Lib.hid (show evH (d + 1) q (.mk k s n A c [.mk xk xs xn xA xc xl]) who = if 0 < (evH d q (.mk xk xs xn xA xc xl) who).2 then (false, (evH d q (.mk xk xs xn xA xc xl) who).2) else (!(evH d q (.mk xk xs xn xA xc xl) who).1, 0) by (conv => lhs; unfold evH); rw [hk]; simp [kName, kNot])
    have kb0 : (k == [111, 114]) = false := by rw [hk]; decide
    have kb1 : (k == [97, 110, 100]) = false := by rw [hk]; decide
    have kb2 : (k == [110, 111, 116]) = true := by rw [hk]; decide
    have kb3 : (k == [110, 97, 109, 101]) = false := by rw [hk]; decide
    have kb4 : (k == [115, 111, 109, 101]) = false := by rw [hk]; decide
    have kb5 : (k == [101, 118, 101, 114, 121]) = false := by rw [hk]; decide
    have kb6 : (k == [60]) = false := by rw [hk]; decide
    have kb7 : (k == [60, 61]) = false := by rw [hk]; decide
    have kb8 : (k == [61]) = false := by rw [hk]; decide
    have kb9 : (k == [60, 62]) = false := by rw [hk]; decide
    have kb10 : (k == [62, 61]) = false := by rw [hk]; decide
    have kb11 : (k == [62]) = false := by rw [hk]; decide
    have HIH := Lib.hid IH
    clear hk IH
    have HN := Lib.hid hN
    have HLr0 := Lib.hid hLr
    have HLf0 := Lib.hid hLf
    obtain ⟨W, hW, hx, hbn⟩ := boxedR w k s n A c (1)
    have HX := Lib.hid hx
    have HBn := Lib.hid hbn
    have HNW := Lib.hid (hN.ext hx)
    have HLr := Lib.hid (hLr.ext hx)
    have HLf := Lib.hid (hLf.ext hx)
    have m0 := hbn.cell 0 rfl
    have m1 := hbn.cell 1 rfl
    have m2 := hbn.cell 2 rfl
    have m3 := hbn.cell 3 rfl
    clear hN hLr hLf hx hbn
    go_enter Tryz.func11, Tryz.ntmps11
    go_upto_region 1 with fail
    rw [show w.alloc (.cells #[.string ⟨k.toArray⟩, .string ⟨s.toArray⟩, .int .i64 n, .slice A 1 c] 25) = W from hW.symm]
    clear hW
    have HLrZ := HLr
    have HLfZ := HLf
    obtain ⟨b', o', hA, t0, t1, t2, t3, hkd⟩ := HNW.out.kid (i := 0) (by simp)
    simp only [List.getElem_cons_zero, Nd.kind, Nd.word, Nd.n, Nd.A, Nd.c, Nd.kids, Nat.zero_mul, Nat.add_zero] at t0 t1 t2 t3
    have HC := Lib.hid (fun wx (hb : Below W.heap.size W wx) => (by have h := HIH.out (.mk xk xs xn xA xc xl) who lb wx (hkd.ext hb) (HLrZ.out.ext hb) (HLfZ.out.ext hb); unfold ndV at h; exact h : Calls Tryz.prog 11 #[.pointer (some ⟨lb, 0, none⟩), .agg #[.string ⟨xk.toArray⟩, .string ⟨xs.toArray⟩, .int .i64 xn, .slice xA xl.length xc]] wx (BRPost (evH d q (.mk xk xs xn xA xc xl) who) wx)))
    have hok := evH_ok hq d (.mk xk xs xn xA xc xl) who
    obtain ⟨rr, hrr⟩ : ∃ rr : Bool × Nat, rr = evH d q (.mk xk xs xn xA xc xl) who := ⟨_, rfl⟩
    rw [← hrr] at HC hok HE
    obtain rfl : A = some ⟨b', o', none⟩ := hA
    clear hrr hkd
    go_wp2_with fail
    refine (HC.out _ (Below.refl _ _)).mono ?_
    rintro e w2 ⟨rfl, hb⟩
    have HB := Lib.hid hb
    clear hb HC t0 t1 t2 t3 m0 m1 m2 m3 HLrZ HLfZ
    obtain ⟨br, bc⟩ := rr
    simp only at HE
    rcases bcode_cases hok with e1 | ⟨e1, e2⟩
    · simp only at e1
      subst e1
      have HE2 := Lib.hid (HE.out.trans (if_neg (by omega)))
      clear hok HE
      simp only
      cases br
      all_goals
        go_wp2_with fail
        go_ret2
        exact ⟨by rw [HE2.out]; rfl, ext_trans HX.out HB.out⟩
    · simp only at e1 e2
      subst e2
      have HE2 := Lib.hid (HE.out.trans (if_pos e1))
      clear hok HE
      simp only
      go_wp2_with fail
      go_ret2
      exact ⟨by rw [HE2.out]; rfl, ext_trans HX.out HB.out⟩
set_option maxRecDepth 100000 in
set_option maxHeartbeats 8000000 in
theorem truth_some {q : Ask} (hq : Okq q) (fb lb : Nat) (who : Int) (X : Nat → Prop) (d : Nat) (IH : IHT q fb X d) (k s : List UInt8) (n : Int) (A : Option Addr) (c : Nat) (xk xs : List UInt8) (xn : Int) (xA : Option Addr) (xc : Nat) (xl : List Nd) (hk : k = [115, 111, 109, 101]) (w : World) (hN : InW w X (d + 1) (.mk k s n A c [.mk xk xs xn xA xc xl])) (hLr : Lr q fb lb who w) (hLf : Lf q fb w) :
    Calls Tryz.prog 11 #[.pointer (some ⟨lb, 0, none⟩), .agg #[.string ⟨k.toArray⟩, .string ⟨s.toArray⟩, .int .i64 n, .slice A 1 c]] w (BRPost (evH (d + 1) q (.mk k s n A c [.mk xk xs xn xA xc xl]) who) w) := by
    have HE := Lib.hid (show evH (d + 1) q (.mk k s n A c [.mk xk xs xn xA xc xl]) who = eachR q d false who s (.mk xk xs xn xA xc xl) by (conv => lhs; unfold evH); unfold eachR; rw [hk]; simp [kName, kNot, kSome, kEvery])
    have kb0 : (k == [111, 114]) = false := by rw [hk]; decide
    have kb1 : (k == [97, 110, 100]) = false := by rw [hk]; decide
    have kb2 : (k == [110, 111, 116]) = false := by rw [hk]; decide
    have kb3 : (k == [110, 97, 109, 101]) = false := by rw [hk]; decide
    have kb4 : (k == [115, 111, 109, 101]) = true := by rw [hk]; decide
    have kb5 : (k == [101, 118, 101, 114, 121]) = false := by rw [hk]; decide
    have kb6 : (k == [60]) = false := by rw [hk]; decide
    have kb7 : (k == [60, 61]) = false := by rw [hk]; decide
    have kb8 : (k == [61]) = false := by rw [hk]; decide
    have kb9 : (k == [60, 62]) = false := by rw [hk]; decide
    have kb10 : (k == [62, 61]) = false := by rw [hk]; decide
    have kb11 : (k == [62]) = false := by rw [hk]; decide
    have HIH := Lib.hid IH
    clear hk IH
    have HWd := Lib.hid (fun w => rword_any s hN.2.2.1.2.2.2 w)
    obtain ⟨bw, hbw⟩ : ∃ bw, wordB s = bw := ⟨_, rfl⟩
    rw [hbw] at HWd
    have HBw := Lib.hid hbw
    clear hbw
    have HN := Lib.hid hN
    have HLr0 := Lib.hid hLr
    have HLf0 := Lib.hid hLf
    obtain ⟨W, hW, hx, hbn⟩ := boxedR w k s n A c (1)
    have HX := Lib.hid hx
    have HBn := Lib.hid hbn
    have HNW := Lib.hid (hN.ext hx)
    have HLr := Lib.hid (hLr.ext hx)
    have HLf := Lib.hid (hLf.ext hx)
    have m0 := hbn.cell 0 rfl
    have m1 := hbn.cell 1 rfl
    have m2 := hbn.cell 2 rfl
    have m3 := hbn.cell 3 rfl
    clear hN hLr hLf hx hbn
    go_enter Tryz.func11, Tryz.ntmps11
    go_upto_region 1 with fail
    rw [show w.alloc (.cells #[.string ⟨k.toArray⟩, .string ⟨s.toArray⟩, .int .i64 n, .slice A 1 c] 25) = W from hW.symm]
    clear hW
    go_wp2_with fail
    refine (HWd.out _).mono ?_
    rintro e w1 ⟨rfl, rfl⟩
    cases bw with
    | false =>
      have HP := Lib.hid (HE.out.trans (show eachR q d false who s (.mk xk xs xn xA xc xl) = (false, 9) by unfold eachR; rw [HBw.out]; rfl))
      go_wp2_with fail
      go_ret2
      exact ⟨by rw [HP.out]; rfl, HX.out⟩
    | true =>
      have HP := Lib.hid (HE.out.trans (show eachR q d false who s (.mk xk xs xn xA xc xl) = eachF false (fun o => evH d q (.mk xk xs xn xA xc xl) o) (q.others who s) by unfold eachR; rw [HBw.out]; rfl))
      obtain ⟨rr, hrr⟩ : ∃ rr : Bool × Nat, rr = eachF false (fun o => evH d q (.mk xk xs xn xA xc xl) o) (q.others who s) := ⟨_, rfl⟩
      have HC := Lib.hid (each1 hq fb lb who X d HIH.out k s n A c xk xs xn xA xc xl false kb5 rr hrr W HNW.out HLr.out HLf.out)
      rw [← hrr] at HP
      clear hrr
      obtain ⟨rb, rc⟩ := rr
      unfold BRPost at HC
      simp only at HC
      go_wp2_with fail
      refine HC.out.mono ?_
      rintro e w2 ⟨rfl, hb⟩
      have HB := Lib.hid hb
      clear hb HC
      go_wp2_with fail
      go_ret2
      exact ⟨by rw [HP.out] <;> rfl, ext_trans HX.out HB.out⟩
set_option maxRecDepth 100000 in
set_option maxHeartbeats 8000000 in
theorem truth_every {q : Ask} (hq : Okq q) (fb lb : Nat) (who : Int) (X : Nat → Prop) (d : Nat) (IH : IHT q fb X d) (k s : List UInt8) (n : Int) (A : Option Addr) (c : Nat) (xk xs : List UInt8) (xn : Int) (xA : Option Addr) (xc : Nat) (xl : List Nd) (hk : k = [101, 118, 101, 114, 121]) (w : World) (hN : InW w X (d + 1) (.mk k s n A c [.mk xk xs xn xA xc xl])) (hLr : Lr q fb lb who w) (hLf : Lf q fb w) :
    Calls Tryz.prog 11 #[.pointer (some ⟨lb, 0, none⟩), .agg #[.string ⟨k.toArray⟩, .string ⟨s.toArray⟩, .int .i64 n, .slice A 1 c]] w (BRPost (evH (d + 1) q (.mk k s n A c [.mk xk xs xn xA xc xl]) who) w) := by
    have HE := Lib.hid (show evH (d + 1) q (.mk k s n A c [.mk xk xs xn xA xc xl]) who = eachR q d true who s (.mk xk xs xn xA xc xl) by (conv => lhs; unfold evH); unfold eachR; rw [hk]; simp [kName, kNot, kSome, kEvery])
    have kb0 : (k == [111, 114]) = false := by rw [hk]; decide
    have kb1 : (k == [97, 110, 100]) = false := by rw [hk]; decide
    have kb2 : (k == [110, 111, 116]) = false := by rw [hk]; decide
    have kb3 : (k == [110, 97, 109, 101]) = false := by rw [hk]; decide
    have kb4 : (k == [115, 111, 109, 101]) = false := by rw [hk]; decide
    have kb5 : (k == [101, 118, 101, 114, 121]) = true := by rw [hk]; decide
    have kb6 : (k == [60]) = false := by rw [hk]; decide
    have kb7 : (k == [60, 61]) = false := by rw [hk]; decide
    have kb8 : (k == [61]) = false := by rw [hk]; decide
    have kb9 : (k == [60, 62]) = false := by rw [hk]; decide
    have kb10 : (k == [62, 61]) = false := by rw [hk]; decide
    have kb11 : (k == [62]) = false := by rw [hk]; decide
    have HIH := Lib.hid IH
    clear hk IH
    have HWd := Lib.hid (fun w => rword_any s hN.2.2.1.2.2.2 w)
    obtain ⟨bw, hbw⟩ : ∃ bw, wordB s = bw := ⟨_, rfl⟩
    rw [hbw] at HWd
    have HBw := Lib.hid hbw
    clear hbw
    have HN := Lib.hid hN
    have HLr0 := Lib.hid hLr
    have HLf0 := Lib.hid hLf
    obtain ⟨W, hW, hx, hbn⟩ := boxedR w k s n A c (1)
    have HX := Lib.hid hx
    have HBn := Lib.hid hbn
    have HNW := Lib.hid (hN.ext hx)
    have HLr := Lib.hid (hLr.ext hx)
    have HLf := Lib.hid (hLf.ext hx)
    have m0 := hbn.cell 0 rfl
    have m1 := hbn.cell 1 rfl
    have m2 := hbn.cell 2 rfl
    have m3 := hbn.cell 3 rfl
    clear hN hLr hLf hx hbn
    go_enter Tryz.func11, Tryz.ntmps11
    go_upto_region 1 with fail
    rw [show w.alloc (.cells #[.string ⟨k.toArray⟩, .string ⟨s.toArray⟩, .int .i64 n, .slice A 1 c] 25) = W from hW.symm]
    clear hW
    go_wp2_with fail
    refine (HWd.out _).mono ?_
    rintro e w1 ⟨rfl, rfl⟩
    cases bw with
    | false =>
      have HP := Lib.hid (HE.out.trans (show eachR q d true who s (.mk xk xs xn xA xc xl) = (false, 9) by unfold eachR; rw [HBw.out]; rfl))
      go_wp2_with fail
      go_ret2
      exact ⟨by rw [HP.out]; rfl, HX.out⟩
    | true =>
      have HP := Lib.hid (HE.out.trans (show eachR q d true who s (.mk xk xs xn xA xc xl) = eachF true (fun o => evH d q (.mk xk xs xn xA xc xl) o) (q.others who s) by unfold eachR; rw [HBw.out]; rfl))
      obtain ⟨rr, hrr⟩ : ∃ rr : Bool × Nat, rr = eachF true (fun o => evH d q (.mk xk xs xn xA xc xl) o) (q.others who s) := ⟨_, rfl⟩
      have HC := Lib.hid (each1 hq fb lb who X d HIH.out k s n A c xk xs xn xA xc xl true kb5 rr hrr W HNW.out HLr.out HLf.out)
      rw [← hrr] at HP
      clear hrr
      obtain ⟨rb, rc⟩ := rr
      unfold BRPost at HC
      simp only at HC
      go_wp2_with fail
      refine HC.out.mono ?_
      rintro e w2 ⟨rfl, hb⟩
      have HB := Lib.hid hb
      clear hb HC
      go_wp2_with fail
      go_ret2
      exact ⟨by rw [HP.out] <;> rfl, ext_trans HX.out HB.out⟩
set_option maxRecDepth 100000 in
set_option maxHeartbeats 8000000 in
theorem truth_or {q : Ask} (hq : Okq q) (fb lb : Nat) (who : Int) (X : Nat → Prop) (d : Nat) (IH : IHT q fb X d) (k s : List UInt8) (n : Int) (A : Option Addr) (c : Nat) (xk xs : List UInt8) (xn : Int) (xA : Option Addr) (xc : Nat) (xl : List Nd) (yk ys : List UInt8) (yn : Int) (yA : Option Addr) (yc : Nat) (yl : List Nd) (hk : k = [111, 114]) (w : World) (hN : InW w X (d + 1) (.mk k s n A c [.mk xk xs xn xA xc xl, .mk yk ys yn yA yc yl])) (hLr : Lr q fb lb who w) (hLf : Lf q fb w) :
    Calls Tryz.prog 11 #[.pointer (some ⟨lb, 0, none⟩), .agg #[.string ⟨k.toArray⟩, .string ⟨s.toArray⟩, .int .i64 n, .slice A 2 c]] w (BRPost (evH (d + 1) q (.mk k s n A c [.mk xk xs xn xA xc xl, .mk yk ys yn yA yc yl]) who) w) := by
    have HE := Lib.hid (show evH (d + 1) q (.mk k s n A c [.mk xk xs xn xA xc xl, .mk yk ys yn yA yc yl]) who = twoH (fun a b => a || b) (evH d q (.mk xk xs xn xA xc xl) who) (evH d q (.mk yk ys yn yA yc yl) who) by (conv => lhs; unfold evH); rw [hk]; simp [kName, kNot, kSome, kEvery, kOr])
    have kb0 : (k == [111, 114]) = true := by rw [hk]; decide
    have kb1 : (k == [97, 110, 100]) = false := by rw [hk]; decide
    have kb2 : (k == [110, 111, 116]) = false := by rw [hk]; decide
    have kb3 : (k == [110, 97, 109, 101]) = false := by rw [hk]; decide
    have kb4 : (k == [115, 111, 109, 101]) = false := by rw [hk]; decide
    have kb5 : (k == [101, 118, 101, 114, 121]) = false := by rw [hk]; decide
    have kb6 : (k == [60]) = false := by rw [hk]; decide
    have kb7 : (k == [60, 61]) = false := by rw [hk]; decide
    have kb8 : (k == [61]) = false := by rw [hk]; decide
    have kb9 : (k == [60, 62]) = false := by rw [hk]; decide
    have kb10 : (k == [62, 61]) = false := by rw [hk]; decide
    have kb11 : (k == [62]) = false := by rw [hk]; decide
    have HIH := Lib.hid IH
    clear hk IH
    have HN := Lib.hid hN
    have HLr0 := Lib.hid hLr
    have HLf0 := Lib.hid hLf
    obtain ⟨W, hW, hx, hbn⟩ := boxedR w k s n A c (2)
    have HX := Lib.hid hx
    have HBn := Lib.hid hbn
    have HNW := Lib.hid (hN.ext hx)
    have HLr := Lib.hid (hLr.ext hx)
    have HLf := Lib.hid (hLf.ext hx)
    have m0 := hbn.cell 0 rfl
    have m1 := hbn.cell 1 rfl
    have m2 := hbn.cell 2 rfl
    have m3 := hbn.cell 3 rfl
    clear hN hLr hLf hx hbn
    go_enter Tryz.func11, Tryz.ntmps11
    go_upto_region 1 with fail
    rw [show w.alloc (.cells #[.string ⟨k.toArray⟩, .string ⟨s.toArray⟩, .int .i64 n, .slice A 2 c] 25) = W from hW.symm]
    clear hW
    have HLrZ := HLr
    have HLfZ := HLf
    obtain ⟨b', o', hA, t0, t1, t2, t3, hkd⟩ := HNW.out.kid (i := 0) (by simp)
    simp only [List.getElem_cons_zero, Nd.kind, Nd.word, Nd.n, Nd.A, Nd.c, Nd.kids, Nat.zero_mul, Nat.add_zero] at t0 t1 t2 t3
    have HC := Lib.hid (fun wx (hb : Below W.heap.size W wx) => (by have h := HIH.out (.mk xk xs xn xA xc xl) who lb wx (hkd.ext hb) (HLrZ.out.ext hb) (HLfZ.out.ext hb); unfold ndV at h; exact h : Calls Tryz.prog 11 #[.pointer (some ⟨lb, 0, none⟩), .agg #[.string ⟨xk.toArray⟩, .string ⟨xs.toArray⟩, .int .i64 xn, .slice xA xl.length xc]] wx (BRPost (evH d q (.mk xk xs xn xA xc xl) who) wx)))
    have hok := evH_ok hq d (.mk xk xs xn xA xc xl) who
    obtain ⟨rr, hrr⟩ : ∃ rr : Bool × Nat, rr = evH d q (.mk xk xs xn xA xc xl) who := ⟨_, rfl⟩
    rw [← hrr] at HC hok HE
    obtain rfl : A = some ⟨b', o', none⟩ := hA
    clear hrr hkd
    go_wp2_with fail
    refine (HC.out _ (Below.refl _ _)).mono ?_
    rintro e w2 ⟨rfl, hb⟩
    have HB := Lib.hid hb
    clear hb HC t0 t1 t2 t3 m0 m1 m2 m3 HLrZ HLfZ
    obtain ⟨b1, c1⟩ := rr
    rcases bcode_cases hok with e1 | ⟨e1, e2⟩
    rotate_left
    · simp only at e1 e2
      subst e2
      have HE2 := Lib.hid (HE.out.trans (show twoH (fun a b => a || b) (false, c1) (evH d q (.mk yk ys yn yA yc yl) who) = (false, c1) by unfold twoH; rw [if_pos e1]))
      clear hok
      simp only
      go_wp2_with fail
      go_ret2
      exact ⟨by rw [HE2.out]; rfl, ext_trans HX.out HB.out⟩
    simp only at e1
    subst e1
    simp only
    clear hok
    have HLrZ := Lib.hid (HLr.out.ext HB.out)
    have HLfZ := Lib.hid (HLf.out.ext HB.out)
    obtain ⟨b', o', hA2, t0, t1, t2, t3, hkd⟩ := (HNW.out.ext HB.out).kid (i := 1) (by simp)
    simp only [List.getElem_cons_zero, List.getElem_cons_succ, Nd.kind, Nd.word, Nd.n, Nd.A, Nd.c, Nd.kids, Nat.one_mul] at t0 t1 t2 t3
    cases hA2
    have HC := Lib.hid (fun wx (hb : Below w2.heap.size w2 wx) => (by have h := HIH.out (.mk yk ys yn yA yc yl) who lb wx (hkd.ext hb) (HLrZ.out.ext hb) (HLfZ.out.ext hb); unfold ndV at h; exact h : Calls Tryz.prog 11 #[.pointer (some ⟨lb, 0, none⟩), .agg #[.string ⟨yk.toArray⟩, .string ⟨ys.toArray⟩, .int .i64 yn, .slice yA yl.length yc]] wx (BRPost (evH d q (.mk yk ys yn yA yc yl) who) wx)))
    have hok := evH_ok hq d (.mk yk ys yn yA yc yl) who
    obtain ⟨r2, hrr⟩ : ∃ r2 : Bool × Nat, r2 = evH d q (.mk yk ys yn yA yc yl) who := ⟨_, rfl⟩
    rw [← hrr] at HC hok HE
    clear hkd hrr
    have m3 := cell_ext HB.out (HBn.out.cell 3 rfl)
    go_wp2_with fail
    refine (HC.out _ (Below.refl _ _)).mono ?_
    rintro e w3 ⟨rfl, hb⟩
    have HB3 := Lib.hid (ext_trans HB.out hb)
    clear hb HC t0 t1 t2 t3 m3 HLrZ HLfZ
    obtain ⟨b2, c2⟩ := r2
    rcases bcode_cases hok with e1 | ⟨e1, e2⟩
    rotate_left
    · simp only at e1 e2
      subst e2
      have HE2 := Lib.hid (HE.out.trans (show twoH (fun a b => a || b) (b1, 0) (false, c2) = (false, c2) by unfold twoH; rw [if_neg (by simp), if_pos e1]))
      clear hok
      simp only
      go_wp2_with fail
      go_ret2
      exact ⟨by rw [HE2.out]; rfl, ext_trans HX.out HB3.out⟩
    simp only at e1
    subst e1
    simp only
    have HE2 := Lib.hid (HE.out.trans (show twoH (fun a b => a || b) (b1, 0) (b2, 0) = (b1 || b2, 0) by unfold twoH; rw [if_neg (by simp), if_neg (by simp)]))
    clear hok HE
    have v0 := cell_ext HB3.out (HBn.out.cell 0 rfl)
    cases b1 <;> cases b2
    all_goals
      go_wp2_with fail
      go_ret2
      exact ⟨by rw [HE2.out]; rfl, ext_trans HX.out HB3.out⟩
set_option maxRecDepth 100000 in
set_option maxHeartbeats 8000000 in
theorem truth_and {q : Ask} (hq : Okq q) (fb lb : Nat) (who : Int) (X : Nat → Prop) (d : Nat) (IH : IHT q fb X d) (k s : List UInt8) (n : Int) (A : Option Addr) (c : Nat) (xk xs : List UInt8) (xn : Int) (xA : Option Addr) (xc : Nat) (xl : List Nd) (yk ys : List UInt8) (yn : Int) (yA : Option Addr) (yc : Nat) (yl : List Nd) (hk : k = [97, 110, 100]) (w : World) (hN : InW w X (d + 1) (.mk k s n A c [.mk xk xs xn xA xc xl, .mk yk ys yn yA yc yl])) (hLr : Lr q fb lb who w) (hLf : Lf q fb w) :
    Calls Tryz.prog 11 #[.pointer (some ⟨lb, 0, none⟩), .agg #[.string ⟨k.toArray⟩, .string ⟨s.toArray⟩, .int .i64 n, .slice A 2 c]] w (BRPost (evH (d + 1) q (.mk k s n A c [.mk xk xs xn xA xc xl, .mk yk ys yn yA yc yl]) who) w) := by
    have HE := Lib.hid (show evH (d + 1) q (.mk k s n A c [.mk xk xs xn xA xc xl, .mk yk ys yn yA yc yl]) who = twoH (fun a b => a && b) (evH d q (.mk xk xs xn xA xc xl) who) (evH d q (.mk yk ys yn yA yc yl) who) by (conv => lhs; unfold evH); rw [hk]; simp [kName, kNot, kSome, kEvery, kOr, kAnd])
    have kb0 : (k == [111, 114]) = false := by rw [hk]; decide
    have kb1 : (k == [97, 110, 100]) = true := by rw [hk]; decide
    have kb2 : (k == [110, 111, 116]) = false := by rw [hk]; decide
    have kb3 : (k == [110, 97, 109, 101]) = false := by rw [hk]; decide
    have kb4 : (k == [115, 111, 109, 101]) = false := by rw [hk]; decide
    have kb5 : (k == [101, 118, 101, 114, 121]) = false := by rw [hk]; decide
    have kb6 : (k == [60]) = false := by rw [hk]; decide
    have kb7 : (k == [60, 61]) = false := by rw [hk]; decide
    have kb8 : (k == [61]) = false := by rw [hk]; decide
    have kb9 : (k == [60, 62]) = false := by rw [hk]; decide
    have kb10 : (k == [62, 61]) = false := by rw [hk]; decide
    have kb11 : (k == [62]) = false := by rw [hk]; decide
    have HIH := Lib.hid IH
    clear hk IH
    have HN := Lib.hid hN
    have HLr0 := Lib.hid hLr
    have HLf0 := Lib.hid hLf
    obtain ⟨W, hW, hx, hbn⟩ := boxedR w k s n A c (2)
    have HX := Lib.hid hx
    have HBn := Lib.hid hbn
    have HNW := Lib.hid (hN.ext hx)
    have HLr := Lib.hid (hLr.ext hx)
    have HLf := Lib.hid (hLf.ext hx)
    have m0 := hbn.cell 0 rfl
    have m1 := hbn.cell 1 rfl
    have m2 := hbn.cell 2 rfl
    have m3 := hbn.cell 3 rfl
    clear hN hLr hLf hx hbn
    go_enter Tryz.func11, Tryz.ntmps11
    go_upto_region 1 with fail
    rw [show w.alloc (.cells #[.string ⟨k.toArray⟩, .string ⟨s.toArray⟩, .int .i64 n, .slice A 2 c] 25) = W from hW.symm]
    clear hW
    have HLrZ := HLr
    have HLfZ := HLf
    obtain ⟨b', o', hA, t0, t1, t2, t3, hkd⟩ := HNW.out.kid (i := 0) (by simp)
    simp only [List.getElem_cons_zero, Nd.kind, Nd.word, Nd.n, Nd.A, Nd.c, Nd.kids, Nat.zero_mul, Nat.add_zero] at t0 t1 t2 t3
    have HC := Lib.hid (fun wx (hb : Below W.heap.size W wx) => (by have h := HIH.out (.mk xk xs xn xA xc xl) who lb wx (hkd.ext hb) (HLrZ.out.ext hb) (HLfZ.out.ext hb); unfold ndV at h; exact h : Calls Tryz.prog 11 #[.pointer (some ⟨lb, 0, none⟩), .agg #[.string ⟨xk.toArray⟩, .string ⟨xs.toArray⟩, .int .i64 xn, .slice xA xl.length xc]] wx (BRPost (evH d q (.mk xk xs xn xA xc xl) who) wx)))
    have hok := evH_ok hq d (.mk xk xs xn xA xc xl) who
    obtain ⟨rr, hrr⟩ : ∃ rr : Bool × Nat, rr = evH d q (.mk xk xs xn xA xc xl) who := ⟨_, rfl⟩
    rw [← hrr] at HC hok HE
    obtain rfl : A = some ⟨b', o', none⟩ := hA
    clear hrr hkd
    go_wp2_with fail
    refine (HC.out _ (Below.refl _ _)).mono ?_
    rintro e w2 ⟨rfl, hb⟩
    have HB := Lib.hid hb
    clear hb HC t0 t1 t2 t3 m0 m1 m2 m3 HLrZ HLfZ
    obtain ⟨b1, c1⟩ := rr
    rcases bcode_cases hok with e1 | ⟨e1, e2⟩
    rotate_left
    · simp only at e1 e2
      subst e2
      have HE2 := Lib.hid (HE.out.trans (show twoH (fun a b => a && b) (false, c1) (evH d q (.mk yk ys yn yA yc yl) who) = (false, c1) by unfold twoH; rw [if_pos e1]))
      clear hok
      simp only
      go_wp2_with fail
      go_ret2
      exact ⟨by rw [HE2.out]; rfl, ext_trans HX.out HB.out⟩
    simp only at e1
    subst e1
    simp only
    clear hok
    have HLrZ := Lib.hid (HLr.out.ext HB.out)
    have HLfZ := Lib.hid (HLf.out.ext HB.out)
    obtain ⟨b', o', hA2, t0, t1, t2, t3, hkd⟩ := (HNW.out.ext HB.out).kid (i := 1) (by simp)
    simp only [List.getElem_cons_zero, List.getElem_cons_succ, Nd.kind, Nd.word, Nd.n, Nd.A, Nd.c, Nd.kids, Nat.one_mul] at t0 t1 t2 t3
    cases hA2
    have HC := Lib.hid (fun wx (hb : Below w2.heap.size w2 wx) => (by have h := HIH.out (.mk yk ys yn yA yc yl) who lb wx (hkd.ext hb) (HLrZ.out.ext hb) (HLfZ.out.ext hb); unfold ndV at h; exact h : Calls Tryz.prog 11 #[.pointer (some ⟨lb, 0, none⟩), .agg #[.string ⟨yk.toArray⟩, .string ⟨ys.toArray⟩, .int .i64 yn, .slice yA yl.length yc]] wx (BRPost (evH d q (.mk yk ys yn yA yc yl) who) wx)))
    have hok := evH_ok hq d (.mk yk ys yn yA yc yl) who
    obtain ⟨r2, hrr⟩ : ∃ r2 : Bool × Nat, r2 = evH d q (.mk yk ys yn yA yc yl) who := ⟨_, rfl⟩
    rw [← hrr] at HC hok HE
    clear hkd hrr
    have m3 := cell_ext HB.out (HBn.out.cell 3 rfl)
    go_wp2_with fail
    refine (HC.out _ (Below.refl _ _)).mono ?_
    rintro e w3 ⟨rfl, hb⟩
    have HB3 := Lib.hid (ext_trans HB.out hb)
    clear hb HC t0 t1 t2 t3 m3 HLrZ HLfZ
    obtain ⟨b2, c2⟩ := r2
    rcases bcode_cases hok with e1 | ⟨e1, e2⟩
    rotate_left
    · simp only at e1 e2
      subst e2
      have HE2 := Lib.hid (HE.out.trans (show twoH (fun a b => a && b) (b1, 0) (false, c2) = (false, c2) by unfold twoH; rw [if_neg (by simp), if_pos e1]))
      clear hok
      simp only
      go_wp2_with fail
      go_ret2
      exact ⟨by rw [HE2.out]; rfl, ext_trans HX.out HB3.out⟩
    simp only at e1
    subst e1
    simp only
    have HE2 := Lib.hid (HE.out.trans (show twoH (fun a b => a && b) (b1, 0) (b2, 0) = (b1 && b2, 0) by unfold twoH; rw [if_neg (by simp), if_neg (by simp)]))
    clear hok HE
    have v0 := cell_ext HB3.out (HBn.out.cell 0 rfl)
    cases b1 <;> cases b2
    all_goals
      go_wp2_with fail
      go_ret2
      exact ⟨by rw [HE2.out]; rfl, ext_trans HX.out HB3.out⟩
set_option maxRecDepth 100000 in
set_option maxHeartbeats 8000000 in
theorem truth_cmp {q : Ask} (hq : Okq q) (fb lb : Nat) (who : Int) (X : Nat → Prop) (d : Nat) (k s : List UInt8) (n : Int) (A : Option Addr) (c : Nat) (xk xs : List UInt8) (xn : Int) (xA : Option Addr) (xc : Nat) (xl : List Nd) (yk ys : List UInt8) (yn : Int) (yA : Option Addr) (yc : Nat) (yl : List Nd) (f : Int → Int → Bool) (hf : cmpF k = some f) (w : World) (hN : InW w X (d + 1) (.mk k s n A c [.mk xk xs xn xA xc xl, .mk yk ys yn yA yc yl])) (hLr : Lr q fb lb who w) (hLf : Lf q fb w) :
    Calls Tryz.prog 11 #[.pointer (some ⟨lb, 0, none⟩), .agg #[.string ⟨k.toArray⟩, .string ⟨s.toArray⟩, .int .i64 n, .slice A 2 c]] w (BRPost (evH (d + 1) q (.mk k s n A c [.mk xk xs xn xA xc xl, .mk yk ys yn yA yc yl]) who) w) := by
    obtain ⟨kb0, kb1, kb2, kb3, kb4, kb5, HE⟩ : (k == [111, 114]) = false ∧ (k == [97, 110, 100]) = false ∧ (k == [110, 111, 116]) = false ∧ (k == [110, 97, 109, 101]) = false ∧ (k == [115, 111, 109, 101]) = false ∧ (k == [101, 118, 101, 114, 121]) = false ∧ Hid (evH (d + 1) q (.mk k s n A c [.mk xk xs xn xA xc xl, .mk yk ys yn yA yc yl]) who = twoB f (evS d q (.mk xk xs xn xA xc xl) who) (evS d q (.mk yk ys yn yA yc yl) who)) := by
      have h := hf
      unfold cmpF at h
      by_cases hk : k = [60]
      · rw [if_pos hk] at h
        have e := Option.some.inj h
        refine ⟨by rw [hk]; decide, by rw [hk]; decide, by rw [hk]; decide, by rw [hk]; decide, by rw [hk]; decide, by rw [hk]; decide, Lib.hid ?_⟩
        rw [← e]
        (conv => lhs; unfold evH)
        rw [hk]
        simp [kName, kNot, kSome, kEvery, kOr, kAnd]
      rw [if_neg hk] at h
      clear hk
      by_cases hk : k = [60, 61]
      · rw [if_pos hk] at h
        have e := Option.some.inj h
        refine ⟨by rw [hk]; decide, by rw [hk]; decide, by rw [hk]; decide, by rw [hk]; decide, by rw [hk]; decide, by rw [hk]; decide, Lib.hid ?_⟩
        rw [← e]
        (conv => lhs; unfold evH)
        rw [hk]
        simp [kName, kNot, kSome, kEvery, kOr, kAnd]
      rw [if_neg hk] at h
      clear hk
      by_cases hk : k = [61]
      · rw [if_pos hk] at h
        have e := Option.some.inj h
        refine ⟨by rw [hk]; decide, by rw [hk]; decide, by rw [hk]; decide, by rw [hk]; decide, by rw [hk]; decide, by rw [hk]; decide, Lib.hid ?_⟩
        rw [← e]
        (conv => lhs; unfold evH)
        rw [hk]
        simp [kName, kNot, kSome, kEvery, kOr, kAnd]
      rw [if_neg hk] at h
      clear hk
      by_cases hk : k = [60, 62]
      · rw [if_pos hk] at h
        have e := Option.some.inj h
        refine ⟨by rw [hk]; decide, by rw [hk]; decide, by rw [hk]; decide, by rw [hk]; decide, by rw [hk]; decide, by rw [hk]; decide, Lib.hid ?_⟩
        rw [← e]
        (conv => lhs; unfold evH)
        rw [hk]
        simp [kName, kNot, kSome, kEvery, kOr, kAnd]
      rw [if_neg hk] at h
      clear hk
      by_cases hk : k = [62, 61]
      · rw [if_pos hk] at h
        have e := Option.some.inj h
        refine ⟨by rw [hk]; decide, by rw [hk]; decide, by rw [hk]; decide, by rw [hk]; decide, by rw [hk]; decide, by rw [hk]; decide, Lib.hid ?_⟩
        rw [← e]
        (conv => lhs; unfold evH)
        rw [hk]
        simp [kName, kNot, kSome, kEvery, kOr, kAnd]
      rw [if_neg hk] at h
      clear hk
      by_cases hk : k = [62]
      · rw [if_pos hk] at h
        have e := Option.some.inj h
        refine ⟨by rw [hk]; decide, by rw [hk]; decide, by rw [hk]; decide, by rw [hk]; decide, by rw [hk]; decide, by rw [hk]; decide, Lib.hid ?_⟩
        rw [← e]
        (conv => lhs; unfold evH)
        rw [hk]
        simp [kName, kNot, kSome, kEvery, kOr, kAnd]
      rw [if_neg hk] at h
      clear hk
      cases h
    have HF := Lib.hid hf
    clear hf
    have HN := Lib.hid hN
    have HLr0 := Lib.hid hLr
    have HLf0 := Lib.hid hLf
    obtain ⟨W, hW, hx, hbn⟩ := boxedR w k s n A c (2)
    have HX := Lib.hid hx
    have HBn := Lib.hid hbn
    have HNW := Lib.hid (hN.ext hx)
    have HLr := Lib.hid (hLr.ext hx)
    have HLf := Lib.hid (hLf.ext hx)
    have m0 := hbn.cell 0 rfl
    have m1 := hbn.cell 1 rfl
    have m2 := hbn.cell 2 rfl
    have m3 := hbn.cell 3 rfl
    clear hN hLr hLf hx hbn
    go_enter Tryz.func11, Tryz.ntmps11
    go_upto_region 1 with fail
    rw [show w.alloc (.cells #[.string ⟨k.toArray⟩, .string ⟨s.toArray⟩, .int .i64 n, .slice A 2 c] 25) = W from hW.symm]
    clear hW
    obtain ⟨rx, hrx⟩ : ∃ rx : Int × Nat, rx = evS d q (.mk xk xs xn xA xc xl) who := ⟨_, rfl⟩
    obtain ⟨ry, hry⟩ : ∃ ry : Int × Nat, ry = evS d q (.mk yk ys yn yA yc yl) who := ⟨_, rfl⟩
    have HC := Lib.hid (order2 hq fb lb who X d k s n A c xk xs xn xA xc xl yk ys yn yA yc yl f HF.out rx ry hrx hry W HNW.out HLr.out HLf.out)
    rw [← hrx, ← hry] at HE
    clear hrx hry
    obtain ⟨rr, hrr⟩ : ∃ rr : Bool × Nat, rr = twoB f rx ry := ⟨_, rfl⟩
    rw [← hrr] at HC HE
    clear hrr
    obtain ⟨rb, rc⟩ := rr
    unfold BRPost at HC
    simp only at HC
    go_wp2_with fail
    refine HC.out.mono ?_
    rintro e w2 ⟨rfl, hb⟩
    have HB := Lib.hid hb
    clear hb HC
    go_wp2_with fail
    go_ret2
    exact ⟨by rw [HE.out] <;> rfl, ext_trans HX.out HB.out⟩
theorem truth_any {q : Ask} (hq : Okq q) (fb : Nat) (X : Nat → Prop) : ∀ d, IHT q fb X d
  | 0 => fun _ _ _ _ h _ _ => h.elim
  | d + 1 => fun x who lb w hN hLr hLf => by
    have IH := truth_any hq fb X d
    obtain ⟨k, s, n, A, c, l⟩ := x
    by_cases hb : wantH k = some l.length
    · match l, hN, hb with
      | [], hN, hb =>
        rcases want_which hb with ⟨_, h⟩ | ⟨h0, _⟩ | ⟨h0, _⟩
        · exact truth_name hq fb lb who X d k s n A c h w hN hLr hLf
        · simp at h0
        · simp at h0
      | [.mk xk xs xn xA xc xl], hN, hb =>
        rcases want_which hb with ⟨h0, _⟩ | ⟨_, h | h | h⟩ | ⟨h0, _⟩
        · simp at h0
        · exact truth_not hq fb lb who X d IH k s n A c xk xs xn xA xc xl h w hN hLr hLf
        · exact truth_some hq fb lb who X d IH k s n A c xk xs xn xA xc xl h w hN hLr hLf
        · exact truth_every hq fb lb who X d IH k s n A c xk xs xn xA xc xl h w hN hLr hLf
        · simp at h0
      | [.mk xk xs xn xA xc xl, .mk yk ys yn yA yc yl], hN, hb =>
        rcases want_which hb with ⟨h0, _⟩ | ⟨h0, _⟩ | ⟨_, h1 | h2 | ⟨f, hf⟩⟩
        · simp at h0
        · simp at h0
        · exact truth_or hq fb lb who X d IH k s n A c xk xs xn xA xc xl yk ys yn yA yc yl h1 w hN hLr hLf
        · exact truth_and hq fb lb who X d IH k s n A c xk xs xn xA xc xl yk ys yn yA yc yl h2 w hN hLr hLf
        · exact truth_cmp hq fb lb who X d k s n A c xk xs xn xA xc xl yk ys yn yA yc yl f hf w hN hLr hLf
      | _ :: _ :: _ :: t, _, hb =>
        rcases want_which hb with ⟨h0, _⟩ | ⟨h0, _⟩ | ⟨h0, _⟩ <;> (simp at h0; try omega)
    · rw [evH_bad hb]
      exact truth_bad hq fb lb who X d k s n A c l l.length rfl hb w hN hLr hLf
end Go.Proofs.YtnchlnfenebomaaGreatDoor.Hd

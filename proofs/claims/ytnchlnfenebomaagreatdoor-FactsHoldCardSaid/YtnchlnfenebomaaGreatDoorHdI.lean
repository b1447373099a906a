/- The program's quantified conditions, and Holds, against the plain answer. The program's Holds, against the plain answer. -/
import Derived.Test.YtnchlnfenebomaaGreatDoorHdH
import Derived.Laws.EntriesVeiled
namespace Go.Proofs.YtnchlnfenebomaaGreatDoor.Hd
open Go.RowKit Mem Nest Fk Coin Err Msi

theorem each_err {ev : Bool} {f : Int → Bool × Nat} {l : List Int} {i : Nat} (hi : i < l.length) (h0 : ∀ j (h : j < l.length), j < i → (f l[j]).2 = 0) (h1 : 0 < (f l[i]).2) : eachF ev f l = (false, (f l[i]).2) := by
  have hf : l.find? (fun o => decide (0 < (f o).2)) = some l[i] := by
    rw [List.find?_eq_some_iff_getElem]
    exact ⟨by simpa using h1, i, hi, rfl, fun j hj => by have := h0 j (by omega) hj; simp [this]⟩
  unfold eachF
  rw [hf]
theorem each_fine {ev : Bool} {f : Int → Bool × Nat} {l : List Int} (h0 : ∀ j (h : j < l.length), (f l[j]).2 = 0) : eachF ev f l = (if ev then l.all fun o => (f o).1 else l.any fun o => (f o).1, 0) := by
  have hf : l.find? (fun o => decide (0 < (f o).2)) = none := by
    rw [List.find?_eq_none]
    intro o ho
    obtain ⟨j, hj, rfl⟩ := List.mem_iff_getElem.1 ho
    have := h0 j hj
    simp [this]
  unfold eachF
  rw [hf]
theorem all_take {f : Int → Bool} {l : List Int} {i : Nat} (h : i < l.length) : (l.take (i + 1)).all f = ((l.take i).all f && f l[i]) := by
  rw [List.take_succ_eq_append_getElem h, List.all_append]
  simp
theorem any_take {f : Int → Bool} {l : List Int} {i : Nat} (h : i < l.length) : (l.take (i + 1)).any f = ((l.take i).any f || f l[i]) := by
  rw [List.take_succ_eq_append_getElem h, List.any_append]
  simp
def eachR (q : Ask) (d : Nat) (ev : Bool) (who : Int) (s : List UInt8) (x : Nd) : Bool × Nat := if wordB s = true then eachF ev (fun o => evH d q x o) (q.others who s) else (false, 9)
set_option maxRecDepth 100000 in
set_option maxHeartbeats 8000000 in
theorem quant_bad {q : Ask} (_ : Okq q) (E : Nat → Addr) (fb : Nat) (who : Int) (X : Nat → Prop) (d : Nat) (k s : List UInt8) (n : Int) (A : Option Addr) (c : Nat) (l : List Nd) (m : Nat) (hml : l.length = m) (hm : m ≠ 1) (w : World) (hN : InW w X (d + 1) (.mk k s n A c l)) (hLk : Lk E 149 q fb w) :
    Calls Tryz.prog 81 #[.agg #[.pointer (some ⟨fb, 0, none⟩), .int .i64 who, .int .i64 q.on, .int .i64 q.kn, .nilFunc, .int .i64 4], .agg #[.string ⟨k.toArray⟩, .string ⟨s.toArray⟩, .int .i64 n, .slice A m c]] w (BPost E (false, 9) w) := by
    have hlen : m ≤ 9223372036854775807 := by
      have h1 := hN.2.2.1.1
      have h2 := hN.2.2.1.2.1
      unfold maxLen at h2
      omega
    have hm1 : ((m : Int) != 1) = true := by simpa using (show (m : Int) ≠ 1 by omega)
    have hm2 : ((m : Int) == 1) = false := by simpa using (show (m : Int) ≠ 1 by omega)
    clear hm hml
    have HN := Lib.hid hN
    have HLk := Lib.hid hLk
    obtain ⟨W, hW, hx, hbk, hbn⟩ := boxed w fb who q.on q.kn k s n A c (m)
    have HX := Lib.hid hx
    have HBk := Lib.hid hbk
    have HBn := Lib.hid hbn
    have HNW := Lib.hid (hN.ext hx)
    have HL := Lib.hid (hLk.ext hx)
    have a0 := hbk.cell 0 rfl
    have a1 := hbk.cell 1 rfl
    have a2 := hbk.cell 2 rfl
    have a3 := hbk.cell 3 rfl
    have a4 := hbk.cell 4 rfl
    have a5 := hbk.cell 5 rfl
    have m0 := hbn.cell 0 rfl
    have m1 := hbn.cell 1 rfl
    have m2 := hbn.cell 2 rfl
    have m3 := hbn.cell 3 rfl
    clear hN hLk hx hbk hbn
    go_enter Tryz.func81, Tryz.ntmps81
    go_upto_region 1 with fail
    rw [show (w.alloc (.cells #[.pointer (some ⟨fb, 0, none⟩), .int .i64 who, .int .i64 q.on, .int .i64 q.kn, .nilFunc, .int .i64 4] 107)).alloc (.cells #[.string ⟨k.toArray⟩, .string ⟨s.toArray⟩, .int .i64 n, .slice A m c] 44) = W from hW.symm]
    clear hW
    have hk8 := HL.out.er.v8
    unfold sentV at hk8
    go_wp2_with fail
    go_quiet (fail)
    go_wp2_with fail
    go_ret2
    exact ⟨by rfl, ext_trans HX.out (ext_drewN _ _)⟩
set_option maxRecDepth 100000 in
set_option maxHeartbeats 8000000 in
theorem quant1 {q : Ask} (hq : Okq q) (E : Nat → Addr) (fb : Nat) (who : Int) (X : Nat → Prop) (d : Nat) (IH : IHB q E fb X d) (k s : List UInt8) (n : Int) (A : Option Addr) (c : Nat) (xk xs : List UInt8) (xn : Int) (xA : Option Addr) (xc : Nat) (xl : List Nd) (ev : Bool) (hev : (k == [101, 118, 101, 114, 121]) = ev) (w : World) (hN : InW w X (d + 1) (.mk k s n A c [.mk xk xs xn xA xc xl])) (hLk : Lk E 149 q fb w) :
    Calls Tryz.prog 81 #[.agg #[.pointer (some ⟨fb, 0, none⟩), .int .i64 who, .int .i64 q.on, .int .i64 q.kn, .nilFunc, .int .i64 4], .agg #[.string ⟨k.toArray⟩, .string ⟨s.toArray⟩, .int .i64 n, .slice A 1 c]] w (BPost E (eachR q d ev who s (.mk xk xs xn xA xc xl)) w) := by
    have HIH := Lib.hid IH
    clear IH
    have HWd := Lib.hid (fun w => pword_any s hN.2.2.1.2.2.2 w)
    obtain ⟨bw, hbw⟩ : ∃ bw, wordB s = bw := ⟨_, rfl⟩
    rw [hbw] at HWd
    have HBw := Lib.hid hbw
    clear hbw
    cases bw with
    | false =>
      have HP := Lib.hid (show eachR q d ev who s (.mk xk xs xn xA xc xl) = (false, 9) by unfold eachR; rw [HBw.out]; rfl)
      have HN := Lib.hid hN
      have HLk := Lib.hid hLk
      obtain ⟨W, hW, hx, hbk, hbn⟩ := boxed w fb who q.on q.kn k s n A c (1)
      have HX := Lib.hid hx
      have HBk := Lib.hid hbk
      have HBn := Lib.hid hbn
      have HNW := Lib.hid (hN.ext hx)
      have HL := Lib.hid (hLk.ext hx)
      have a0 := hbk.cell 0 rfl
      have a1 := hbk.cell 1 rfl
      have a2 := hbk.cell 2 rfl
      have a3 := hbk.cell 3 rfl
      have a4 := hbk.cell 4 rfl
      have a5 := hbk.cell 5 rfl
      have m0 := hbn.cell 0 rfl
      have m1 := hbn.cell 1 rfl
      have m2 := hbn.cell 2 rfl
      have m3 := hbn.cell 3 rfl
      clear hN hLk hx hbk hbn
      go_enter Tryz.func81, Tryz.ntmps81
      go_upto_region 1 with fail
      rw [show (w.alloc (.cells #[.pointer (some ⟨fb, 0, none⟩), .int .i64 who, .int .i64 q.on, .int .i64 q.kn, .nilFunc, .int .i64 4] 107)).alloc (.cells #[.string ⟨k.toArray⟩, .string ⟨s.toArray⟩, .int .i64 n, .slice A 1 c] 44) = W from hW.symm]
      clear hW
      have hk8 := HL.out.er.v8
      unfold sentV at hk8
      go_wp2_with fail
      refine (HWd.out _).mono ?_
      rintro e w1 ⟨rfl, rfl⟩
      go_wp2_with fail
      go_quiet (fail)
      go_wp2_with fail
      go_ret2
      exact ⟨by rw [HP.out]; rfl, ext_trans HX.out (ext_drewN _ _)⟩
    | true =>
      have HP := Lib.hid (show eachR q d ev who s (.mk xk xs xn xA xc xl) = eachF ev (fun o => evH d q (.mk xk xs xn xA xc xl) o) (q.others who s) by unfold eachR; rw [HBw.out]; rfl)
      have HN := Lib.hid hN
      have HLk := Lib.hid hLk
      obtain ⟨W, hW, hx, hbk, hbn⟩ := boxed w fb who q.on q.kn k s n A c (1)
      have HX := Lib.hid hx
      have HBk := Lib.hid hbk
      have HBn := Lib.hid hbn
      have HNW := Lib.hid (hN.ext hx)
      have HL := Lib.hid (hLk.ext hx)
      have a0 := hbk.cell 0 rfl
      have a1 := hbk.cell 1 rfl
      have a2 := hbk.cell 2 rfl
      have a3 := hbk.cell 3 rfl
      have a4 := hbk.cell 4 rfl
      have a5 := hbk.cell 5 rfl
      have m0 := hbn.cell 0 rfl
      have m1 := hbn.cell 1 rfl
      have m2 := hbn.cell 2 rfl
      have m3 := hbn.cell 3 rfl
      clear hN hLk hx hbk hbn
      go_enter Tryz.func81, Tryz.ntmps81
      go_upto_region 1 with fail
      rw [show (w.alloc (.cells #[.pointer (some ⟨fb, 0, none⟩), .int .i64 who, .int .i64 q.on, .int .i64 q.kn, .nilFunc, .int .i64 4] 107)).alloc (.cells #[.string ⟨k.toArray⟩, .string ⟨s.toArray⟩, .int .i64 n, .slice A 1 c] 44) = W from hW.symm]
      clear hW
      go_wp2_with fail
      refine (HWd.out _).mono ?_
      rintro e w1 ⟨rfl, rfl⟩
      obtain ⟨FA, fc, hf⟩ := HL.out.fr
      have HV := Lib.hid (pothers_any q.l hq.len hq.oks hq.kept fb FA fc who s q.on q.kn W hf)
      clear hf
      have hol := others_len q who s
      obtain ⟨os, hos⟩ : ∃ os, q.others who s = os := ⟨_, rfl⟩
      rw [hos] at hol HP
      rw [show othersF who s q.on q.kn q.l = os from hos] at HV
      clear hos
      go_wp2_with fail
      refine HV.out.mono ?_
      rintro e w1 ⟨OA, oc, rfl, hs, hb⟩
      have HB := Lib.hid hb
      have HS := Lib.hid hs
      clear hb hs HV a0 a1 a2 a3 a4 a5 m0 m1 m2 m3
      have hok := fun o => evH_ok hq d (.mk xk xs xn xA xc xl) o
      have HOK := Lib.hid hok
      obtain ⟨f, hf⟩ : ∃ f : Int → Bool × Nat, f = fun o => evH d q (.mk xk xs xn xA xc xl) o := ⟨_, rfl⟩
      rw [show (fun o => evH d q (.mk xk xs xn xA xc xl) o) = f from hf.symm] at HP
      have HFe := Lib.hid hf
      clear hok hf
      go_wp2_with fail
      go_loopw [6, 7, 36] (fun t6 t7 t36 wr => ∃ (i : Nat) (ba bo : Bool), t6 = .bool ba ∧ t7 = .bool bo ∧ t36 = .int .i64 i ∧ i ≤ os.length ∧ Hid (Below w1.heap.size w1 wr) ∧ Hid (ba = (os.take i).all fun o => (f o).1) ∧ Hid (bo = (os.take i).any fun o => (f o).1) ∧ Hid (∀ j (h : j < os.length), j < i → (f os[j]).2 = 0)) (fun _ _ t36 _ => os.length - (intOf t36).toNat)
      case atStart => exact ⟨0, true, false, rfl, rfl, rfl, Nat.zero_le _, Below.refl _ _, rfl, rfl, fun j _ hj => absurd hj (by omega)⟩
      case round =>
        obtain ⟨i, ba, bo, rfl, rfl, rfl, hi, HBr, HA, HO, HZ⟩ := hrel
        have HBW := Lib.hid (HB.out.trans (HBr.out.mono HB.out.size))
        by_cases hlt : i < os.length
        · have hltc : (i : Int) < (os.length : Int) := by omega
          obtain ⟨ob, oo, rfl, u0⟩ := (HS.out.ext HBr.out).rd.int hlt
          have HA2 := Lib.hid (all_take (f := fun o => (f o).1) hlt)
          have HO2 := Lib.hid (any_take (f := fun o => (f o).1) hlt)
          have HEr := Lib.hid (each_err (ev := ev) (f := f) hlt HZ.out)
          have HZ2 := Lib.hid (fun (h : (f os[i]).2 = 0) j (h1 : j < os.length) (h2 : j < i + 1) => (by
            by_cases e : j = i
            · subst e; exact h
            · exact HZ.out j h1 (by omega) : (f os[j]).2 = 0))
          generalize os[i] = ox at u0 HA2 HO2 HEr HZ2
          have p0 := cell_ext HBW.out (HBk.out.cell 0 rfl)
          have p1 := cell_ext HBW.out (HBk.out.cell 1 rfl)
          have p2 := cell_ext HBW.out (HBk.out.cell 2 rfl)
          have p3 := cell_ext HBW.out (HBk.out.cell 3 rfl)
          have p4 := cell_ext HBW.out (HBk.out.cell 4 rfl)
          have p5 := cell_ext HBW.out (HBk.out.cell 5 rfl)
          have r0 := cell_ext HBW.out (HBn.out.cell 0 rfl)
          have r1 := cell_ext HBW.out (HBn.out.cell 1 rfl)
          have r2 := cell_ext HBW.out (HBn.out.cell 2 rfl)
          have r3 := cell_ext HBW.out (HBn.out.cell 3 rfl)
          have hbz := Blk.new wr 107 [.pointer (some ⟨fb, 0, none⟩), .int .i64 ox, .int .i64 q.on, .int .i64 q.kn, .nilFunc, .int .i64 4]
          have hz := ext_alloc wr (.cells (List.toArray [.pointer (some ⟨fb, 0, none⟩), .int .i64 ox, .int .i64 q.on, .int .i64 q.kn, .nilFunc, .int .i64 4]) 107)
          obtain ⟨Z, hZ⟩ : ∃ Z, Z = wr.alloc (.cells (List.toArray [.pointer (some ⟨fb, 0, none⟩), .int .i64 ox, .int .i64 q.on, .int .i64 q.kn, .nilFunc, .int .i64 4]) 107) := ⟨_, rfl⟩
          obtain ⟨K, hK⟩ : ∃ K, K = wr.heap.size := ⟨_, rfl⟩
          rw [← hZ] at hbz hz
          rw [← hK] at hbz
          go_upto_region 9 with fail
          rw [show wr.alloc (.cells #[.pointer (some ⟨fb, 0, none⟩), .int .i64 ox, .int .i64 q.on, .int .i64 q.kn, .nilFunc, .int .i64 4] 107) = Z from hZ.symm, ← hK]
          clear hZ hK u0 p0 p1 p2 p3 p4 p5
          have HBZ := Lib.hid (HBW.out.trans (hz.mono HBW.out.size))
          have HBz := Lib.hid (HBr.out.trans (hz.mono HBr.out.size))
          have HLz := Lib.hid (HL.out.ext HBZ.out)
          have z0 := hbz.cell 0 rfl
          have z1 := hbz.cell 1 rfl
          have z2 := hbz.cell 2 rfl
          have z3 := hbz.cell 3 rfl
          have z4 := hbz.cell 4 rfl
          have z5 := hbz.cell 5 rfl
          have r3 := cell_ext hz r3
          clear hbz hz r0 r1 r2
          obtain ⟨b', o', hA, t0, t1, t2, t3, hkd⟩ := (HNW.out.ext HBZ.out).kid (i := 0) (by simp)
          simp only [List.getElem_cons_zero, Nd.kind, Nd.word, Nd.n, Nd.A, Nd.c, Nd.kids, Nat.zero_mul, Nat.add_zero] at t0 t1 t2 t3
          have HC := Lib.hid (fun wx (hb : Below Z.heap.size Z wx) => (by have h := HIH.out (.mk xk xs xn xA xc xl) ox wx (hkd.ext hb) (HLz.out.ext hb); unfold ndV lkV at h; exact h : Calls Tryz.prog 42 #[.agg #[.pointer (some ⟨fb, 0, none⟩), .int .i64 ox, .int .i64 q.on, .int .i64 q.kn, .nilFunc, .int .i64 4], .agg #[.string ⟨xk.toArray⟩, .string ⟨xs.toArray⟩, .int .i64 xn, .slice xA xl.length xc]] wx (BPost E (evH d q (.mk xk xs xn xA xc xl) ox) wx)))
          rw [show evH d q (.mk xk xs xn xA xc xl) ox = f ox from by rw [HFe.out]] at HC
          have hok : OkH (f ox) := by rw [HFe.out]; exact HOK.out ox
          subst hA
          clear hkd
          obtain ⟨rr, hrr⟩ : ∃ rr : Bool × Nat, rr = f ox := ⟨_, rfl⟩
          rw [← hrr] at HC hok HA2 HO2 HEr HZ2
          clear hrr
          have hdr := ext_drewN Z 1
          go_wp2_with fail
          go_region_held3 (fun w' => w'.cell? ⟨K, 0, none⟩ = some (.pointer (some ⟨fb, 0, none⟩)) ∧ w'.cell? ⟨K, 1, none⟩ = some (.int .i64 ox) ∧ w'.cell? ⟨K, 2, none⟩ = some (.int .i64 q.on) ∧ w'.cell? ⟨K, 3, none⟩ = some (.int .i64 q.kn) ∧ w'.cell? ⟨K, 4, none⟩ = some .nilFunc ∧ w'.cell? ⟨K, 5, none⟩ = some (.int .i64 4) ∧ w'.cell? ⟨w.heap.size + 1, 3, none⟩ = some (.slice (some ⟨b', o', none⟩) 1 c) ∧ w'.cell? ⟨b', o', none⟩ = some (.string ⟨xk.toArray⟩) ∧ w'.cell? ⟨b', o' + 1, none⟩ = some (.string ⟨xs.toArray⟩) ∧ w'.cell? ⟨b', o' + 2, none⟩ = some (.int .i64 xn) ∧ w'.cell? ⟨b', o' + 3, none⟩ = some (.slice xA xl.length xc))
            ((first | exact ⟨z0, z1, z2, z3, z4, z5, r3, t0, t1, t2, t3⟩ | exact ⟨cell_ext hdr z0, cell_ext hdr z1, cell_ext hdr z2, cell_ext hdr z3, cell_ext hdr z4, cell_ext hdr z5, cell_ext hdr r3, cell_ext hdr t0, cell_ext hdr t1, cell_ext hdr t2, cell_ext hdr t3⟩ | exact ⟨cell_ext HBs.out z0, cell_ext HBs.out z1, cell_ext HBs.out z2, cell_ext HBs.out z3, cell_ext HBs.out z4, cell_ext HBs.out z5, cell_ext HBs.out r3, cell_ext HBs.out t0, cell_ext HBs.out t1, cell_ext HBs.out t2, cell_ext HBs.out t3⟩))
            ((go_at_call 42; refine (HC.out _ hdr).mono ?_; rintro e w2 ⟨rfl, hb⟩; have HBs := Lib.hid (ext_trans hdr hb); clear hb))
          have HB2 := Lib.hid (HBz.out.trans (HBs.out.mono HBz.out.size))
          clear HC HBs hdr t0 t1 t2 t3 z0 z1 z2 z3 z4 z5 r3
          rcases holds_cases E hok with ⟨e1, e2⟩ | ⟨e1, e3, a, e2⟩
          · rw [e2]
            have HZ3 := Lib.hid (HZ2.out e1)
            clear e1 e2 hok HEr HZ2
            obtain ⟨br, hbr⟩ : ∃ br, rr.1 = br := ⟨_, rfl⟩
            rw [hbr] at HA2 HO2 ⊢
            clear hbr
            cases ba <;> cases bo
            all_goals
              go_wp2_with fail
              go_roundw
              case rel => exact ⟨i + 1, _, _, rfl, rfl, by go_num, by omega, HB2.out, Lib.hid (by rw [HA2.out, ← HA.out]; simp), Lib.hid (by rw [HO2.out, ← HO.out]; simp), HZ3.out⟩
              case measure => simp [intOf]; omega
          · have HE2 := Lib.hid (HEr.out e1)
            have HEv := Lib.hid e2
            rw [e2]
            clear e1 e2 e3 hok HEr HZ2
            go_wp2_with fail
            go_ret2
            exact ⟨by rw [HP.out, HE2.out, HEv.out] <;> rfl, ext_trans HX.out (HB.out.trans (HB2.out.mono HB.out.size))⟩
        · obtain rfl : os.length = i := by omega
          have hlc : ¬ (os.length : Int) < (os.length : Int) := by omega
          have HF1 := Lib.hid (each_fine (ev := ev) (f := f) (l := os) fun j h => HZ.out j h h)
          have HA1 := Lib.hid (show ba = os.all fun o => (f o).1 by have := HA.out; rwa [List.take_length] at this)
          have HO1 := Lib.hid (show bo = os.any fun o => (f o).1 by have := HO.out; rwa [List.take_length] at this)
          clear HA HO HZ
          have v0 := cell_ext HBW.out (HBn.out.cell 0 rfl)
          cases ev with
          | true =>
            go_wp2_with fail
            go_ret2
            exact ⟨by rw [HP.out, HF1.out, HA1.out]; rfl, ext_trans HX.out HBW.out⟩
          | false =>
            go_wp2_with fail
            go_ret2
            exact ⟨by rw [HP.out, HF1.out, HO1.out]; rfl, ext_trans HX.out HBW.out⟩
set_option maxRecDepth 100000 in
set_option maxHeartbeats 8000000 in
theorem compared_bad {q : Ask} (_ : Okq q) (E : Nat → Addr) (fb : Nat) (who : Int) (X : Nat → Prop) (d : Nat) (k s : List UInt8) (n : Int) (A : Option Addr) (c : Nat) (l : List Nd) (m : Nat) (hml : l.length = m) (hm : m ≠ 2) (w : World) (hN : InW w X (d + 1) (.mk k s n A c l)) (hLk : Lk E 149 q fb w) :
    Calls Tryz.prog 82 #[.agg #[.pointer (some ⟨fb, 0, none⟩), .int .i64 who, .int .i64 q.on, .int .i64 q.kn, .nilFunc, .int .i64 4], .agg #[.string ⟨k.toArray⟩, .string ⟨s.toArray⟩, .int .i64 n, .slice A m c]] w (BPost E (false, 9) w) := by
    have hlen : m ≤ 9223372036854775807 := by
      have h1 := hN.2.2.1.1
      have h2 := hN.2.2.1.2.1
      unfold maxLen at h2
      omega
    have hm1 : ((m : Int) != 2) = true := by simpa using (show (m : Int) ≠ 2 by omega)
    have hm2 : ((m : Int) == 2) = false := by simpa using (show (m : Int) ≠ 2 by omega)
    clear hm hml
    have HN := Lib.hid hN
    have HLk := Lib.hid hLk
    obtain ⟨W, hW, hx, hbk, hbn⟩ := boxed w fb who q.on q.kn k s n A c (m)
    have HX := Lib.hid hx
    have HBk := Lib.hid hbk
    have HBn := Lib.hid hbn
    have HNW := Lib.hid (hN.ext hx)
    have HL := Lib.hid (hLk.ext hx)
    have a0 := hbk.cell 0 rfl
    have a1 := hbk.cell 1 rfl
    have a2 := hbk.cell 2 rfl
    have a3 := hbk.cell 3 rfl
    have a4 := hbk.cell 4 rfl
    have a5 := hbk.cell 5 rfl
    have m0 := hbn.cell 0 rfl
    have m1 := hbn.cell 1 rfl
    have m2 := hbn.cell 2 rfl
    have m3 := hbn.cell 3 rfl
    clear hN hLk hx hbk hbn
    go_enter Tryz.func82, Tryz.ntmps82
    go_upto_region 1 with fail
    rw [show (w.alloc (.cells #[.pointer (some ⟨fb, 0, none⟩), .int .i64 who, .int .i64 q.on, .int .i64 q.kn, .nilFunc, .int .i64 4] 107)).alloc (.cells #[.string ⟨k.toArray⟩, .string ⟨s.toArray⟩, .int .i64 n, .slice A m c] 44) = W from hW.symm]
    clear hW
    have hk8 := HL.out.er.v8
    unfold sentV at hk8
    go_wp2_with fail
    go_quiet (fail)
    go_wp2_with fail
    go_ret2
    exact ⟨by rfl, ext_trans HX.out (ext_drewN _ _)⟩
end Go.Proofs.YtnchlnfenebomaaGreatDoor.Hd
namespace Go.Proofs.YtnchlnfenebomaaGreatDoor.Hd
open Go.RowKit Mem Nest Fk Coin Err Msi

/-- the number of kids that a kind wants -/
def wantH (k : List UInt8) : Option Nat :=
  if k = [111, 114] then some 2 else if k = [97, 110, 100] then some 2 else if k = [110, 111, 116] then some 1 else if k = [110, 97, 109, 101] then some 0 else if k = [115, 111, 109, 101] then some 1 else if k = [101, 118, 101, 114, 121] then some 1 else if k = [60] then some 2 else if k = [60, 61] then some 2 else if k = [61] then some 2 else if k = [60, 62] then some 2 else if k = [62, 61] then some 2 else if k = [62] then some 2 else none
theorem evH_bad {d : Nat} {q : Ask} {k s : List UInt8} {n : Int} {A : Option Addr} {c : Nat} {l : List Nd} {who : Int} (h : wantH k ≠ some l.length) : evH (d + 1) q (.mk k s n A c l) who = (false, 9) := by
  unfold evH
  by_cases h1 : k = kName
  · rw [if_pos h1, if_neg]
    rintro ⟨e, _⟩
    exact h (by rw [h1, e]; rfl)
  rw [if_neg h1]
  by_cases h2 : k = kNot
  · rw [if_pos h2]
    match l, h with
    | [], _ => rfl
    | [x], h => exact absurd (by rw [h2]; rfl) h
    | _ :: _ :: _, _ => rfl
  rw [if_neg h2]
  by_cases h3 : k = kSome ∨ k = kEvery
  · rw [if_pos h3]
    match l, h with
    | [], _ => rfl
    | [x], h => exact absurd (by rcases h3 with h3 | h3 <;> (rw [h3]; rfl)) h
    | _ :: _ :: _, _ => rfl
  rw [if_neg h3]
  match l, h with
  | [], _ => rfl
  | [x], _ => rfl
  | [x, y], h =>
    simp only
    rw [if_neg (fun e => h (by rw [e]; rfl)), if_neg (fun e => h (by rw [e]; rfl)), if_neg (fun e => h (by rw [e]; rfl)), if_neg (fun e => h (by rw [e]; rfl)), if_neg (fun e => h (by rw [e]; rfl)), if_neg (fun e => h (by rw [e]; rfl)), if_neg (fun e => h (by rw [e]; rfl)), if_neg (fun e => h (by rw [e]; rfl))]
  | _ :: _ :: _ :: _, _ => rfl
set_option maxRecDepth 100000 in
set_option maxHeartbeats 8000000 in
theorem holds_bad {q : Ask} (hq : Okq q) (E : Nat → Addr) (fb : Nat) (who : Int) (X : Nat → Prop) (d : Nat) (k s : List UInt8) (n : Int) (A : Option Addr) (c : Nat) (l : List Nd) (m : Nat) (hml : l.length = m) (hm : wantH k ≠ some m) (w : World) (hN : InW w X (d + 1) (.mk k s n A c l)) (hLk : Lk E 149 q fb w) :
    Calls Tryz.prog 42 #[.agg #[.pointer (some ⟨fb, 0, none⟩), .int .i64 who, .int .i64 q.on, .int .i64 q.kn, .nilFunc, .int .i64 4], .agg #[.string ⟨k.toArray⟩, .string ⟨s.toArray⟩, .int .i64 n, .slice A m c]] w (BPost E (false, 9) w) := by
    have hlen : m ≤ 9223372036854775807 := by
      have h1 := hN.2.2.1.1
      have h2 := hN.2.2.1.2.1
      unfold maxLen at h2
      omega
    have HML := Lib.hid hml
    have HMw := Lib.hid hm
    clear hm hml
    have HN := Lib.hid hN
    have HLk := Lib.hid hLk
    obtain ⟨W, hW, hx, hbk, hbn⟩ := boxed w fb who q.on q.kn k s n A c (m)
    have HX := Lib.hid hx
    have HBk := Lib.hid hbk
    have HBn := Lib.hid hbn
    have HNW := Lib.hid (hN.ext hx)
    have HL := Lib.hid (hLk.ext hx)
    have a0 := hbk.cell 0 rfl
    have a1 := hbk.cell 1 rfl
    have a2 := hbk.cell 2 rfl
    have a3 := hbk.cell 3 rfl
    have a4 := hbk.cell 4 rfl
    have a5 := hbk.cell 5 rfl
    have m0 := hbn.cell 0 rfl
    have m1 := hbn.cell 1 rfl
    have m2 := hbn.cell 2 rfl
    have m3 := hbn.cell 3 rfl
    clear hN hLk hx hbk hbn
    go_enter Tryz.func42, Tryz.ntmps42
    go_upto_region 1 with fail
    rw [show (w.alloc (.cells #[.pointer (some ⟨fb, 0, none⟩), .int .i64 who, .int .i64 q.on, .int .i64 q.kn, .nilFunc, .int .i64 4] 107)).alloc (.cells #[.string ⟨k.toArray⟩, .string ⟨s.toArray⟩, .int .i64 n, .slice A m c] 44) = W from hW.symm]
    clear hW
    have hno : wantH k ≠ some m := HMw.out
    unfold wantH at hno
    by_cases hk : k = [111, 114]
    · rw [if_pos hk] at hno
      have hne : m ≠ 2 := fun e => hno (by rw [e])
      have kb0 : (k == [111, 114]) = true := by rw [hk]; decide
      have kb1 : (k == [97, 110, 100]) = false := by rw [hk]; decide
      have kb2 : (k == [110, 111, 116]) = false := by rw [hk]; decide
      have kb3 : (k == [110, 97, 109, 101]) = false := by rw [hk]; decide
      have kb4 : (k == [115, 111, 109, 101]) = false := by rw [hk]; decide
      have kb5 : (k == [101, 118, 101, 114, 121]) = false := by rw [hk]; decide
      have kb6 : (k == [60]) = false := by rw [hk]; decide
      have kb7 : (k == [60, 61]) = false := by rw [hk]; decide
      have kb8 : (k == [61]) = false := by rw [hk]; decide
      have kb9 : (k == [60, 62]) = false := by rw [hk]; decide
      have kb10 : (k == [62, 61]) = false := by rw [hk]; decide
      have kb11 : (k == [62]) = false := by rw [hk]; decide
      have hm1 : ((m : Int) != 2) = true := by simpa using (show (m : Int) ≠ 2 by omega)
      have hm2 : ((m : Int) == 2) = false := by simpa using (show (m : Int) ≠ 2 by omega)
      have HNE := Lib.hid hne
      clear hk hno hne
      have hk8 := HL.out.er.v8
      unfold sentV at hk8
      go_wp2_with fail
      go_quiet (fail)
      go_wp2_with fail
      go_ret2
      exact ⟨by rfl, ext_trans HX.out (ext_drewN _ _)⟩
    rw [if_neg hk] at hno
    have kb0 : (k == [111, 114]) = false := by simpa using hk
    clear hk
    by_cases hk : k = [97, 110, 100]
    · rw [if_pos hk] at hno
      have hne : m ≠ 2 := fun e => hno (by rw [e])
      have kb0 : (k == [111, 114]) = false := by rw [hk]; decide
      have kb1 : (k == [97, 110, 100]) = true := by rw [hk]; decide
      have kb2 : (k == [110, 111, 116]) = false := by rw [hk]; decide
      have kb3 : (k == [110, 97, 109, 101]) = false := by rw [hk]; decide
      have kb4 : (k == [115, 111, 109, 101]) = false := by rw [hk]; decide
      have kb5 : (k == [101, 118, 101, 114, 121]) = false := by rw [hk]; decide
      have kb6 : (k == [60]) = false := by rw [hk]; decide
      have kb7 : (k == [60, 61]) = false := by rw [hk]; decide
      have kb8 : (k == [61]) = false := by rw [hk]; decide
      have kb9 : (k == [60, 62]) = false := by rw [hk]; decide
      have kb10 : (k == [62, 61]) = false := by rw [hk]; decide
      have kb11 : (k == [62]) = false := by rw [hk]; decide
      have hm1 : ((m : Int) != 2) = true := by simpa using (show (m : Int) ≠ 2 by omega)
      have hm2 : ((m : Int) == 2) = false := by simpa using (show (m : Int) ≠ 2 by omega)
      have HNE := Lib.hid hne
      clear hk hno hne
      have hk8 := HL.out.er.v8
      unfold sentV at hk8
      go_wp2_with fail
      go_quiet (fail)
      go_wp2_with fail
      go_ret2
      exact ⟨by rfl, ext_trans HX.out (ext_drewN _ _)⟩
    rw [if_neg hk] at hno
    have kb1 : (k == [97, 110, 100]) = false := by simpa using hk
    clear hk
    by_cases hk : k = [110, 111, 116]
    · rw [if_pos hk] at hno
      have hne : m ≠ 1 := fun e => hno (by rw [e])
      have kb0 : (k == [111, 114]) = false := by rw [hk]; decide
      have kb1 : (k == [97, 110, 100]) = false := by rw [hk]; decide
      have kb2 : (k == [110, 111, 116]) = true := by rw [hk]; decide
      have kb3 : (k == [110, 97, 109, 101]) = false := by rw [hk]; decide
      have kb4 : (k == [115, 111, 109, 101]) = false := by rw [hk]; decide
      have kb5 : (k == [101, 118, 101, 114, 121]) = false := by rw [hk]; decide
      have kb6 : (k == [60]) = false := by rw [hk]; decide
      have kb7 : (k == [60, 61]) = false := by rw [hk]; decide
      have kb8 : (k == [61]) = false := by rw [hk]; decide
      have kb9 : (k == [60, 62]) = false := by rw [hk]; decide
      have kb10 : (k == [62, 61]) = false := by rw [hk]; decide
      have kb11 : (k == [62]) = false := by rw [hk]; decide
      have hm1 : ((m : Int) != 1) = true := by simpa using (show (m : Int) ≠ 1 by omega)
      have hm2 : ((m : Int) == 1) = false := by simpa using (show (m : Int) ≠ 1 by omega)
      have HNE := Lib.hid hne
      clear hk hno hne
      have hk8 := HL.out.er.v8
      unfold sentV at hk8
      go_wp2_with fail
      go_quiet (fail)
      go_wp2_with fail
      go_ret2
      exact ⟨by rfl, ext_trans HX.out (ext_drewN _ _)⟩
    rw [if_neg hk] at hno
    have kb2 : (k == [110, 111, 116]) = false := by simpa using hk
    clear hk
    by_cases hk : k = [110, 97, 109, 101]
    · rw [if_pos hk] at hno
      have hne : m ≠ 0 := fun e => hno (by rw [e])
      have kb0 : (k == [111, 114]) = false := by rw [hk]; decide
      have kb1 : (k == [97, 110, 100]) = false := by rw [hk]; decide
      have kb2 : (k == [110, 111, 116]) = false := by rw [hk]; decide
      have kb3 : (k == [110, 97, 109, 101]) = true := by rw [hk]; decide
      have kb4 : (k == [115, 111, 109, 101]) = false := by rw [hk]; decide
      have kb5 : (k == [101, 118, 101, 114, 121]) = false := by rw [hk]; decide
      have kb6 : (k == [60]) = false := by rw [hk]; decide
      have kb7 : (k == [60, 61]) = false := by rw [hk]; decide
      have kb8 : (k == [61]) = false := by rw [hk]; decide
      have kb9 : (k == [60, 62]) = false := by rw [hk]; decide
      have kb10 : (k == [62, 61]) = false := by rw [hk]; decide
      have kb11 : (k == [62]) = false := by rw [hk]; decide
      have hm1 : ((m : Int) != 0) = true := by simpa using (show (m : Int) ≠ 0 by omega)
      have hm2 : ((m : Int) == 0) = false := by simpa using (show (m : Int) ≠ 0 by omega)
      have HNE := Lib.hid hne
      clear hk hno hne
      have hk8 := HL.out.er.v8
      unfold sentV at hk8
      go_wp2_with fail
      go_quiet (fail)
      go_wp2_with fail
      go_ret2
      exact ⟨by rfl, ext_trans HX.out (ext_drewN _ _)⟩
    rw [if_neg hk] at hno
    have kb3 : (k == [110, 97, 109, 101]) = false := by simpa using hk
    clear hk
    by_cases hk : k = [115, 111, 109, 101]
    · rw [if_pos hk] at hno
      have hne : m ≠ 1 := fun e => hno (by rw [e])
      have kb0 : (k == [111, 114]) = false := by rw [hk]; decide
      have kb1 : (k == [97, 110, 100]) = false := by rw [hk]; decide
      have kb2 : (k == [110, 111, 116]) = false := by rw [hk]; decide
      have kb3 : (k == [110, 97, 109, 101]) = false := by rw [hk]; decide
      have kb4 : (k == [115, 111, 109, 101]) = true := by rw [hk]; decide
      have kb5 : (k == [101, 118, 101, 114, 121]) = false := by rw [hk]; decide
      have kb6 : (k == [60]) = false := by rw [hk]; decide
      have kb7 : (k == [60, 61]) = false := by rw [hk]; decide
      have kb8 : (k == [61]) = false := by rw [hk]; decide
      have kb9 : (k == [60, 62]) = false := by rw [hk]; decide
      have kb10 : (k == [62, 61]) = false := by rw [hk]; decide
      have kb11 : (k == [62]) = false := by rw [hk]; decide
      have hm1 : ((m : Int) != 1) = true := by simpa using (show (m : Int) ≠ 1 by omega)
      have hm2 : ((m : Int) == 1) = false := by simpa using (show (m : Int) ≠ 1 by omega)
      have HNE := Lib.hid hne
      clear hk hno hne
      have HC := Lib.hid (quant_bad hq E fb who X d k s n A c l m HML.out HNE.out W HNW.out HL.out)
      go_wp2_with fail
      refine HC.out.mono ?_
      rintro e w2 ⟨rfl, hb⟩
      have HB := Lib.hid hb
      have he9 : partE 9 (sentV (E 2)) (sentV (E 8)) = .iface 237 (.pointer (some (E 8))) := rfl
      rw [he9]
      clear hb he9
      go_wp2_with fail
      go_ret2
      exact ⟨rfl, ext_trans HX.out HB.out⟩
    rw [if_neg hk] at hno
    have kb4 : (k == [115, 111, 109, 101]) = false := by simpa using hk
    clear hk
    by_cases hk : k = [101, 118, 101, 114, 121]
    · rw [if_pos hk] at hno
      have hne : m ≠ 1 := fun e => hno (by rw [e])
      have kb0 : (k == [111, 114]) = false := by rw [hk]; decide
      have kb1 : (k == [97, 110, 100]) = false := by rw [hk]; decide
      have kb2 : (k == [110, 111, 116]) = false := by rw [hk]; decide
      have kb3 : (k == [110, 97, 109, 101]) = false := by rw [hk]; decide
      have kb4 : (k == [115, 111, 109, 101]) = false := by rw [hk]; decide
      have kb5 : (k == [101, 118, 101, 114, 121]) = true := by rw [hk]; decide
      have kb6 : (k == [60]) = false := by rw [hk]; decide
      have kb7 : (k == [60, 61]) = false := by rw [hk]; decide
      have kb8 : (k == [61]) = false := by rw [hk]; decide
      have kb9 : (k == [60, 62]) = false := by rw [hk]; decide
      have kb10 : (k == [62, 61]) = false := by rw [hk]; decide
      have kb11 : (k == [62]) = false := by rw [hk]; decide
      have hm1 : ((m : Int) != 1) = true := by simpa using (show (m : Int) ≠ 1 by omega)
      have hm2 : ((m : Int) == 1) = false := by simpa using (show (m : Int) ≠ 1 by omega)
      have HNE := Lib.hid hne
      clear hk hno hne
      have HC := Lib.hid (quant_bad hq E fb who X d k s n A c l m HML.out HNE.out W HNW.out HL.out)
      go_wp2_with fail
      refine HC.out.mono ?_
      rintro e w2 ⟨rfl, hb⟩
      have HB := Lib.hid hb
      have he9 : partE 9 (sentV (E 2)) (sentV (E 8)) = .iface 237 (.pointer (some (E 8))) := rfl
      rw [he9]
      clear hb he9
      go_wp2_with fail
      go_ret2
      exact ⟨rfl, ext_trans HX.out HB.out⟩
    rw [if_neg hk] at hno
    have kb5 : (k == [101, 118, 101, 114, 121]) = false := by simpa using hk
    clear hk
    by_cases hk : k = [60]
    · rw [if_pos hk] at hno
      have hne : m ≠ 2 := fun e => hno (by rw [e])
      have kb0 : (k == [111, 114]) = false := by rw [hk]; decide
      have kb1 : (k == [97, 110, 100]) = false := by rw [hk]; decide
      have kb2 : (k == [110, 111, 116]) = false := by rw [hk]; decide
      have kb3 : (k == [110, 97, 109, 101]) = false := by rw [hk]; decide
      have kb4 : (k == [115, 111, 109, 101]) = false := by rw [hk]; decide
      have kb5 : (k == [101, 118, 101, 114, 121]) = false := by rw [hk]; decide
      have kb6 : (k == [60]) = true := by rw [hk]; decide
      have kb7 : (k == [60, 61]) = false := by rw [hk]; decide
      have kb8 : (k == [61]) = false := by rw [hk]; decide
      have kb9 : (k == [60, 62]) = false := by rw [hk]; decide
      have kb10 : (k == [62, 61]) = false := by rw [hk]; decide
      have kb11 : (k == [62]) = false := by rw [hk]; decide
      have hm1 : ((m : Int) != 2) = true := by simpa using (show (m : Int) ≠ 2 by omega)
      have hm2 : ((m : Int) == 2) = false := by simpa using (show (m : Int) ≠ 2 by omega)
      have HNE := Lib.hid hne
      clear hk hno hne
      have HC := Lib.hid (compared_bad hq E fb who X d k s n A c l m HML.out HNE.out W HNW.out HL.out)
      go_wp2_with fail
      refine HC.out.mono ?_
      rintro e w2 ⟨rfl, hb⟩
      have HB := Lib.hid hb
      have he9 : partE 9 (sentV (E 2)) (sentV (E 8)) = .iface 237 (.pointer (some (E 8))) := rfl
      rw [he9]
      clear hb he9
      go_wp2_with fail
      go_ret2
      exact ⟨rfl, ext_trans HX.out HB.out⟩
    rw [if_neg hk] at hno
    have kb6 : (k == [60]) = false := by simpa using hk
    clear hk
    by_cases hk : k = [60, 61]
    · rw [if_pos hk] at hno
      have hne : m ≠ 2 := fun e => hno (by rw [e])
      have kb0 : (k == [111, 114]) = false := by rw [hk]; decide
      have kb1 : (k == [97, 110, 100]) = false := by rw [hk]; decide
      have kb2 : (k == [110, 111, 116]) = false := by rw [hk]; decide
      have kb3 : (k == [110, 97, 109, 101]) = false := by rw [hk]; decide
      have kb4 : (k == [115, 111, 109, 101]) = false := by rw [hk]; decide
      have kb5 : (k == [101, 118, 101, 114, 121]) = false := by rw [hk]; decide
      have kb6 : (k == [60]) = false := by rw [hk]; decide
      have kb7 : (k == [60, 61]) = true := by rw [hk]; decide
      have kb8 : (k == [61]) = false := by rw [hk]; decide
      have kb9 : (k == [60, 62]) = false := by rw [hk]; decide
      have kb10 : (k == [62, 61]) = false := by rw [hk]; decide
      have kb11 : (k == [62]) = false := by rw [hk]; decide
      have hm1 : ((m : Int) != 2) = true := by simpa using (show (m : Int) ≠ 2 by omega)
      have hm2 : ((m : Int) == 2) = false := by simpa using (show (m : Int) ≠ 2 by omega)
      have HNE := Lib.hid hne
      clear hk hno hne
      have HC := Lib.hid (compared_bad hq E fb who X d k s n A c l m HML.out HNE.out W HNW.out HL.out)
      go_wp2_with fail
      refine HC.out.mono ?_
      rintro e w2 ⟨rfl, hb⟩
      have HB := Lib.hid hb
      have he9 : partE 9 (sentV (E 2)) (sentV (E 8)) = .iface 237 (.pointer (some (E 8))) := rfl
      rw [he9]
      clear hb he9
      go_wp2_with fail
      go_ret2
      exact ⟨rfl, ext_trans HX.out HB.out⟩
    rw [if_neg hk] at hno
    have kb7 : (k == [60, 61]) = false := by simpa using hk
    clear hk
    by_cases hk : k = [61]
    · rw [if_pos hk] at hno
      have hne : m ≠ 2 := fun e => hno (by rw [e])
      have kb0 : (k == [111, 114]) = false := by rw [hk]; decide
      have kb1 : (k == [97, 110, 100]) = false := by rw [hk]; decide
      have kb2 : (k == [110, 111, 116]) = false := by rw [hk]; decide
      have kb3 : (k == [110, 97, 109, 101]) = false := by rw [hk]; decide
      have kb4 : (k == [115, 111, 109, 101]) = false := by rw [hk]; decide
      have kb5 : (k == [101, 118, 101, 114, 121]) = false := by rw [hk]; decide
      have kb6 : (k == [60]) = false := by rw [hk]; decide
      have kb7 : (k == [60, 61]) = false := by rw [hk]; decide
      have kb8 : (k == [61]) = true := by rw [hk]; decide
      have kb9 : (k == [60, 62]) = false := by rw [hk]; decide
      have kb10 : (k == [62, 61]) = false := by rw [hk]; decide
      have kb11 : (k == [62]) = false := by rw [hk]; decide
      have hm1 : ((m : Int) != 2) = true := by simpa using (show (m : Int) ≠ 2 by omega)
      have hm2 : ((m : Int) == 2) = false := by simpa using (show (m : Int) ≠ 2 by omega)
      have HNE := Lib.hid hne
      clear hk hno hne
      have HC := Lib.hid (compared_bad hq E fb who X d k s n A c l m HML.out HNE.out W HNW.out HL.out)
      go_wp2_with fail
      refine HC.out.mono ?_
      rintro e w2 ⟨rfl, hb⟩
      have HB := Lib.hid hb
      have he9 : partE 9 (sentV (E 2)) (sentV (E 8)) = .iface 237 (.pointer (some (E 8))) := rfl
      rw [he9]
      clear hb he9
      go_wp2_with fail
      go_ret2
      exact ⟨rfl, ext_trans HX.out HB.out⟩
    rw [if_neg hk] at hno
    have kb8 : (k == [61]) = false := by simpa using hk
    clear hk
    by_cases hk : k = [60, 62]
    · rw [if_pos hk] at hno
      have hne : m ≠ 2 := fun e => hno (by rw [e])
      have kb0 : (k == [111, 114]) = false := by rw [hk]; decide
      have kb1 : (k == [97, 110, 100]) = false := by rw [hk]; decide
      have kb2 : (k == [110, 111, 116]) = false := by rw [hk]; decide
      have kb3 : (k == [110, 97, 109, 101]) = false := by rw [hk]; decide
      have kb4 : (k == [115, 111, 109, 101]) = false := by rw [hk]; decide
      have kb5 : (k == [101, 118, 101, 114, 121]) = false := by rw [hk]; decide
      have kb6 : (k == [60]) = false := by rw [hk]; decide
      have kb7 : (k == [60, 61]) = false := by rw [hk]; decide
      have kb8 : (k == [61]) = false := by rw [hk]; decide
      have kb9 : (k == [60, 62]) = true := by rw [hk]; decide
      have kb10 : (k == [62, 61]) = false := by rw [hk]; decide
      have kb11 : (k == [62]) = false := by rw [hk]; decide
      have hm1 : ((m : Int) != 2) = true := by simpa using (show (m : Int) ≠ 2 by omega)
      have hm2 : ((m : Int) == 2) = false := by simpa using (show (m : Int) ≠ 2 by omega)
      have HNE := Lib.hid hne
      clear hk hno hne
      have HC := Lib.hid (compared_bad hq E fb who X d k s n A c l m HML.out HNE.out W HNW.out HL.out)
      go_wp2_with fail
      refine HC.out.mono ?_
      rintro e w2 ⟨rfl, hb⟩
      have HB := Lib.hid hb
      have he9 : partE 9 (sentV (E 2)) (sentV (E 8)) = .iface 237 (.pointer (some (E 8))) := rfl
      rw [he9]
      clear hb he9
      go_wp2_with fail
      go_ret2
      exact ⟨rfl, ext_trans HX.out HB.out⟩
    rw [if_neg hk] at hno
    have kb9 : (k == [60, 62]) = false := by simpa using hk
    clear hk
    by_cases hk : k = [62, 61]
    · rw [if_pos hk] at hno
      have hne : m ≠ 2 := fun e => hno (by rw [e])
      have kb0 : (k == [111, 114]) = false := by rw [hk]; decide
      have kb1 : (k == [97, 110, 100]) = false := by rw [hk]; decide
      have kb2 : (k == [110, 111, 116]) = false := by rw [hk]; decide
      have kb3 : (k == [110, 97, 109, 101]) = false := by rw [hk]; decide
      have kb4 : (k == [115, 111, 109, 101]) = false := by rw [hk]; decide
      have kb5 : (k == [101, 118, 101, 114, 121]) = false := by rw [hk]; decide
      have kb6 : (k == [60]) = false := by rw [hk]; decide
      have kb7 : (k == [60, 61]) = false := by rw [hk]; decide
      have kb8 : (k == [61]) = false := by rw [hk]; decide
      have kb9 : (k == [60, 62]) = false := by rw [hk]; decide
      have kb10 : (k == [62, 61]) = true := by rw [hk]; decide
      have kb11 : (k == [62]) = false := by rw [hk]; decide
      have hm1 : ((m : Int) != 2) = true := by simpa using (show (m : Int) ≠ 2 by omega)
      have hm2 : ((m : Int) == 2) = false := by simpa using (show (m : Int) ≠ 2 by omega)
      have HNE := Lib.hid hne
      clear hk hno hne
      have HC := Lib.hid (compared_bad hq E fb who X d k s n A c l m HML.out HNE.out W HNW.out HL.out)
      go_wp2_with fail
      refine HC.out.mono ?_
      rintro e w2 ⟨rfl, hb⟩
      have HB := Lib.hid hb
      have he9 : partE 9 (sentV (E 2)) (sentV (E 8)) = .iface 237 (.pointer (some (E 8))) := rfl
      rw [he9]
      clear hb he9
      go_wp2_with fail
      go_ret2
      exact ⟨rfl, ext_trans HX.out HB.out⟩
    rw [if_neg hk] at hno
    have kb10 : (k == [62, 61]) = false := by simpa using hk
    clear hk
    by_cases hk : k = [62]
    · rw [if_pos hk] at hno
      have hne : m ≠ 2 := fun e => hno (by rw [e])
      have kb0 : (k == [111, 114]) = false := by rw [hk]; decide
      have kb1 : (k == [97, 110, 100]) = false := by rw [hk]; decide
      have kb2 : (k == [110, 111, 116]) = false := by rw [hk]; decide
      have kb3 : (k == [110, 97, 109, 101]) = false := by rw [hk]; decide
      have kb4 : (k == [115, 111, 109, 101]) = false := by rw [hk]; decide
      have kb5 : (k == [101, 118, 101, 114, 121]) = false := by rw [hk]; decide
      have kb6 : (k == [60]) = false := by rw [hk]; decide
      have kb7 : (k == [60, 61]) = false := by rw [hk]; decide
      have kb8 : (k == [61]) = false := by rw [hk]; decide
      have kb9 : (k == [60, 62]) = false := by rw [hk]; decide
      have kb10 : (k == [62, 61]) = false := by rw [hk]; decide
      have kb11 : (k == [62]) = true := by rw [hk]; decide
      have hm1 : ((m : Int) != 2) = true := by simpa using (show (m : Int) ≠ 2 by omega)
      have hm2 : ((m : Int) == 2) = false := by simpa using (show (m : Int) ≠ 2 by omega)
      have HNE := Lib.hid hne
      clear hk hno hne
      have HC := Lib.hid (compared_bad hq E fb who X d k s n A c l m HML.out HNE.out W HNW.out HL.out)
      go_wp2_with fail
      refine HC.out.mono ?_
      rintro e w2 ⟨rfl, hb⟩
      have HB := Lib.hid hb
      have he9 : partE 9 (sentV (E 2)) (sentV (E 8)) = .iface 237 (.pointer (some (E 8))) := rfl
      rw [he9]
      clear hb he9
      go_wp2_with fail
      go_ret2
      exact ⟨rfl, ext_trans HX.out HB.out⟩
    rw [if_neg hk] at hno
    have kb11 : (k == [62]) = false := by simpa using hk
    clear hk
    clear hno
    have hk8 := HL.out.er.v8
    unfold sentV at hk8
    go_wp2_with fail
    go_quiet (fail)
    go_wp2_with fail
    go_ret2
    exact ⟨by rfl, ext_trans HX.out (ext_drewN _ _)⟩
set_option maxRecDepth 100000 in
set_option maxHeartbeats 8000000 in
theorem holds_name {q : Ask} (hq : Okq q) (E : Nat → Addr) (fb : Nat) (who : Int) (X : Nat → Prop) (d : Nat) (k s : List UInt8) (n : Int) (A : Option Addr) (c : Nat) (hk : k = [110, 97, 109, 101]) (w : World) (hN : InW w X (d + 1) (.mk k s n A c [])) (hLk : Lk E 149 q fb w) :
    Calls Tryz.prog 42 #[.agg #[.pointer (some ⟨fb, 0, none⟩), .int .i64 who, .int .i64 q.on, .int .i64 q.kn, .nilFunc, .int .i64 4], .agg #[.string ⟨k.toArray⟩, .string ⟨s.toArray⟩, .int .i64 n, .slice A 0 c]] w (BPost E (evH (d + 1) q (.mk k s n A c []) who) w) := by
    have HE := Lib.hid (show evH (d + 1) q (.mk k s n A c []) who = if wordB s = true then ((valF (q.best who s)).2 && decide (q.worth who s ≠ 0), 0) else (false, 9) by (conv => lhs; unfold evH); rw [hk]; simp [kName])
    have kb0 : (k == [111, 114]) = false := by rw [hk]; decide
    have kb1 : (k == [97, 110, 100]) = false := by rw [hk]; decide
    have kb2 : (k == [110, 111, 116]) = false := by rw [hk]; decide
    have kb3 : (k == [110, 97, 109, 101]) = true := by rw [hk]; decide
    have kb4 : (k == [115, 111, 109, 101]) = false := by rw [hk]; decide
    have kb5 : (k == [101, 118, 101, 114, 121]) = false := by rw [hk]; decide
    have kb6 : (k == [60]) = false := by rw [hk]; decide
    have kb7 : (k == [60, 61]) = false := by rw [hk]; decide
    have kb8 : (k == [61]) = false := by rw [hk]; decide
    have kb9 : (k == [60, 62]) = false := by rw [hk]; decide
    have kb10 : (k == [62, 61]) = false := by rw [hk]; decide
    have kb11 : (k == [62]) = false := by rw [hk]; decide
    have HWd := Lib.hid (fun w => pword_any s hN.2.2.1.2.2.2 w)
    clear hk
    obtain ⟨bw, hbw⟩ : ∃ bw, wordB s = bw := ⟨_, rfl⟩
    rw [hbw] at HWd HE
    clear hbw
    cases bw with
    | false =>
      have HN := Lib.hid hN
      have HLk := Lib.hid hLk
      obtain ⟨W, hW, hx, hbk, hbn⟩ := boxed w fb who q.on q.kn k s n A c (0)
      have HX := Lib.hid hx
      have HBk := Lib.hid hbk
      have HBn := Lib.hid hbn
      have HNW := Lib.hid (hN.ext hx)
      have HL := Lib.hid (hLk.ext hx)
      have a0 := hbk.cell 0 rfl
      have a1 := hbk.cell 1 rfl
      have a2 := hbk.cell 2 rfl
      have a3 := hbk.cell 3 rfl
      have a4 := hbk.cell 4 rfl
      have a5 := hbk.cell 5 rfl
      have m0 := hbn.cell 0 rfl
      have m1 := hbn.cell 1 rfl
      have m2 := hbn.cell 2 rfl
      have m3 := hbn.cell 3 rfl
      clear hN hLk hx hbk hbn
      go_enter Tryz.func42, Tryz.ntmps42
      go_upto_region 1 with fail
      rw [show (w.alloc (.cells #[.pointer (some ⟨fb, 0, none⟩), .int .i64 who, .int .i64 q.on, .int .i64 q.kn, .nilFunc, .int .i64 4] 107)).alloc (.cells #[.string ⟨k.toArray⟩, .string ⟨s.toArray⟩, .int .i64 n, .slice A 0 c] 44) = W from hW.symm]
      clear hW
      have hk8 := HL.out.er.v8
      unfold sentV at hk8
      go_wp2_with fail
      refine (HWd.out _).mono ?_
      rintro e w1 ⟨rfl, rfl⟩
      go_wp2_with fail
      go_quiet (fail)
      go_wp2_with fail
      go_ret2
      exact ⟨by rw [HE.out]; rfl, ext_trans HX.out (ext_drewN _ _)⟩
    | true =>
      have HN := Lib.hid hN
      have HLk := Lib.hid hLk
      obtain ⟨W, hW, hx, hbk, hbn⟩ := boxed w fb who q.on q.kn k s n A c (0)
      have HX := Lib.hid hx
      have HBk := Lib.hid hbk
      have HBn := Lib.hid hbn
      have HNW := Lib.hid (hN.ext hx)
      have HL := Lib.hid (hLk.ext hx)
      have a0 := hbk.cell 0 rfl
      have a1 := hbk.cell 1 rfl
      have a2 := hbk.cell 2 rfl
      have a3 := hbk.cell 3 rfl
      have a4 := hbk.cell 4 rfl
      have a5 := hbk.cell 5 rfl
      have m0 := hbn.cell 0 rfl
      have m1 := hbn.cell 1 rfl
      have m2 := hbn.cell 2 rfl
      have m3 := hbn.cell 3 rfl
      clear hN hLk hx hbk hbn
      go_enter Tryz.func42, Tryz.ntmps42
      go_upto_region 1 with fail
      rw [show (w.alloc (.cells #[.pointer (some ⟨fb, 0, none⟩), .int .i64 who, .int .i64 q.on, .int .i64 q.kn, .nilFunc, .int .i64 4] 107)).alloc (.cells #[.string ⟨k.toArray⟩, .string ⟨s.toArray⟩, .int .i64 n, .slice A 0 c] 44) = W from hW.symm]
      clear hW
      go_wp2_with fail
      refine (HWd.out _).mono ?_
      rintro e w1 ⟨rfl, rfl⟩
      obtain ⟨FA, fc, hf⟩ := HL.out.fr
      have HV := Lib.hid (pvalue_any q.l hq.len hq.oks fb FA fc who s q.on q.kn W hf)
      clear hf
      go_wp2_with fail
      refine HV.out.mono ?_
      rintro e w1 ⟨rfl, hb⟩
      have HB := Lib.hid hb
      clear hb HV
      have HE3 := Lib.hid (show evH (d + 1) q (.mk k s n A c []) who = ((valF (bestF who s q.on q.kn (-1) q.l)).2 && decide ((valF (bestF who s q.on q.kn (-1) q.l)).1 ≠ 0), 0) from HE.out)
      obtain ⟨⟨vz, vb⟩, hv⟩ : ∃ v, valF (bestF who s q.on q.kn (-1) q.l) = v := ⟨_, rfl⟩
      rw [hv] at HE3 ⊢
      simp only
      clear hv HE
      cases vb with
      | false =>
        go_wp2_with fail
        go_ret2
        exact ⟨by rw [HE3.out]; rfl, ext_trans HX.out HB.out⟩
      | true =>
        by_cases hz : vz = 0
        · have hz1 : (vz != 0) = false := by simpa using hz
          have HD := Lib.hid (show (true && decide (vz ≠ 0)) = false by simpa using hz)
          clear hz
          go_wp2_with fail
          go_ret2
          exact ⟨by rw [HE3.out]; simp only; rw [HD.out]; rfl, ext_trans HX.out HB.out⟩
        · have hz1 : (vz != 0) = true := by simpa using hz
          have HD := Lib.hid (show (true && decide (vz ≠ 0)) = true by simpa using hz)
          clear hz
          go_wp2_with fail
          go_ret2
          exact ⟨by rw [HE3.out]; simp only; rw [HD.out]; rfl, ext_trans HX.out HB.out⟩
set_option maxRecDepth 100000 in
set_option maxHeartbeats 8000000 in
theorem holds_not {q : Ask} (hq : Okq q) (E : Nat → Addr) (fb : Nat) (who : Int) (X : Nat → Prop) (d : Nat) (IH : IHB q E fb X d) (k s : List UInt8) (n : Int) (A : Option Addr) (c : Nat) (xk xs : List UInt8) (xn : Int) (xA : Option Addr) (xc : Nat) (xl : List Nd) (hk : k = [110, 111, 116]) (w : World) (hN : InW w X (d + 1) (.mk k s n A c [.mk xk xs xn xA xc xl])) (hLk : Lk E 149 q fb w) :
    Calls Tryz.prog 42 #[.agg #[.pointer (some ⟨fb, 0, none⟩), .int .i64 who, .int .i64 q.on, .int .i64 q.kn, .nilFunc, .int .i64 4], .agg #[.string ⟨k.toArray⟩, .string ⟨s.toArray⟩, .int .i64 n, .slice A 1 c]] w (BPost E (evH (d + 1) q (.mk k s n A c [.mk xk xs xn xA xc xl]) who) w) := by
    have HE := Lib.hid (show evH (d + 1) q (.mk k s n A c [.mk xk xs xn xA xc xl]) who = if 0 < (evH d q (.mk xk xs xn xA xc xl) who).2 then (false, (evH d q (.mk xk xs xn xA xc xl) who).2) else (!(evH d q (.mk xk xs xn xA xc xl) who).1, 0) by (conv => lhs; unfold evH); rw [hk]; simp [kName, kNot])
    have kb0 : (k == [111, 114]) = false := by rw [hk]; decide
    have kb1 : (k == [97, 110, 100]) = false := by rw [hk]; decide
    have kb2 : (k == [110, 111, 116]) = true := by rw [hk]; decide
    have kb3 : (k == [110, 97, 109, 101]) = false := by rw [hk]; decide
    have kb4 : (k == [115, 111, 109, 101]) = false := by rw [hk]; decide
    have kb5 : (k == [101, 118, 101, 114, 121]) = false := by rw [hk]; decide
    have kb6 : (k == [60]) = false := by rw [hk]; decide
    have kb7 : (k == [60, 61]) = false := by rw [hk]; decide
    have kb8 : (k == [61]) = false := by rw [hk]; decide
    have kb9 : (k == [60, 62]) = false := by rw [hk]; decide
    have kb10 : (k == [62, 61]) = false := by rw [hk]; decide
    have kb11 : (k == [62]) = false := by rw [hk]; decide
    have HIH := Lib.hid IH
    clear hk IH
    have HN := Lib.hid hN
    have HLk := Lib.hid hLk
    obtain ⟨W, hW, hx, hbk, hbn⟩ := boxed w fb who q.on q.kn k s n A c (1)
    have HX := Lib.hid hx
    have HBk := Lib.hid hbk
    have HBn := Lib.hid hbn
    have HNW := Lib.hid (hN.ext hx)
    have HL := Lib.hid (hLk.ext hx)
    have a0 := hbk.cell 0 rfl
    have a1 := hbk.cell 1 rfl
    have a2 := hbk.cell 2 rfl
    have a3 := hbk.cell 3 rfl
    have a4 := hbk.cell 4 rfl
    have a5 := hbk.cell 5 rfl
    have m0 := hbn.cell 0 rfl
    have m1 := hbn.cell 1 rfl
    have m2 := hbn.cell 2 rfl
    have m3 := hbn.cell 3 rfl
    clear hN hLk hx hbk hbn
    go_enter Tryz.func42, Tryz.ntmps42
    go_upto_region 1 with fail
    rw [show (w.alloc (.cells #[.pointer (some ⟨fb, 0, none⟩), .int .i64 who, .int .i64 q.on, .int .i64 q.kn, .nilFunc, .int .i64 4] 107)).alloc (.cells #[.string ⟨k.toArray⟩, .string ⟨s.toArray⟩, .int .i64 n, .slice A 1 c] 44) = W from hW.symm]
    clear hW
    obtain ⟨b', o', hA, t0, t1, t2, t3, hkd⟩ := HNW.out.kid (i := 0) (by simp)
    simp only [List.getElem_cons_zero, Nd.kind, Nd.word, Nd.n, Nd.A, Nd.c, Nd.kids, Nat.zero_mul, Nat.add_zero] at t0 t1 t2 t3
    have HC := Lib.hid (fun wx (hb : Below W.heap.size W wx) => (by have h := HIH.out (.mk xk xs xn xA xc xl) who wx (hkd.ext hb) (HL.out.ext hb); unfold ndV lkV at h; exact h : Calls Tryz.prog 42 #[.agg #[.pointer (some ⟨fb, 0, none⟩), .int .i64 who, .int .i64 q.on, .int .i64 q.kn, .nilFunc, .int .i64 4], .agg #[.string ⟨xk.toArray⟩, .string ⟨xs.toArray⟩, .int .i64 xn, .slice xA xl.length xc]] wx (BPost E (evH d q (.mk xk xs xn xA xc xl) who) wx)))
    have hok := evH_ok hq d (.mk xk xs xn xA xc xl) who
    obtain ⟨rr, hrr⟩ : ∃ rr : Bool × Nat, rr = evH d q (.mk xk xs xn xA xc xl) who := ⟨_, rfl⟩
    rw [← hrr] at HC hok HE
    subst hA
    clear hrr hkd
    have hdr := ext_drewN W 1
    go_wp2_with fail
    go_region_held3 (fun w' => w'.cell? ⟨w.heap.size, 0, none⟩ = some (.pointer (some ⟨fb, 0, none⟩)) ∧ w'.cell? ⟨w.heap.size, 1, none⟩ = some (.int .i64 who) ∧ w'.cell? ⟨w.heap.size, 2, none⟩ = some (.int .i64 q.on) ∧ w'.cell? ⟨w.heap.size, 3, none⟩ = some (.int .i64 q.kn) ∧ w'.cell? ⟨w.heap.size, 4, none⟩ = some .nilFunc ∧ w'.cell? ⟨w.heap.size, 5, none⟩ = some (.int .i64 4) ∧ w'.cell? ⟨w.heap.size + 1, 3, none⟩ = some (.slice (some ⟨b', o', none⟩) 1 c) ∧ w'.cell? ⟨b', o', none⟩ = some (.string ⟨xk.toArray⟩) ∧ w'.cell? ⟨b', o' + 1, none⟩ = some (.string ⟨xs.toArray⟩) ∧ w'.cell? ⟨b', o' + 2, none⟩ = some (.int .i64 xn) ∧ w'.cell? ⟨b', o' + 3, none⟩ = some (.slice xA xl.length xc))
      ((first | exact ⟨a0, a1, a2, a3, a4, a5, m3, t0, t1, t2, t3⟩ | exact ⟨cell_ext hdr a0, cell_ext hdr a1, cell_ext hdr a2, cell_ext hdr a3, cell_ext hdr a4, cell_ext hdr a5, cell_ext hdr m3, cell_ext hdr t0, cell_ext hdr t1, cell_ext hdr t2, cell_ext hdr t3⟩ | exact ⟨cell_ext HBs.out a0, cell_ext HBs.out a1, cell_ext HBs.out a2, cell_ext HBs.out a3, cell_ext HBs.out a4, cell_ext HBs.out a5, cell_ext HBs.out m3, cell_ext HBs.out t0, cell_ext HBs.out t1, cell_ext HBs.out t2, cell_ext HBs.out t3⟩))
      ((go_at_call 42; refine (HC.out _ hdr).mono ?_; rintro e w2 ⟨rfl, hb⟩; have HBs := Lib.hid (ext_trans hdr hb); clear hb))
    have HB := Lib.hid HBs.out
    clear HC HBs hdr t0 t1 t2 t3 a0 a1 a2 a3 a4 a5 m0 m1 m2 m3
    rcases holds_cases E hok with ⟨e1, e2⟩ | ⟨e1, e3, a, e2⟩
    · rw [e2]
      have HE2 := Lib.hid (HE.out.trans (by rw [if_neg (by omega)]))
      obtain ⟨br, hbr⟩ : ∃ br, rr.1 = br := ⟨_, rfl⟩
      rw [hbr] at HE2 ⊢
      clear e1 e2 hok hbr
      cases br
      all_goals
        go_wp2_with fail
        go_ret2
        exact ⟨by rw [HE2.out]; rfl, ext_trans HX.out HB.out⟩
    · have HE2 := Lib.hid (HE.out.trans (by rw [if_pos e1]))
      have HEv := Lib.hid e2
      rw [e2, e3]
      clear e1 e2 e3 hok
      go_wp2_with fail
      go_ret2
      exact ⟨by rw [HE2.out, HEv.out] <;> rfl, ext_trans HX.out HB.out⟩
set_option maxRecDepth 100000 in
set_option maxHeartbeats 8000000 in
theorem holds_some {q : Ask} (hq : Okq q) (E : Nat → Addr) (fb : Nat) (who : Int) (X : Nat → Prop) (d : Nat) (IH : IHB q E fb X d) (k s : List UInt8) (n : Int) (A : Option Addr) (c : Nat) (xk xs : List UInt8) (xn : Int) (xA : Option Addr) (xc : Nat) (xl : List Nd) (hk : k = [115, 111, 109, 101]) (w : World) (hN : InW w X (d + 1) (.mk k s n A c [.mk xk xs xn xA xc xl])) (hLk : Lk E 149 q fb w) :
    Calls Tryz.prog 42 #[.agg #[.pointer (some ⟨fb, 0, none⟩), .int .i64 who, .int .i64 q.on, .int .i64 q.kn, .nilFunc, .int .i64 4], .agg #[.string ⟨k.toArray⟩, .string ⟨s.toArray⟩, .int .i64 n, .slice A 1 c]] w (BPost E (evH (d + 1) q (.mk k s n A c [.mk xk xs xn xA xc xl]) who) w) := by
    have HE := Lib.hid (show evH (d + 1) q (.mk k s n A c [.mk xk xs xn xA xc xl]) who = eachR q d false who s (.mk xk xs xn xA xc xl) by (conv => lhs; unfold evH); unfold eachR; rw [hk]; simp [kName, kNot, kSome, kEvery])
    have kb0 : (k == [111, 114]) = false := by rw [hk]; decide
    have kb1 : (k == [97, 110, 100]) = false := by rw [hk]; decide
    have kb2 : (k == [110, 111, 116]) = false := by rw [hk]; decide
    have kb3 : (k == [110, 97, 109, 101]) = false := by rw [hk]; decide
    have kb4 : (k == [115, 111, 109, 101]) = true := by rw [hk]; decide
    have kb5 : (k == [101, 118, 101, 114, 121]) = false := by rw [hk]; decide
    have kb6 : (k == [60]) = false := by rw [hk]; decide
    have kb7 : (k == [60, 61]) = false := by rw [hk]; decide
    have kb8 : (k == [61]) = false := by rw [hk]; decide
    have kb9 : (k == [60, 62]) = false := by rw [hk]; decide
    have kb10 : (k == [62, 61]) = false := by rw [hk]; decide
    have kb11 : (k == [62]) = false := by rw [hk]; decide
    have HIH := Lib.hid IH
    clear hk IH
    have HN := Lib.hid hN
    have HLk := Lib.hid hLk
    obtain ⟨W, hW, hx, hbk, hbn⟩ := boxed w fb who q.on q.kn k s n A c (1)
    have HX := Lib.hid hx
    have HBk := Lib.hid hbk
    have HBn := Lib.hid hbn
    have HNW := Lib.hid (hN.ext hx)
    have HL := Lib.hid (hLk.ext hx)
    have a0 := hbk.cell 0 rfl
    have a1 := hbk.cell 1 rfl
    have a2 := hbk.cell 2 rfl
    have a3 := hbk.cell 3 rfl
    have a4 := hbk.cell 4 rfl
    have a5 := hbk.cell 5 rfl
    have m0 := hbn.cell 0 rfl
    have m1 := hbn.cell 1 rfl
    have m2 := hbn.cell 2 rfl
    have m3 := hbn.cell 3 rfl
    clear hN hLk hx hbk hbn
    go_enter Tryz.func42, Tryz.ntmps42
    go_upto_region 1 with fail
    rw [show (w.alloc (.cells #[.pointer (some ⟨fb, 0, none⟩), .int .i64 who, .int .i64 q.on, .int .i64 q.kn, .nilFunc, .int .i64 4] 107)).alloc (.cells #[.string ⟨k.toArray⟩, .string ⟨s.toArray⟩, .int .i64 n, .slice A 1 c] 44) = W from hW.symm]
    clear hW
    have HC := Lib.hid (quant1 hq E fb who X d HIH.out k s n A c xk xs xn xA xc xl false kb5 W HNW.out HL.out)
    obtain ⟨rr, hrr⟩ : ∃ rr : Bool × Nat, rr = eachR q d false who s (.mk xk xs xn xA xc xl) := ⟨_, rfl⟩
    rw [← hrr] at HC HE
    clear hrr
    go_wp2_with fail
    refine HC.out.mono ?_
    rintro e w2 ⟨rfl, hb⟩
    have HB := Lib.hid hb
    clear hb HC
    obtain ⟨rb, rc⟩ := rr
    simp only
    obtain ⟨ev, hev⟩ : ∃ ev, ev = partE rc (sentV (E 2)) (sentV (E 8)) := ⟨_, rfl⟩
    rw [← hev]
    have HEv := Lib.hid hev
    clear hev
    go_wp2_with fail
    go_ret2
    exact ⟨by rw [HE.out, HEv.out] <;> rfl, ext_trans HX.out HB.out⟩
set_option maxRecDepth 100000 in
set_option maxHeartbeats 8000000 in
theorem holds_every {q : Ask} (hq : Okq q) (E : Nat → Addr) (fb : Nat) (who : Int) (X : Nat → Prop) (d : Nat) (IH : IHB q E fb X d) (k s : List UInt8) (n : Int) (A : Option Addr) (c : Nat) (xk xs : List UInt8) (xn : Int) (xA : Option Addr) (xc : Nat) (xl : List Nd) (hk : k = [101, 118, 101, 114, 121]) (w : World) (hN : InW w X (d + 1) (.mk k s n A c [.mk xk xs xn xA xc xl])) (hLk : Lk E 149 q fb w) :
    Calls Tryz.prog 42 #[.agg #[.pointer (some ⟨fb, 0, none⟩), .int .i64 who, .int .i64 q.on, .int .i64 q.kn, .nilFunc, .int .i64 4], .agg #[.string ⟨k.toArray⟩, .string ⟨s.toArray⟩, .int .i64 n, .slice A 1 c]] w (BPost E (evH (d + 1) q (.mk k s n A c [.mk xk xs xn xA xc xl]) who) w) := by
    have HE := Lib.hid (show evH (d + 1) q (.mk k s n A c [.mk xk xs xn xA xc xl]) who = eachR q d true who s (.mk xk xs xn xA xc xl) by (conv => lhs; unfold evH); unfold eachR; rw [hk]; simp [kName, kNot, kSome, kEvery])
    have kb0 : (k == [111, 114]) = false := by rw [hk]; decide
    have kb1 : (k == [97, 110, 100]) = false := by rw [hk]; decide
    have kb2 : (k == [110, 111, 116]) = false := by rw [hk]; decide
    have kb3 : (k == [110, 97, 109, 101]) = false := by rw [hk]; decide
    have kb4 : (k == [115, 111, 109, 101]) = false := by rw [hk]; decide
    have kb5 : (k == [101, 118, 101, 114, 121]) = true := by rw [hk]; decide
    have kb6 : (k == [60]) = false := by rw [hk]; decide
    have kb7 : (k == [60, 61]) = false := by rw [hk]; decide
    have kb8 : (k == [61]) = false := by rw [hk]; decide
    have kb9 : (k == [60, 62]) = false := by rw [hk]; decide
    have kb10 : (k == [62, 61]) = false := by rw [hk]; decide
    have kb11 : (k == [62]) = false := by rw [hk]; decide
    have HIH := Lib.hid IH
    clear hk IH
    have HN := Lib.hid hN
    have HLk := Lib.hid hLk
    obtain ⟨W, hW, hx, hbk, hbn⟩ := boxed w fb who q.on q.kn k s n A c (1)
    have HX := Lib.hid hx
    have HBk := Lib.hid hbk
    have HBn := Lib.hid hbn
    have HNW := Lib.hid (hN.ext hx)
    have HL := Lib.hid (hLk.ext hx)
    have a0 := hbk.cell 0 rfl
    have a1 := hbk.cell 1 rfl
    have a2 := hbk.cell 2 rfl
    have a3 := hbk.cell 3 rfl
    have a4 := hbk.cell 4 rfl
    have a5 := hbk.cell 5 rfl
    have m0 := hbn.cell 0 rfl
    have m1 := hbn.cell 1 rfl
    have m2 := hbn.cell 2 rfl
    have m3 := hbn.cell 3 rfl
    clear hN hLk hx hbk hbn
    go_enter Tryz.func42, Tryz.ntmps42
    go_upto_region 1 with fail
    rw [show (w.alloc (.cells #[.pointer (some ⟨fb, 0, none⟩), .int .i64 who, .int .i64 q.on, .int .i64 q.kn, .nilFunc, .int .i64 4] 107)).alloc (.cells #[.string ⟨k.toArray⟩, .string ⟨s.toArray⟩, .int .i64 n, .slice A 1 c] 44) = W from hW.symm]
    clear hW
    have HC := Lib.hid (quant1 hq E fb who X d HIH.out k s n A c xk xs xn xA xc xl true kb5 W HNW.out HL.out)
    obtain ⟨rr, hrr⟩ : ∃ rr : Bool × Nat, rr = eachR q d true who s (.mk xk xs xn xA xc xl) := ⟨_, rfl⟩
    rw [← hrr] at HC HE
    clear hrr
    go_wp2_with fail
    refine HC.out.mono ?_
    rintro e w2 ⟨rfl, hb⟩
    have HB := Lib.hid hb
    clear hb HC
    obtain ⟨rb, rc⟩ := rr
    simp only
    obtain ⟨ev, hev⟩ : ∃ ev, ev = partE rc (sentV (E 2)) (sentV (E 8)) := ⟨_, rfl⟩
    rw [← hev]
    have HEv := Lib.hid hev
    clear hev
    go_wp2_with fail
    go_ret2
    exact ⟨by rw [HE.out, HEv.out] <;> rfl, ext_trans HX.out HB.out⟩
set_option maxRecDepth 100000 in
set_option maxHeartbeats 8000000 in
theorem holds_or {q : Ask} (hq : Okq q) (E : Nat → Addr) (fb : Nat) (who : Int) (X : Nat → Prop) (d : Nat) (IH : IHB q E fb X d) (k s : List UInt8) (n : Int) (A : Option Addr) (c : Nat) (xk xs : List UInt8) (xn : Int) (xA : Option Addr) (xc : Nat) (xl : List Nd) (yk ys : List UInt8) (yn : Int) (yA : Option Addr) (yc : Nat) (yl : List Nd) (hk : k = [111, 114]) (w : World) (hN : InW w X (d + 1) (.mk k s n A c [.mk xk xs xn xA xc xl, .mk yk ys yn yA yc yl])) (hLk : Lk E 149 q fb w) :
    Calls Tryz.prog 42 #[.agg #[.pointer (some ⟨fb, 0, none⟩), .int .i64 who, .int .i64 q.on, .int .i64 q.kn, .nilFunc, .int .i64 4], .agg #[.string ⟨k.toArray⟩, .string ⟨s.toArray⟩, .int .i64 n, .slice A 2 c]] w (BPost E (evH (d + 1) q (.mk k s n A c [.mk xk xs xn xA xc xl, .mk yk ys yn yA yc yl]) who) w) := by
    have HE := Lib.hid (show evH (d + 1) q (.mk k s n A c [.mk xk xs xn xA xc xl, .mk yk ys yn yA yc yl]) who = twoH (fun a b => a || b) (evH d q (.mk xk xs xn xA xc xl) who) (evH d q (.mk yk ys yn yA yc yl) who) by (conv => lhs; unfold evH); rw [hk]; simp [kName, kNot, kSome, kEvery, kOr])
    have kb0 : (k == [111, 114]) = true := by rw [hk]; decide
    have kb1 : (k == [97, 110, 100]) = false := by rw [hk]; decide
    have kb2 : (k == [110, 111, 116]) = false := by rw [hk]; decide
    have kb3 : (k == [110, 97, 109, 101]) = false := by rw [hk]; decide
    have kb4 : (k == [115, 111, 109, 101]) = false := by rw [hk]; decide
    have kb5 : (k == [101, 118, 101, 114, 121]) = false := by rw [hk]; decide
    have kb6 : (k == [60]) = false := by rw [hk]; decide
    have kb7 : (k == [60, 61]) = false := by rw [hk]; decide
    have kb8 : (k == [61]) = false := by rw [hk]; decide
    have kb9 : (k == [60, 62]) = false := by rw [hk]; decide
    have kb10 : (k == [62, 61]) = false := by rw [hk]; decide
    have kb11 : (k == [62]) = false := by rw [hk]; decide
    have HIH := Lib.hid IH
    clear hk IH
    have HN := Lib.hid hN
    have HLk := Lib.hid hLk
    obtain ⟨W, hW, hx, hbk, hbn⟩ := boxed w fb who q.on q.kn k s n A c (2)
    have HX := Lib.hid hx
    have HBk := Lib.hid hbk
    have HBn := Lib.hid hbn
    have HNW := Lib.hid (hN.ext hx)
    have HL := Lib.hid (hLk.ext hx)
    have a0 := hbk.cell 0 rfl
    have a1 := hbk.cell 1 rfl
    have a2 := hbk.cell 2 rfl
    have a3 := hbk.cell 3 rfl
    have a4 := hbk.cell 4 rfl
    have a5 := hbk.cell 5 rfl
    have m0 := hbn.cell 0 rfl
    have m1 := hbn.cell 1 rfl
    have m2 := hbn.cell 2 rfl
    have m3 := hbn.cell 3 rfl
    clear hN hLk hx hbk hbn
    go_enter Tryz.func42, Tryz.ntmps42
    go_upto_region 1 with fail
    rw [show (w.alloc (.cells #[.pointer (some ⟨fb, 0, none⟩), .int .i64 who, .int .i64 q.on, .int .i64 q.kn, .nilFunc, .int .i64 4] 107)).alloc (.cells #[.string ⟨k.toArray⟩, .string ⟨s.toArray⟩, .int .i64 n, .slice A 2 c] 44) = W from hW.symm]
    clear hW
    obtain ⟨b', o', hA, t0, t1, t2, t3, hkd⟩ := HNW.out.kid (i := 0) (by simp)
    simp only [List.getElem_cons_zero, Nd.kind, Nd.word, Nd.n, Nd.A, Nd.c, Nd.kids, Nat.zero_mul, Nat.add_zero] at t0 t1 t2 t3
    have HC := Lib.hid (fun wx (hb : Below W.heap.size W wx) => (by have h := HIH.out (.mk xk xs xn xA xc xl) who wx (hkd.ext hb) (HL.out.ext hb); unfold ndV lkV at h; exact h : Calls Tryz.prog 42 #[.agg #[.pointer (some ⟨fb, 0, none⟩), .int .i64 who, .int .i64 q.on, .int .i64 q.kn, .nilFunc, .int .i64 4], .agg #[.string ⟨xk.toArray⟩, .string ⟨xs.toArray⟩, .int .i64 xn, .slice xA xl.length xc]] wx (BPost E (evH d q (.mk xk xs xn xA xc xl) who) wx)))
    have hok := evH_ok hq d (.mk xk xs xn xA xc xl) who
    obtain ⟨rr, hrr⟩ : ∃ rr : Bool × Nat, rr = evH d q (.mk xk xs xn xA xc xl) who := ⟨_, rfl⟩
    rw [← hrr] at HC hok HE
    subst hA
    clear hrr hkd
    have hdr := ext_drewN W 1
    go_wp2_with fail
    go_region_held3 (fun w' => w'.cell? ⟨w.heap.size, 0, none⟩ = some (.pointer (some ⟨fb, 0, none⟩)) ∧ w'.cell? ⟨w.heap.size, 1, none⟩ = some (.int .i64 who) ∧ w'.cell? ⟨w.heap.size, 2, none⟩ = some (.int .i64 q.on) ∧ w'.cell? ⟨w.heap.size, 3, none⟩ = some (.int .i64 q.kn) ∧ w'.cell? ⟨w.heap.size, 4, none⟩ = some .nilFunc ∧ w'.cell? ⟨w.heap.size, 5, none⟩ = some (.int .i64 4) ∧ w'.cell? ⟨w.heap.size + 1, 3, none⟩ = some (.slice (some ⟨b', o', none⟩) 2 c) ∧ w'.cell? ⟨b', o', none⟩ = some (.string ⟨xk.toArray⟩) ∧ w'.cell? ⟨b', o' + 1, none⟩ = some (.string ⟨xs.toArray⟩) ∧ w'.cell? ⟨b', o' + 2, none⟩ = some (.int .i64 xn) ∧ w'.cell? ⟨b', o' + 3, none⟩ = some (.slice xA xl.length xc))
      ((first | exact ⟨a0, a1, a2, a3, a4, a5, m3, t0, t1, t2, t3⟩ | exact ⟨cell_ext hdr a0, cell_ext hdr a1, cell_ext hdr a2, cell_ext hdr a3, cell_ext hdr a4, cell_ext hdr a5, cell_ext hdr m3, cell_ext hdr t0, cell_ext hdr t1, cell_ext hdr t2, cell_ext hdr t3⟩ | exact ⟨cell_ext HBs.out a0, cell_ext HBs.out a1, cell_ext HBs.out a2, cell_ext HBs.out a3, cell_ext HBs.out a4, cell_ext HBs.out a5, cell_ext HBs.out m3, cell_ext HBs.out t0, cell_ext HBs.out t1, cell_ext HBs.out t2, cell_ext HBs.out t3⟩))
      ((go_at_call 42; refine (HC.out _ hdr).mono ?_; rintro e w2 ⟨rfl, hb⟩; have HBs := Lib.hid (ext_trans hdr hb); clear hb))
    have HB := Lib.hid HBs.out
    have HLw := Lib.hid (HL.out.ext HB.out)
    clear HC HBs hdr t0 t1 t2 t3 a0 a1 a2 a3 a4 a5 m0 m1 m2 m3
    rcases holds_cases E hok with ⟨e1, e2⟩ | ⟨e1, e3, a, e2⟩
    rotate_left
    · have HE2 := Lib.hid (HE.out.trans (show twoH (fun a b => a || b) rr (evH d q (.mk yk ys yn yA yc yl) who) = (false, rr.2) by unfold twoH; rw [if_pos e1]))
      have HEv := Lib.hid e2
      rw [e2, e3]
      clear e1 e2 e3 hok
      go_wp2_with fail
      go_ret2
      exact ⟨by rw [HE2.out, HEv.out] <;> rfl, ext_trans HX.out HB.out⟩
    rw [e2]
    have HR0 := Lib.hid e1
    obtain ⟨b1, hb1⟩ : ∃ b1, rr.1 = b1 := ⟨_, rfl⟩
    rw [hb1]
    have HB1 := Lib.hid hb1
    clear e1 e2 hok hb1
    obtain ⟨b', o', hA2, t0, t1, t2, t3, hkd⟩ := (HNW.out.ext HB.out).kid (i := 1) (by simp)
    simp only [List.getElem_cons_zero, List.getElem_cons_succ, Nd.kind, Nd.word, Nd.n, Nd.A, Nd.c, Nd.kids, Nat.one_mul] at t0 t1 t2 t3
    cases hA2
    have HC := Lib.hid (fun wx (hb : Below w2.heap.size w2 wx) => (by have h := HIH.out (.mk yk ys yn yA yc yl) who wx (hkd.ext hb) (HLw.out.ext hb); unfold ndV lkV at h; exact h : Calls Tryz.prog 42 #[.agg #[.pointer (some ⟨fb, 0, none⟩), .int .i64 who, .int .i64 q.on, .int .i64 q.kn, .nilFunc, .int .i64 4], .agg #[.string ⟨yk.toArray⟩, .string ⟨ys.toArray⟩, .int .i64 yn, .slice yA yl.length yc]] wx (BPost E (evH d q (.mk yk ys yn yA yc yl) who) wx)))
    have hok := evH_ok hq d (.mk yk ys yn yA yc yl) who
    obtain ⟨r2, hrr⟩ : ∃ r2 : Bool × Nat, r2 = evH d q (.mk yk ys yn yA yc yl) who := ⟨_, rfl⟩
    rw [← hrr] at HC hok HE
    clear hrr hkd
    have p0 := cell_ext HB.out (HBk.out.cell 0 rfl)
    have p1 := cell_ext HB.out (HBk.out.cell 1 rfl)
    have p2 := cell_ext HB.out (HBk.out.cell 2 rfl)
    have p3 := cell_ext HB.out (HBk.out.cell 3 rfl)
    have p4 := cell_ext HB.out (HBk.out.cell 4 rfl)
    have p5 := cell_ext HB.out (HBk.out.cell 5 rfl)
    have v0 := cell_ext HB.out (HBn.out.cell 0 rfl)
    have v1 := cell_ext HB.out (HBn.out.cell 1 rfl)
    have v2 := cell_ext HB.out (HBn.out.cell 2 rfl)
    have v3 := cell_ext HB.out (HBn.out.cell 3 rfl)
    have hdr := ext_drewN w2 1
    go_wp2_with fail
    go_region_held3 (fun w' => w'.cell? ⟨w.heap.size, 0, none⟩ = some (.pointer (some ⟨fb, 0, none⟩)) ∧ w'.cell? ⟨w.heap.size, 1, none⟩ = some (.int .i64 who) ∧ w'.cell? ⟨w.heap.size, 2, none⟩ = some (.int .i64 q.on) ∧ w'.cell? ⟨w.heap.size, 3, none⟩ = some (.int .i64 q.kn) ∧ w'.cell? ⟨w.heap.size, 4, none⟩ = some .nilFunc ∧ w'.cell? ⟨w.heap.size, 5, none⟩ = some (.int .i64 4) ∧ w'.cell? ⟨w.heap.size + 1, 3, none⟩ = some (.slice (some ⟨b', o', none⟩) 2 c) ∧ w'.cell? ⟨b', o' + 4, none⟩ = some (.string ⟨yk.toArray⟩) ∧ w'.cell? ⟨b', o' + 5, none⟩ = some (.string ⟨ys.toArray⟩) ∧ w'.cell? ⟨b', o' + 6, none⟩ = some (.int .i64 yn) ∧ w'.cell? ⟨b', o' + 7, none⟩ = some (.slice yA yl.length yc))
      ((first | exact ⟨p0, p1, p2, p3, p4, p5, v3, t0, t1, t2, t3⟩ | exact ⟨cell_ext hdr p0, cell_ext hdr p1, cell_ext hdr p2, cell_ext hdr p3, cell_ext hdr p4, cell_ext hdr p5, cell_ext hdr v3, cell_ext hdr t0, cell_ext hdr t1, cell_ext hdr t2, cell_ext hdr t3⟩ | exact ⟨cell_ext HBs.out p0, cell_ext HBs.out p1, cell_ext HBs.out p2, cell_ext HBs.out p3, cell_ext HBs.out p4, cell_ext HBs.out p5, cell_ext HBs.out v3, cell_ext HBs.out t0, cell_ext HBs.out t1, cell_ext HBs.out t2, cell_ext HBs.out t3⟩))
      ((go_at_call 42; refine (HC.out _ hdr).mono ?_; rintro e w3 ⟨rfl, hb⟩; have HBs := Lib.hid (ext_trans hdr hb); clear hb))
    have HB3 := Lib.hid (ext_trans HB.out HBs.out)
    clear HC HBs hdr t0 t1 t2 t3 p0 p1 p2 p3 p4 p5 v0 v1 v2 v3
    rcases holds_cases E hok with ⟨e1, e2⟩ | ⟨e1, e3, a, e2⟩
    rotate_left
    · have HE2 := Lib.hid (HE.out.trans (show twoH (fun a b => a || b) rr r2 = (false, r2.2) by unfold twoH; rw [if_neg (by have := HR0.out; omega), if_pos e1]))
      have HEv := Lib.hid e2
      rw [e2, e3]
      clear e1 e2 e3 hok
      go_wp2_with fail
      go_ret2
      exact ⟨by rw [HE2.out, HEv.out] <;> rfl, ext_trans HX.out HB3.out⟩
    rw [e2]
    have HE2 := Lib.hid (HE.out.trans (show twoH (fun a b => a || b) rr r2 = (rr.1 || r2.1, 0) by unfold twoH; rw [if_neg (by have := HR0.out; omega), if_neg (by omega)]))
    rw [HB1.out] at HE2
    obtain ⟨b2, hb2⟩ : ∃ b2, r2.1 = b2 := ⟨_, rfl⟩
    rw [hb2] at HE2 ⊢
    clear e1 e2 hok hb2 HB1 HE
    have v0 := cell_ext HB3.out (HBn.out.cell 0 rfl)
    cases b1 <;> cases b2
    all_goals
      go_wp2_with fail
      go_ret2
      exact ⟨by rw [HE2.out]; rfl, ext_trans HX.out HB3.out⟩
set_option maxRecDepth 100000 in
set_option maxHeartbeats 8000000 in
theorem holds_and {q : Ask} (hq : Okq q) (E : Nat → Addr) (fb : Nat) (who : Int) (X : Nat → Prop) (d : Nat) (IH : IHB q E fb X d) (k s : List UInt8) (n : Int) (A : Option Addr) (c : Nat) (xk xs : List UInt8) (xn : Int) (xA : Option Addr) (xc : Nat) (xl : List Nd) (yk ys : List UInt8) (yn : Int) (yA : Option Addr) (yc : Nat) (yl : List Nd) (hk : k = [97, 110, 100]) (w : World) (hN : InW w X (d + 1) (.mk k s n A c [.mk xk xs xn xA xc xl, .mk yk ys yn yA yc yl])) (hLk : Lk E 149 q fb w) :
    Calls Tryz.prog 42 #[.agg #[.pointer (some ⟨fb, 0, none⟩), .int .i64 who, .int .i64 q.on, .int .i64 q.kn, .nilFunc, .int .i64 4], .agg #[.string ⟨k.toArray⟩, .string ⟨s.toArray⟩, .int .i64 n, .slice A 2 c]] w (BPost E (evH (d + 1) q (.mk k s n A c [.mk xk xs xn xA xc xl, .mk yk ys yn yA yc yl]) who) w) := by
    have HE := Lib.hid (show evH (d + 1) q (.mk k s n A c [.mk xk xs xn xA xc xl, .mk yk ys yn yA yc yl]) who = twoH (fun a b => a && b) (evH d q (.mk xk xs xn xA xc xl) who) (evH d q (.mk yk ys yn yA yc yl) who) by (conv => lhs; unfold evH); rw [hk]; simp [kName, kNot, kSome, kEvery, kOr, kAnd])
    have kb0 : (k == [111, 114]) = false := by rw [hk]; decide
    have kb1 : (k == [97, 110, 100]) = true := by rw [hk]; decide
    have kb2 : (k == [110, 111, 116]) = false := by rw [hk]; decide
    have kb3 : (k == [110, 97, 109, 101]) = false := by rw [hk]; decide
    have kb4 : (k == [115, 111, 109, 101]) = false := by rw [hk]; decide
    have kb5 : (k == [101, 118, 101, 114, 121]) = false := by rw [hk]; decide
    have kb6 : (k == [60]) = false := by rw [hk]; decide
    have kb7 : (k == [60, 61]) = false := by rw [hk]; decide
    have kb8 : (k == [61]) = false := by rw [hk]; decide
    have kb9 : (k == [60, 62]) = false := by rw [hk]; decide
    have kb10 : (k == [62, 61]) = false := by rw [hk]; decide
    have kb11 : (k == [62]) = false := by rw [hk]; decide
    have HIH := Lib.hid IH
    clear hk IH
    have HN := Lib.hid hN
    have HLk := Lib.hid hLk
    obtain ⟨W, hW, hx, hbk, hbn⟩ := boxed w fb who q.on q.kn k s n A c (2)
    have HX := Lib.hid hx
    have HBk := Lib.hid hbk
    have HBn := Lib.hid hbn
    have HNW := Lib.hid (hN.ext hx)
    have HL := Lib.hid (hLk.ext hx)
    have a0 := hbk.cell 0 rfl
    have a1 := hbk.cell 1 rfl
    have a2 := hbk.cell 2 rfl
    have a3 := hbk.cell 3 rfl
    have a4 := hbk.cell 4 rfl
    have a5 := hbk.cell 5 rfl
    have m0 := hbn.cell 0 rfl
    have m1 := hbn.cell 1 rfl
    have m2 := hbn.cell 2 rfl
    have m3 := hbn.cell 3 rfl
    clear hN hLk hx hbk hbn
    go_enter Tryz.func42, Tryz.ntmps42
    go_upto_region 1 with fail
    rw [show (w.alloc (.cells #[.pointer (some ⟨fb, 0, none⟩), .int .i64 who, .int .i64 q.on, .int .i64 q.kn, .nilFunc, .int .i64 4] 107)).alloc (.cells #[.string ⟨k.toArray⟩, .string ⟨s.toArray⟩, .int .i64 n, .slice A 2 c] 44) = W from hW.symm]
    clear hW
    obtain ⟨b', o', hA, t0, t1, t2, t3, hkd⟩ := HNW.out.kid (i := 0) (by simp)
    simp only [List.getElem_cons_zero, Nd.kind, Nd.word, Nd.n, Nd.A, Nd.c, Nd.kids, Nat.zero_mul, Nat.add_zero] at t0 t1 t2 t3
    have HC := Lib.hid (fun wx (hb : Below W.heap.size W wx) => (by have h := HIH.out (.mk xk xs xn xA xc xl) who wx (hkd.ext hb) (HL.out.ext hb); unfold ndV lkV at h; exact h : Calls Tryz.prog 42 #[.agg #[.pointer (some ⟨fb, 0, none⟩), .int .i64 who, .int .i64 q.on, .int .i64 q.kn, .nilFunc, .int .i64 4], .agg #[.string ⟨xk.toArray⟩, .string ⟨xs.toArray⟩, .int .i64 xn, .slice xA xl.length xc]] wx (BPost E (evH d q (.mk xk xs xn xA xc xl) who) wx)))
    have hok := evH_ok hq d (.mk xk xs xn xA xc xl) who
    obtain ⟨rr, hrr⟩ : ∃ rr : Bool × Nat, rr = evH d q (.mk xk xs xn xA xc xl) who := ⟨_, rfl⟩
    rw [← hrr] at HC hok HE
    subst hA
    clear hrr hkd
    have hdr := ext_drewN W 1
    go_wp2_with fail
    go_region_held3 (fun w' => w'.cell? ⟨w.heap.size, 0, none⟩ = some (.pointer (some ⟨fb, 0, none⟩)) ∧ w'.cell? ⟨w.heap.size, 1, none⟩ = some (.int .i64 who) ∧ w'.cell? ⟨w.heap.size, 2, none⟩ = some (.int .i64 q.on) ∧ w'.cell? ⟨w.heap.size, 3, none⟩ = some (.int .i64 q.kn) ∧ w'.cell? ⟨w.heap.size, 4, none⟩ = some .nilFunc ∧ w'.cell? ⟨w.heap.size, 5, none⟩ = some (.int .i64 4) ∧ w'.cell? ⟨w.heap.size + 1, 3, none⟩ = some (.slice (some ⟨b', o', none⟩) 2 c) ∧ w'.cell? ⟨b', o', none⟩ = some (.string ⟨xk.toArray⟩) ∧ w'.cell? ⟨b', o' + 1, none⟩ = some (.string ⟨xs.toArray⟩) ∧ w'.cell? ⟨b', o' + 2, none⟩ = some (.int .i64 xn) ∧ w'.cell? ⟨b', o' + 3, none⟩ = some (.slice xA xl.length xc))
      ((first | exact ⟨a0, a1, a2, a3, a4, a5, m3, t0, t1, t2, t3⟩ | exact ⟨cell_ext hdr a0, cell_ext hdr a1, cell_ext hdr a2, cell_ext hdr a3, cell_ext hdr a4, cell_ext hdr a5, cell_ext hdr m3, cell_ext hdr t0, cell_ext hdr t1, cell_ext hdr t2, cell_ext hdr t3⟩ | exact ⟨cell_ext HBs.out a0, cell_ext HBs.out a1, cell_ext HBs.out a2, cell_ext HBs.out a3, cell_ext HBs.out a4, cell_ext HBs.out a5, cell_ext HBs.out m3, cell_ext HBs.out t0, cell_ext HBs.out t1, cell_ext HBs.out t2, cell_ext HBs.out t3⟩))
      ((go_at_call 42; refine (HC.out _ hdr).mono ?_; rintro e w2 ⟨rfl, hb⟩; have HBs := Lib.hid (ext_trans hdr hb); clear hb))
    have HB := Lib.hid HBs.out
    have HLw := Lib.hid (HL.out.ext HB.out)
    clear HC HBs hdr t0 t1 t2 t3 a0 a1 a2 a3 a4 a5 m0 m1 m2 m3
    rcases holds_cases E hok with ⟨e1, e2⟩ | ⟨e1, e3, a, e2⟩
    rotate_left
    · have HE2 := Lib.hid (HE.out.trans (show twoH (fun a b => a && b) rr (evH d q (.mk yk ys yn yA yc yl) who) = (false, rr.2) by unfold twoH; rw [if_pos e1]))
      have HEv := Lib.hid e2
      rw [e2, e3]
      clear e1 e2 e3 hok
      go_wp2_with fail
      go_ret2
      exact ⟨by rw [HE2.out, HEv.out] <;> rfl, ext_trans HX.out HB.out⟩
    rw [e2]
    have HR0 := Lib.hid e1
    obtain ⟨b1, hb1⟩ : ∃ b1, rr.1 = b1 := ⟨_, rfl⟩
    rw [hb1]
    have HB1 := Lib.hid hb1
    clear e1 e2 hok hb1
    obtain ⟨b', o', hA2, t0, t1, t2, t3, hkd⟩ := (HNW.out.ext HB.out).kid (i := 1) (by simp)
    simp only [List.getElem_cons_zero, List.getElem_cons_succ, Nd.kind, Nd.word, Nd.n, Nd.A, Nd.c, Nd.kids, Nat.one_mul] at t0 t1 t2 t3
    cases hA2
    have HC := Lib.hid (fun wx (hb : Below w2.heap.size w2 wx) => (by have h := HIH.out (.mk yk ys yn yA yc yl) who wx (hkd.ext hb) (HLw.out.ext hb); unfold ndV lkV at h; exact h : Calls Tryz.prog 42 #[.agg #[.pointer (some ⟨fb, 0, none⟩), .int .i64 who, .int .i64 q.on, .int .i64 q.kn, .nilFunc, .int .i64 4], .agg #[.string ⟨yk.toArray⟩, .string ⟨ys.toArray⟩, .int .i64 yn, .slice yA yl.length yc]] wx (BPost E (evH d q (.mk yk ys yn yA yc yl) who) wx)))
    have hok := evH_ok hq d (.mk yk ys yn yA yc yl) who
    obtain ⟨r2, hrr⟩ : ∃ r2 : Bool × Nat, r2 = evH d q (.mk yk ys yn yA yc yl) who := ⟨_, rfl⟩
    rw [← hrr] at HC hok HE
    clear hrr hkd
    have p0 := cell_ext HB.out (HBk.out.cell 0 rfl)
    have p1 := cell_ext HB.out (HBk.out.cell 1 rfl)
    have p2 := cell_ext HB.out (HBk.out.cell 2 rfl)
    have p3 := cell_ext HB.out (HBk.out.cell 3 rfl)
    have p4 := cell_ext HB.out (HBk.out.cell 4 rfl)
    have p5 := cell_ext HB.out (HBk.out.cell 5 rfl)
    have v0 := cell_ext HB.out (HBn.out.cell 0 rfl)
    have v1 := cell_ext HB.out (HBn.out.cell 1 rfl)
    have v2 := cell_ext HB.out (HBn.out.cell 2 rfl)
    have v3 := cell_ext HB.out (HBn.out.cell 3 rfl)
    have hdr := ext_drewN w2 1
    go_wp2_with fail
    go_region_held3 (fun w' => w'.cell? ⟨w.heap.size, 0, none⟩ = some (.pointer (some ⟨fb, 0, none⟩)) ∧ w'.cell? ⟨w.heap.size, 1, none⟩ = some (.int .i64 who) ∧ w'.cell? ⟨w.heap.size, 2, none⟩ = some (.int .i64 q.on) ∧ w'.cell? ⟨w.heap.size, 3, none⟩ = some (.int .i64 q.kn) ∧ w'.cell? ⟨w.heap.size, 4, none⟩ = some .nilFunc ∧ w'.cell? ⟨w.heap.size, 5, none⟩ = some (.int .i64 4) ∧ w'.cell? ⟨w.heap.size + 1, 3, none⟩ = some (.slice (some ⟨b', o', none⟩) 2 c) ∧ w'.cell? ⟨b', o' + 4, none⟩ = some (.string ⟨yk.toArray⟩) ∧ w'.cell? ⟨b', o' + 5, none⟩ = some (.string ⟨ys.toArray⟩) ∧ w'.cell? ⟨b', o' + 6, none⟩ = some (.int .i64 yn) ∧ w'.cell? ⟨b', o' + 7, none⟩ = some (.slice yA yl.length yc))
      ((first | exact ⟨p0, p1, p2, p3, p4, p5, v3, t0, t1, t2, t3⟩ | exact ⟨cell_ext hdr p0, cell_ext hdr p1, cell_ext hdr p2, cell_ext hdr p3, cell_ext hdr p4, cell_ext hdr p5, cell_ext hdr v3, cell_ext hdr t0, cell_ext hdr t1, cell_ext hdr t2, cell_ext hdr t3⟩ | exact ⟨cell_ext HBs.out p0, cell_ext HBs.out p1, cell_ext HBs.out p2, cell_ext HBs.out p3, cell_ext HBs.out p4, cell_ext HBs.out p5, cell_ext HBs.out v3, cell_ext HBs.out t0, cell_ext HBs.out t1, cell_ext HBs.out t2, cell_ext HBs.out t3⟩))
      ((go_at_call 42; refine (HC.out _ hdr).mono ?_; rintro e w3 ⟨rfl, hb⟩; have HBs := Lib.hid (ext_trans hdr hb); clear hb))
    have HB3 := Lib.hid (ext_trans HB.out HBs.out)
    clear HC HBs hdr t0 t1 t2 t3 p0 p1 p2 p3 p4 p5 v0 v1 v2 v3
    rcases holds_cases E hok with ⟨e1, e2⟩ | ⟨e1, e3, a, e2⟩
    rotate_left
    · have HE2 := Lib.hid (HE.out.trans (show twoH (fun a b => a && b) rr r2 = (false, r2.2) by unfold twoH; rw [if_neg (by have := HR0.out; omega), if_pos e1]))
      have HEv := Lib.hid e2
      rw [e2, e3]
      clear e1 e2 e3 hok
      go_wp2_with fail
      go_ret2
      exact ⟨by rw [HE2.out, HEv.out] <;> rfl, ext_trans HX.out HB3.out⟩
    rw [e2]
    have HE2 := Lib.hid (HE.out.trans (show twoH (fun a b => a && b) rr r2 = (rr.1 && r2.1, 0) by unfold twoH; rw [if_neg (by have := HR0.out; omega), if_neg (by omega)]))
    rw [HB1.out] at HE2
    obtain ⟨b2, hb2⟩ : ∃ b2, r2.1 = b2 := ⟨_, rfl⟩
    rw [hb2] at HE2 ⊢
    clear e1 e2 hok hb2 HB1 HE
    have v0 := cell_ext HB3.out (HBn.out.cell 0 rfl)
    cases b1 <;> cases b2
    all_goals
      go_wp2_with fail
      go_ret2
      exact ⟨by rw [HE2.out]; rfl, ext_trans HX.out HB3.out⟩
set_option maxRecDepth 100000 in
set_option maxHeartbeats 8000000 in
theorem holds_cmp {q : Ask} (hq : Okq q) (E : Nat → Addr) (fb : Nat) (who : Int) (X : Nat → Prop) (d : Nat) (k s : List UInt8) (n : Int) (A : Option Addr) (c : Nat) (xk xs : List UInt8) (xn : Int) (xA : Option Addr) (xc : Nat) (xl : List Nd) (yk ys : List UInt8) (yn : Int) (yA : Option Addr) (yc : Nat) (yl : List Nd) (f : Int → Int → Bool) (hf : cmpF k = some f) (w : World) (hN : InW w X (d + 1) (.mk k s n A c [.mk xk xs xn xA xc xl, .mk yk ys yn yA yc yl])) (hLk : Lk E 149 q fb w) :
    Calls Tryz.prog 42 #[.agg #[.pointer (some ⟨fb, 0, none⟩), .int .i64 who, .int .i64 q.on, .int .i64 q.kn, .nilFunc, .int .i64 4], .agg #[.string ⟨k.toArray⟩, .string ⟨s.toArray⟩, .int .i64 n, .slice A 2 c]] w (BPost E (evH (d + 1) q (.mk k s n A c [.mk xk xs xn xA xc xl, .mk yk ys yn yA yc yl]) who) w) := by
    obtain ⟨kb0, kb1, kb2, kb3, kb4, kb5, HE, HKs⟩ : (k == [111, 114]) = false ∧ (k == [97, 110, 100]) = false ∧ (k == [110, 111, 116]) = false ∧ (k == [110, 97, 109, 101]) = false ∧ (k == [115, 111, 109, 101]) = false ∧ (k == [101, 118, 101, 114, 121]) = false ∧ Hid (evH (d + 1) q (.mk k s n A c [.mk xk xs xn xA xc xl, .mk yk ys yn yA yc yl]) who = twoB f (evS d q (.mk xk xs xn xA xc xl) who) (evS d q (.mk yk ys yn yA yc yl) who)) ∧ Hid (k = [60] ∨ k = [60, 61] ∨ k = [61] ∨ k = [60, 62] ∨ k = [62, 61] ∨ k = [62]) := by
      have h := hf
      unfold cmpF at h
      by_cases hk : k = [60]
      · rw [if_pos hk] at h
        have e := Option.some.inj h
        refine ⟨by rw [hk]; decide, by rw [hk]; decide, by rw [hk]; decide, by rw [hk]; decide, by rw [hk]; decide, by rw [hk]; decide, Lib.hid ?_, Lib.hid (by simp [hk])⟩
        rw [← e]
        (conv => lhs; unfold evH)
        rw [hk]
        simp [kName, kNot, kSome, kEvery, kOr, kAnd]
      rw [if_neg hk] at h
      clear hk
      by_cases hk : k = [60, 61]
      · rw [if_pos hk] at h
        have e := Option.some.inj h
        refine ⟨by rw [hk]; decide, by rw [hk]; decide, by rw [hk]; decide, by rw [hk]; decide, by rw [hk]; decide, by rw [hk]; decide, Lib.hid ?_, Lib.hid (by simp [hk])⟩
        rw [← e]
        (conv => lhs; unfold evH)
        rw [hk]
        simp [kName, kNot, kSome, kEvery, kOr, kAnd]
      rw [if_neg hk] at h
      clear hk
      by_cases hk : k = [61]
      · rw [if_pos hk] at h
        have e := Option.some.inj h
        refine ⟨by rw [hk]; decide, by rw [hk]; decide, by rw [hk]; decide, by rw [hk]; decide, by rw [hk]; decide, by rw [hk]; decide, Lib.hid ?_, Lib.hid (by simp [hk])⟩
        rw [← e]
        (conv => lhs; unfold evH)
        rw [hk]
        simp [kName, kNot, kSome, kEvery, kOr, kAnd]
      rw [if_neg hk] at h
      clear hk
      by_cases hk : k = [60, 62]
      · rw [if_pos hk] at h
        have e := Option.some.inj h
        refine ⟨by rw [hk]; decide, by rw [hk]; decide, by rw [hk]; decide, by rw [hk]; decide, by rw [hk]; decide, by rw [hk]; decide, Lib.hid ?_, Lib.hid (by simp [hk])⟩
        rw [← e]
        (conv => lhs; unfold evH)
        rw [hk]
        simp [kName, kNot, kSome, kEvery, kOr, kAnd]
      rw [if_neg hk] at h
      clear hk
      by_cases hk : k = [62, 61]
      · rw [if_pos hk] at h
        have e := Option.some.inj h
        refine ⟨by rw [hk]; decide, by rw [hk]; decide, by rw [hk]; decide, by rw [hk]; decide, by rw [hk]; decide, by rw [hk]; decide, Lib.hid ?_, Lib.hid (by simp [hk])⟩
        rw [← e]
        (conv => lhs; unfold evH)
        rw [hk]
        simp [kName, kNot, kSome, kEvery, kOr, kAnd]
      rw [if_neg hk] at h
      clear hk
      by_cases hk : k = [62]
      · rw [if_pos hk] at h
        have e := Option.some.inj h
        refine ⟨by rw [hk]; decide, by rw [hk]; decide, by rw [hk]; decide, by rw [hk]; decide, by rw [hk]; decide, by rw [hk]; decide, Lib.hid ?_, Lib.hid (by simp [hk])⟩
        rw [← e]
        (conv => lhs; unfold evH)
        rw [hk]
        simp [kName, kNot, kSome, kEvery, kOr, kAnd]
      rw [if_neg hk] at h
      clear hk
      cases h
    have HF := Lib.hid hf
    clear hf
    have HN := Lib.hid hN
    have HLk := Lib.hid hLk
    obtain ⟨W, hW, hx, hbk, hbn⟩ := boxed w fb who q.on q.kn k s n A c (2)
    have HX := Lib.hid hx
    have HBk := Lib.hid hbk
    have HBn := Lib.hid hbn
    have HNW := Lib.hid (hN.ext hx)
    have HL := Lib.hid (hLk.ext hx)
    have a0 := hbk.cell 0 rfl
    have a1 := hbk.cell 1 rfl
    have a2 := hbk.cell 2 rfl
    have a3 := hbk.cell 3 rfl
    have a4 := hbk.cell 4 rfl
    have a5 := hbk.cell 5 rfl
    have m0 := hbn.cell 0 rfl
    have m1 := hbn.cell 1 rfl
    have m2 := hbn.cell 2 rfl
    have m3 := hbn.cell 3 rfl
    clear hN hLk hx hbk hbn
    go_enter Tryz.func42, Tryz.ntmps42
    go_upto_region 1 with fail
    rw [show (w.alloc (.cells #[.pointer (some ⟨fb, 0, none⟩), .int .i64 who, .int .i64 q.on, .int .i64 q.kn, .nilFunc, .int .i64 4] 107)).alloc (.cells #[.string ⟨k.toArray⟩, .string ⟨s.toArray⟩, .int .i64 n, .slice A 2 c] 44) = W from hW.symm]
    clear hW
    obtain ⟨rx, hrx⟩ : ∃ rx : Int × Nat, rx = evS d q (.mk xk xs xn xA xc xl) who := ⟨_, rfl⟩
    obtain ⟨ry, hry⟩ : ∃ ry : Int × Nat, ry = evS d q (.mk yk ys yn yA yc yl) who := ⟨_, rfl⟩
    have HC := Lib.hid (compared2 hq E fb who X d k s n A c xk xs xn xA xc xl yk ys yn yA yc yl f HF.out rx ry hrx hry W HNW.out HL.out)
    rw [← hrx, ← hry] at HE
    clear hrx hry
    obtain ⟨rr, hrr⟩ : ∃ rr : Bool × Nat, rr = twoB f rx ry := ⟨_, rfl⟩
    rw [← hrr] at HC HE
    clear hrr
    obtain ⟨rb, rc⟩ := rr
    unfold BPost at HC
    simp only at HC
    rcases HKs.out with hk | hk | hk | hk | hk | hk
    · have kb6 : (k == [60]) = true := by rw [hk]; decide
      have kb7 : (k == [60, 61]) = false := by rw [hk]; decide
      have kb8 : (k == [61]) = false := by rw [hk]; decide
      have kb9 : (k == [60, 62]) = false := by rw [hk]; decide
      have kb10 : (k == [62, 61]) = false := by rw [hk]; decide
      have kb11 : (k == [62]) = false := by rw [hk]; decide
      clear hk
      go_wp2_with fail
      refine HC.out.mono ?_
      rintro e w2 ⟨rfl, hb⟩
      have HB := Lib.hid hb
      clear hb HC
      obtain ⟨ev, hev⟩ : ∃ ev, ev = partE rc (sentV (E 2)) (sentV (E 8)) := ⟨_, rfl⟩
      rw [← hev]
      have HEv := Lib.hid hev
      clear hev
      go_wp2_with fail
      go_ret2
      exact ⟨by rw [HE.out, HEv.out] <;> rfl, ext_trans HX.out HB.out⟩
    · have kb6 : (k == [60]) = false := by rw [hk]; decide
      have kb7 : (k == [60, 61]) = true := by rw [hk]; decide
      have kb8 : (k == [61]) = false := by rw [hk]; decide
      have kb9 : (k == [60, 62]) = false := by rw [hk]; decide
      have kb10 : (k == [62, 61]) = false := by rw [hk]; decide
      have kb11 : (k == [62]) = false := by rw [hk]; decide
      clear hk
      go_wp2_with fail
      refine HC.out.mono ?_
      rintro e w2 ⟨rfl, hb⟩
      have HB := Lib.hid hb
      clear hb HC
      obtain ⟨ev, hev⟩ : ∃ ev, ev = partE rc (sentV (E 2)) (sentV (E 8)) := ⟨_, rfl⟩
      rw [← hev]
      have HEv := Lib.hid hev
      clear hev
      go_wp2_with fail
      go_ret2
      exact ⟨by rw [HE.out, HEv.out] <;> rfl, ext_trans HX.out HB.out⟩
    · have kb6 : (k == [60]) = false := by rw [hk]; decide
      have kb7 : (k == [60, 61]) = false := by rw [hk]; decide
      have kb8 : (k == [61]) = true := by rw [hk]; decide
      have kb9 : (k == [60, 62]) = false := by rw [hk]; decide
      have kb10 : (k == [62, 61]) = false := by rw [hk]; decide
      have kb11 : (k == [62]) = false := by rw [hk]; decide
      clear hk
      go_wp2_with fail
      refine HC.out.mono ?_
      rintro e w2 ⟨rfl, hb⟩
      have HB := Lib.hid hb
      clear hb HC
      obtain ⟨ev, hev⟩ : ∃ ev, ev = partE rc (sentV (E 2)) (sentV (E 8)) := ⟨_, rfl⟩
      rw [← hev]
      have HEv := Lib.hid hev
      clear hev
      go_wp2_with fail
      go_ret2
      exact ⟨by rw [HE.out, HEv.out] <;> rfl, ext_trans HX.out HB.out⟩
    · have kb6 : (k == [60]) = false := by rw [hk]; decide
      have kb7 : (k == [60, 61]) = false := by rw [hk]; decide
      have kb8 : (k == [61]) = false := by rw [hk]; decide
      have kb9 : (k == [60, 62]) = true := by rw [hk]; decide
      have kb10 : (k == [62, 61]) = false := by rw [hk]; decide
      have kb11 : (k == [62]) = false := by rw [hk]; decide
      clear hk
      go_wp2_with fail
      refine HC.out.mono ?_
      rintro e w2 ⟨rfl, hb⟩
      have HB := Lib.hid hb
      clear hb HC
      obtain ⟨ev, hev⟩ : ∃ ev, ev = partE rc (sentV (E 2)) (sentV (E 8)) := ⟨_, rfl⟩
      rw [← hev]
      have HEv := Lib.hid hev
      clear hev
      go_wp2_with fail
      go_ret2
      exact ⟨by rw [HE.out, HEv.out] <;> rfl, ext_trans HX.out HB.out⟩
    · have kb6 : (k == [60]) = false := by rw [hk]; decide
      have kb7 : (k == [60, 61]) = false := by rw [hk]; decide
      have kb8 : (k == [61]) = false := by rw [hk]; decide
      have kb9 : (k == [60, 62]) = false := by rw [hk]; decide
      have kb10 : (k == [62, 61]) = true := by rw [hk]; decide
      have kb11 : (k == [62]) = false := by rw [hk]; decide
      clear hk
      go_wp2_with fail
      refine HC.out.mono ?_
      rintro e w2 ⟨rfl, hb⟩
      have HB := Lib.hid hb
      clear hb HC
      obtain ⟨ev, hev⟩ : ∃ ev, ev = partE rc (sentV (E 2)) (sentV (E 8)) := ⟨_, rfl⟩
      rw [← hev]
      have HEv := Lib.hid hev
      clear hev
      go_wp2_with fail
      go_ret2
      exact ⟨by rw [HE.out, HEv.out] <;> rfl, ext_trans HX.out HB.out⟩
    · have kb6 : (k == [60]) = false := by rw [hk]; decide
      have kb7 : (k == [60, 61]) = false := by rw [hk]; decide
      have kb8 : (k == [61]) = false := by rw [hk]; decide
      have kb9 : (k == [60, 62]) = false := by rw [hk]; decide
      have kb10 : (k == [62, 61]) = false := by rw [hk]; decide
      have kb11 : (k == [62]) = true := by rw [hk]; decide
      clear hk
      go_wp2_with fail
      refine HC.out.mono ?_
      rintro e w2 ⟨rfl, hb⟩
      have HB := Lib.hid hb
      clear hb HC
      obtain ⟨ev, hev⟩ : ∃ ev, ev = partE rc (sentV (E 2)) (sentV (E 8)) := ⟨_, rfl⟩
      rw [← hev]
      have HEv := Lib.hid hev
      clear hev
      go_wp2_with fail
      go_ret2
      exact ⟨by rw [HE.out, HEv.out] <;> rfl, ext_trans HX.out HB.out⟩
theorem want_which {k : List UInt8} {v : Nat} (h : wantH k = some v) : (v = 0 ∧ k = [110, 97, 109, 101]) ∨ (v = 1 ∧ (k = [110, 111, 116] ∨ k = [115, 111, 109, 101] ∨ k = [101, 118, 101, 114, 121])) ∨ (v = 2 ∧ (k = [111, 114] ∨ k = [97, 110, 100] ∨ ∃ f, cmpF k = some f)) := by
  unfold wantH at h
  by_cases hk : k = [111, 114]
  · rw [if_pos hk] at h
    exact .inr (.inr ⟨(Option.some.inj h).symm, .inl hk⟩)
  rw [if_neg hk] at h
  clear hk
  by_cases hk : k = [97, 110, 100]
  · rw [if_pos hk] at h
    exact .inr (.inr ⟨(Option.some.inj h).symm, .inr (.inl hk)⟩)
  rw [if_neg hk] at h
  clear hk
  by_cases hk : k = [110, 111, 116]
  · rw [if_pos hk] at h
    exact .inr (.inl ⟨(Option.some.inj h).symm, .inl hk⟩)
  rw [if_neg hk] at h
  clear hk
  by_cases hk : k = [110, 97, 109, 101]
  · rw [if_pos hk] at h
    exact .inl ⟨(Option.some.inj h).symm, hk⟩
  rw [if_neg hk] at h
  clear hk
  by_cases hk : k = [115, 111, 109, 101]
  · rw [if_pos hk] at h
    exact .inr (.inl ⟨(Option.some.inj h).symm, .inr (.inl hk)⟩)
  rw [if_neg hk] at h
  clear hk
  by_cases hk : k = [101, 118, 101, 114, 121]
  · rw [if_pos hk] at h
    exact .inr (.inl ⟨(Option.some.inj h).symm, .inr (.inr hk)⟩)
  rw [if_neg hk] at h
  clear hk
  by_cases hk : k = [60]
  · rw [if_pos hk] at h
    exact .inr (.inr ⟨(Option.some.inj h).symm, .inr (.inr ⟨fun a b => decide (a < b), by rw [hk]; rfl⟩)⟩)
  rw [if_neg hk] at h
  clear hk
  by_cases hk : k = [60, 61]
  · rw [if_pos hk] at h
    exact .inr (.inr ⟨(Option.some.inj h).symm, .inr (.inr ⟨fun a b => decide (a ≤ b), by rw [hk]; rfl⟩)⟩)
  rw [if_neg hk] at h
  clear hk
  by_cases hk : k = [61]
  · rw [if_pos hk] at h
    exact .inr (.inr ⟨(Option.some.inj h).symm, .inr (.inr ⟨fun a b => decide (a = b), by rw [hk]; rfl⟩)⟩)
  rw [if_neg hk] at h
  clear hk
  by_cases hk : k = [60, 62]
  · rw [if_pos hk] at h
    exact .inr (.inr ⟨(Option.some.inj h).symm, .inr (.inr ⟨fun a b => decide (a ≠ b), by rw [hk]; rfl⟩)⟩)
  rw [if_neg hk] at h
  clear hk
  by_cases hk : k = [62, 61]
  · rw [if_pos hk] at h
    exact .inr (.inr ⟨(Option.some.inj h).symm, .inr (.inr ⟨fun a b => decide (b ≤ a), by rw [hk]; rfl⟩)⟩)
  rw [if_neg hk] at h
  clear hk
  by_cases hk : k = [62]
  · rw [if_pos hk] at h
    exact .inr (.inr ⟨(Option.some.inj h).symm, .inr (.inr ⟨fun a b => decide (b < a), by rw [hk]; rfl⟩)⟩)
  rw [if_neg hk] at h
  clear hk
  cases h
theorem pholds_any {q : Ask} (hq : Okq q) (E : Nat → Addr) (fb : Nat) (X : Nat → Prop) : ∀ d, IHB q E fb X d
  | 0 => fun _ _ _ h _ => h.elim
  | d + 1 => fun x who w hN hLk => by
    have IH := pholds_any hq E fb X d
    obtain ⟨k, s, n, A, c, l⟩ := x
    by_cases hb : wantH k = some l.length
    · match l, hN, hb with
      | [], hN, hb =>
        rcases want_which hb with ⟨_, h⟩ | ⟨h0, _⟩ | ⟨h0, _⟩
        · exact holds_name hq E fb who X d k s n A c h w hN hLk
        · simp at h0
        · simp at h0
      | [.mk xk xs xn xA xc xl], hN, hb =>
        rcases want_which hb with ⟨h0, _⟩ | ⟨_, h | h | h⟩ | ⟨h0, _⟩
        · simp at h0
        · exact holds_not hq E fb who X d IH k s n A c xk xs xn xA xc xl h w hN hLk
        · exact holds_some hq E fb who X d IH k s n A c xk xs xn xA xc xl h w hN hLk
        · exact holds_every hq E fb who X d IH k s n A c xk xs xn xA xc xl h w hN hLk
        · simp at h0
      | [.mk xk xs xn xA xc xl, .mk yk ys yn yA yc yl], hN, hb =>
        rcases want_which hb with ⟨h0, _⟩ | ⟨h0, _⟩ | ⟨_, h1 | h2 | ⟨f, hf⟩⟩
        · simp at h0
        · simp at h0
        · exact holds_or hq E fb who X d IH k s n A c xk xs xn xA xc xl yk ys yn yA yc yl h1 w hN hLk
        · exact holds_and hq E fb who X d IH k s n A c xk xs xn xA xc xl yk ys yn yA yc yl h2 w hN hLk
        · exact holds_cmp hq E fb who X d k s n A c xk xs xn xA xc xl yk ys yn yA yc yl f hf w hN hLk
      | _ :: _ :: _ :: t, _, hb =>
        rcases want_which hb with ⟨h0, _⟩ | ⟨h0, _⟩ | ⟨h0, _⟩ <;> (simp at h0; try omega)
    · rw [evH_bad hb]
      exact holds_bad hq E fb who X d k s n A c l l.length rfl hb w hN hLk
end Go.Proofs.YtnchlnfenebomaaGreatDoor.Hd

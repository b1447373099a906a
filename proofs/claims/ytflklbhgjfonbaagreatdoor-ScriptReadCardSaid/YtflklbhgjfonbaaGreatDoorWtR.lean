/- A text's rows: the program's and the document's. -/
import Derived.Test.YtflklbhgjfonbaaGreatDoorWtP
import Derived.Test.YtflklbhgjfonbaaGreatDoorNest
import Derived.Test.YtflklbhgjfonbaaGreatDoorShelf
import Derived.Lib.ConvBytes
namespace Go.Proofs.YtflklbhgjfonbaaGreatDoor.Wt
open Go.RowKit Mem Nest

def strV (g : List UInt8) : Value := .string ⟨g.toArray⟩
theorem mk_toList (x : ByteArray) : (⟨x.data.toList.toArray⟩ : ByteArray) = x := by cases x; simp
theorem ba_len (l : List UInt8) : (ByteArray.mk l.toArray).size = l.length := rfl
theorem ba_cut (l : List UInt8) (i j : Nat) : (ByteArray.mk l.toArray).extract i j = ⟨((l.drop i).take (j - i)).toArray⟩ := by
  apply ByteArray.ext
  simp [List.extract_eq_take_drop]
theorem ba_cat (r l : List UInt8) : (ByteArray.mk r.toArray ++ ByteArray.mk l.toArray : ByteArray) = ⟨(r ++ l).toArray⟩ := by
  apply ByteArray.ext
  simp
theorem ba_one (nw s : List UInt8) {i : Nat} (h : i < s.length) : (ByteArray.mk nw.toArray ++ (ByteArray.mk s.toArray).extract i (i + 1) : ByteArray) = ⟨(nw ++ [s[i]]).toArray⟩ := by
  rw [ba_cut, ba_cat, Nat.add_sub_cancel_left, List.drop_eq_getElem_cons h]
  rfl
def SplitPost (d : UInt8) (t : List UInt8) (w : World) (e : Ending) (w' : World) : Prop :=
  e = .returned (.slice (some ⟨w.heap.size, 0, none⟩) (pcs d t).length (pcs d t).length) ∧ w' = w.alloc (.cells ((pcs d t).map strV).toArray 9)
theorem split_any (d : UInt8) (t : List UInt8) (m : Int) (w : World) (hl : t.length ≤ 30000) (hm : w.cell? ⟨14, 0, none⟩ = some (.int .i64 m)) :
    Calls Tryz.prog 41 #[.string ⟨t.toArray⟩, .string ⟨#[d]⟩] w (SplitPost d t w) := by
  have h := Tryz.strings_Split ⟨t.toArray⟩ ⟨#[d]⟩ m w (by rw [ba_len]; omega) hm (Nat.le_refl 1)
  have e1 : (Lib.splitB ⟨#[d]⟩ 0 (Lib.countB ⟨t.toArray⟩ ⟨#[d]⟩) ⟨t.toArray⟩).map (·.data.toList) = pcs d t := by
    rw [Lib.splitB_data]
    exact split_pcs d t
  have e2 := Lib.splitB_all ⟨#[d]⟩ (Nat.lt_succ_self 0) 0 (Lib.countB ⟨t.toArray⟩ ⟨#[d]⟩) ⟨t.toArray⟩ rfl
  obtain ⟨xs, hx⟩ : ∃ xs, xs = Lib.splitB ⟨#[d]⟩ 0 (Lib.countB ⟨t.toArray⟩ ⟨#[d]⟩) ⟨t.toArray⟩ := ⟨_, rfl⟩
  rw [← hx] at e1 e2 h
  have e3 : (pcs d t).length = xs.length := by rw [← e1, List.length_map]
  have e4 : (pcs d t).map strV = xs.map Value.string := by
    rw [← e1, List.map_map]
    refine List.map_congr_left fun x _ => ?_
    show Value.string ⟨x.data.toList.toArray⟩ = _
    rw [mk_toList]
  refine h.mono fun e w' ⟨he, hw⟩ => ⟨?_, ?_⟩
  · rw [he, e3, e2]
  · rw [hw, e4]
def RowsPost (s : List UInt8) (w : World) (e : Ending) (w' : World) : Prop := ∃ (A : Option Addr) (c : Nat), e = .returned (.slice A (rowsF s).length c) ∧ Rd w' A ((rowsF s).map strV) ∧ Below w.heap.size w w'
theorem rd_new (w : World) (l : List Value) (t : TypeId) : Rd (w.alloc (.cells l.toArray t)) (some ⟨w.heap.size, 0, none⟩) l := fun j u hj =>
  ⟨w.heap.size, 0, rfl, by rw [Nat.zero_add]; exact (Blk.new w t l).cell j hj⟩
theorem trim_len (s : List UInt8) : (Lib.trimSuffix s [10]).length ≤ s.length := by
  unfold Lib.trimSuffix
  split
  · rw [List.length_take]; omega
  · omega
set_option maxHeartbeats 1000000 in
theorem prows_any (s : List UInt8) (hl : s.length ≤ 30000) (m : Int) (w : World) (hm : w.cell? ⟨14, 0, none⟩ = some (.int .i64 m)) :
    Calls Tryz.prog 17 #[.string ⟨s.toArray⟩] w (RowsPost s w) := by
  have HM := Lib.hid hm
  clear hm
  by_cases hs : s = []
  · subst hs
    go_enter Tryz.func17, Tryz.ntmps17
    go_wp2_with fail
    go_ret
    exact ⟨none, 0, rfl, Rd.nil, Below.refl _ _⟩
  · have he : s.isEmpty = false := by cases s with
      | nil => exact absurd rfl hs
      | cons _ _ => rfl
    have HS := Lib.hid hs
    clear hs
    go_enter Tryz.func17, Tryz.ntmps17
    go_wp2_with fail
    refine (Tryz.strings_TrimSuffix ⟨s.toArray⟩ ⟨#[10]⟩ _ (by rw [ba_len]; omega)).mono ?_
    rintro e w1 ⟨rfl, rfl⟩
    go_wp2_with fail
    refine (split_any 10 (Lib.trimSuffix s [10]) m _ (Nat.le_trans (trim_len s) hl) HM.out).mono ?_
    rintro e w2 ⟨rfl, rfl⟩
    go_wp2_with fail
    go_ret
    have h := rows_prog s HS.out
    rw [h]
    exact ⟨_, _, rfl, rd_new _ _ _, ext_alloc _ _⟩
theorem str_info : (Tryz.prog.info? 9).map (fun i => (i.zero, i.size, i.bytes)) = some (some (.string ByteArray.empty), 1, 16) := by kernel_rfl
set_option maxRecDepth 20000 in
set_option maxHeartbeats 1000000 in
theorem rrows_any (s : List UInt8) (hl : s.length ≤ 30000) (w : World) :
    Calls Tryz.prog 24 #[.string ⟨s.toArray⟩] w (RowsPost s w) := by
  obtain ⟨i0, hi, hz0, hz1, hz2⟩ := info_parts str_info
  have HI := Lib.hid hi
  have HZ0 := Lib.hid hz0
  have HZ1 := Lib.hid hz1
  have HZ2 := Lib.hid hz2
  clear hi hz0 hz1 hz2
  go_enter Tryz.func24, Tryz.ntmps24
  go_wp2_with fail
  go_loopw [3, 4, 5] (fun t3 t4 t5 wr => ∃ (i : Nat) (out : List (List UInt8)) (nw : List UInt8), t5 = .int .i64 i ∧ t4 = .string ⟨nw.toArray⟩ ∧ i ≤ s.length ∧ out.length ≤ i ∧ nw.length ≤ i ∧ Hid (rowsF s = out ++ jh nw (rowsF (s.drop i))) ∧ Hid (nw = [] → i = 0 ∨ s[i - 1]? = some 10) ∧ Hid (Below w.heap.size w wr) ∧ Hid (wr.ownsRow w.heap.size 9 1 t3 out.length (out.map strV))) (fun _ _ t5 _ => s.length - (intOf t5).toNat)
  case atStart => exact ⟨0, [], [], rfl, rfl, Nat.zero_le _, Nat.le_refl _, Nat.le_refl _, (by show rowsF s = [] ++ jh [] (rowsF (s.drop 0)); rw [jh_nil]; rfl), fun _ => .inl rfl, Below.refl _ _, World.ownsRow_nil _ _ _ _⟩
  case round =>
    obtain ⟨i, out, nw, rfl, rfl, hi, hol, hnl, HR, HN, HB, HO⟩ := hrel
    by_cases hlt : i < s.length
    · have hltc : (i : Int) < (s.length : Int) := by omega
      have hsz : i < (ByteArray.mk s.toArray).size := hlt
      obtain ⟨c, hc⟩ : ∃ c : Int, (((ByteArray.mk s.toArray)[i]'hsz).toNat : Int) = c := ⟨_, rfl⟩
      have HC := Lib.hid (show (s[i].toNat : Int) = c from hc)
      have HD := Lib.hid (List.drop_eq_getElem_cons hlt)
      by_cases h10 : c = 10
      · have hq : (c == 10) = true := by simp [h10]
        have HV := Lib.hid (show s[i] = 10 from UInt8.toNat.inj (by have := HC.out; simp; omega))
        clear h10
        go_wp2_with (at_builtin; refine wpList_append_own _ rfl _ _ _ rfl w.heap.size 9 i0 _ 1 16 Tryz.underlying23 HI.out HZ0.out HZ1.out HZ2.out rfl (by omega) u3 out.length _ rfl (World.ownsRow.alloc HO.out _) ⟨wr.heap.size, 0, none⟩ 1 1 [strV nw] rfl rfl (new_cells wr [strV nw] _ _ rfl) (by intro u hu; simp only [List.mem_cons, List.not_mem_nil, or_false] at hu; subst hu; rfl) (by simp only [maxLen]; omega) (by omega) (Nat.le_trans HB.out.size (by simp)) ?_; intro v1 w2 hown1 hg1 _; have HO2 := Lib.hid hown1; have HB2 := Lib.hid (grown_ext (HB.out.trans ((ext_alloc wr _).mono HB.out.size)) rfl (World.ownsRow.alloc HO.out _) hg1); clear hown1 hg1)
        go_roundw
        case rel =>
          refine ⟨i + 1, out ++ [nw], [], by go_num, rfl, by omega, by simp; omega, by simp, ?_, fun _ => .inr (by rw [Nat.add_sub_cancel, List.getElem?_eq_getElem hlt, HV.out]), HB2.out, ?_⟩
          · have h := HR.out
            rw [HD.out, HV.out, jh_sep] at h
            show rowsF s = _
            rw [h]
            simp
          · have ho := HO2.out
            show World.ownsRow _ _ _ _ _ _ _
            simpa using ho
        case measure => simp [intOf]; omega
      · have hq : (c == 10) = false := by simp [h10]
        obtain ⟨a, ha⟩ : ∃ a : Nat, (i : Int) + 1 = (a : Int) := ⟨i + 1, by omega⟩
        have HA := Lib.hid (show a = i + 1 by omega)
        have hia : (i : Int) ≤ (a : Int) := by omega
        have hal : (a : Int) ≤ (s.length : Int) := by omega
        have hmin : min a s.length = a := by omega
        have hx1 : ¬ 9223372036854775807 < nw.length + (a - i) := by omega
        have hx2 : ¬ 9223372036854775807 < nw.length + (min a s.length - i) := by omega
        have HV := Lib.hid (show s[i] ≠ 10 from fun e => h10 (by have := HC.out; rw [e] at this; simp at this; omega))
        clear h10
        go_wp2_with fail
        go_roundw
        case rel =>
          have ha2 := HA.out
          refine ⟨a, out, nw ++ [s[i]], by go_num, congrArg Value.string (by subst ha2; exact ba_one nw s hlt), by omega, by omega, by simp; omega, ?_, fun h => by simp at h, HB.out, HO.out⟩
          have h := HR.out
          rw [HD.out, jh_in _ _ _ HV.out] at h
          rw [ha2]
          exact h
        case measure => simp [intOf]; omega
    · obtain rfl : s.length = i := by omega
      have hlc : ¬ (s.length : Int) < (s.length : Int) := by omega
      have HR1 : Hid (rowsF s = out ++ jh nw []) := Lib.hid (by have h := HR.out; rw [List.drop_length] at h; exact h)
      clear HR
      by_cases hn : nw = []
      · subst hn
        have HE := Lib.hid (show rowsF s = out by have h := HR1.out; simpa [jh] using h)
        clear HR1
        obtain ⟨A, c, rfl, _⟩ := own_slice HO.out
        have fin : RowsPost s w (.returned (.slice A out.length c)) wr := ⟨A, c, by rw [HE.out], by rw [HE.out]; exact Rd.of_own HO.out, HB.out⟩
        have HF := Lib.hid fin
        clear fin
        by_cases h0 : s.length = 0
        · have h0c : ¬ (0 : Int) < (s.length : Int) := by omega
          go_wp2_with fail
          go_ret
          exact HF.out
        · have h0c : (0 : Int) < (s.length : Int) := by omega
          obtain ⟨x, hx⟩ : ∃ x : Nat, (s.length : Int) - 1 = (x : Int) := ⟨s.length - 1, by omega⟩
          have hxl : x < s.length := by omega
          have hxc : (x : Int) < (s.length : Int) := by omega
          have hsz : x < (ByteArray.mk s.toArray).size := hxl
          obtain ⟨c', hc⟩ : ∃ c : Int, (((ByteArray.mk s.toArray)[x]'hsz).toNat : Int) = c := ⟨_, rfl⟩
          have h10 : c' = 10 := by
            have : s[x] = 10 := by
              rcases HN.out rfl with h | h
              · omega
              · rw [show s.length - 1 = x by omega, List.getElem?_eq_getElem hxl] at h
                exact Option.some.inj h
            have h2 : (s[x].toNat : Int) = c' := hc
            rw [this] at h2
            simp at h2
            omega
          have hq : (c' == 10) = true := by simp [h10]
          clear h10
          go_wp2_with fail
          go_ret
          exact HF.out
      · have hne : nw.isEmpty = false := by cases nw with
          | nil => exact absurd rfl hn
          | cons _ _ => rfl
        have HE := Lib.hid (show rowsF s = out ++ [nw] by have h := HR1.out; simpa [jh, hn] using h)
        clear HR1 hn
        go_wp2_with (at_builtin; refine wpList_append_own _ rfl _ _ _ rfl w.heap.size 9 i0 _ 1 16 Tryz.underlying23 HI.out HZ0.out HZ1.out HZ2.out rfl (by omega) u3 out.length _ rfl (World.ownsRow.alloc HO.out _) ⟨wr.heap.size, 0, none⟩ 1 1 [strV nw] rfl rfl (new_cells wr [strV nw] _ _ rfl) (by intro u hu; simp only [List.mem_cons, List.not_mem_nil, or_false] at hu; subst hu; rfl) (by simp only [maxLen]; omega) (by omega) (Nat.le_trans HB.out.size (by simp)) ?_; intro v1 w2 hown1 hg1 _; obtain ⟨A1, c1, rfl, _⟩ := own_slice hown1; have HO2 := Lib.hid hown1; have HB2 := Lib.hid (grown_ext (HB.out.trans ((ext_alloc wr _).mono HB.out.size)) rfl (World.ownsRow.alloc HO.out _) hg1); clear hown1 hg1)
        go_ret
        have ho : w2.ownsRow w.heap.size 9 1 (.slice A1 (out.length + 1) c1) (out.length + 1) ((out ++ [nw]).map strV) := by
          have ho := HO2.out
          simpa using ho
        exact ⟨A1, c1, by rw [HE.out]; simp, by rw [HE.out]; exact Rd.of_own ho, HB2.out⟩
end Go.Proofs.YtflklbhgjfonbaaGreatDoor.Wt

/- Facts: the two files of a list of facts; a file's size, its k-th fact. -/
import Derived.Test.YtnchlnfenebomaaGreatDoorFkA
import Derived.Test.YtnchlnfenebomaaGreatDoorCoded1
namespace Go.Proofs.YtnchlnfenebomaaGreatDoor.Fk
open Go.RowKit Mem Nest Err App

/-- the facts that are kept -/
def keepF (l : List Fa) : List Fa := l.foldl (fun acc x => if codeF acc.length x = 0 then acc ++ [x] else acc) []
theorem keep_snoc (l : List Fa) (x : Fa) : keepF (l ++ [x]) = if codeF (keepF l).length x = 0 then keepF l ++ [x] else keepF l := by
  unfold keepF
  rw [List.foldl_append]
  rfl
theorem code_room {n : Nat} {x : Fa} (h : codeF n x = 0) : n < 500 := by
  unfold codeF at h
  split at h
  · simp at h
  · omega
theorem keep_len : ∀ (n : Nat) (l : List Fa), l.length = n → (keepF l).length ≤ 500
  | 0, l, h => by
    obtain rfl := List.length_eq_zero_iff.1 h
    simp [keepF]
  | n + 1, l, h => by
    obtain ⟨t, x, rfl⟩ : ∃ t x, l = t ++ [x] := by
      rcases List.eq_nil_or_concat l with e | ⟨t, x, e⟩
      · subst e; simp at h
      · exact ⟨t, x, by rw [e, List.concat_eq_append]⟩
    have ih := keep_len n t (by simpa using h)
    rw [keep_snoc]
    split
    · rename_i hc
      have := code_room hc
      simp
      omega
    · exact ih
theorem code_kind {n : Nat} {x : Fa} (h : codeF n x = 0) : kindB x = true := by
  unfold codeF at h
  split at h
  · simp at h
  · split at h
    · simp at h
    · split at h
      · simp at h
      · rename_i hk
        simpa using hk
theorem keep_code : ∀ (n : Nat) (l : List Fa), l.length = n → ∀ y ∈ keepF l, y ∈ l ∧ ∃ k, codeF k y = 0
  | 0, l, h => by
    obtain rfl := List.length_eq_zero_iff.1 h
    simp [keepF]
  | n + 1, l, h => by
    obtain ⟨t, x, rfl⟩ : ∃ t x, l = t ++ [x] := by
      rcases List.eq_nil_or_concat l with e | ⟨t, x, e⟩
      · subst e; simp at h
      · exact ⟨t, x, by rw [e, List.concat_eq_append]⟩
    have ih := keep_code n t (by simpa using h)
    intro y hy
    rw [keep_snoc] at hy
    split at hy
    · rename_i hc
      rcases List.mem_append.1 hy with hy | hy
      · obtain ⟨h1, h2⟩ := ih y hy
        exact ⟨by simp [h1], h2⟩
      · rw [List.mem_singleton] at hy
        subst hy
        exact ⟨by simp, _, hc⟩
    · obtain ⟨h1, h2⟩ := ih y hy
      exact ⟨by simp [h1], h2⟩
theorem keep_kept (l : List Fa) : Kept (keepF l) := by
  intro y hy
  obtain ⟨_, k, hk⟩ := keep_code _ l rfl y hy
  have h := code_kind hk
  unfold kindB bodyB at h
  simp only [Bool.and_eq_true, Bool.or_eq_true, decide_eq_true_eq, beq_iff_eq] at h
  obtain ⟨⟨h1, h2⟩, h3⟩ := h
  refine ⟨h1, h2, ?_⟩
  rcases h3 with h3 | ⟨⟨_, h3⟩, _⟩ <;> omega
theorem keep_name {l : List Fa} (hn : ∀ x ∈ l, x.name.length ≤ 100) : ∀ x ∈ keepF l, x.name.length ≤ 100 := fun x hx => hn x (keep_code _ l rfl x hx).1
theorem fact_at {w : World} {A : Option Addr} {l : List Fa} (h : Rd w A (l.flatMap faC)) {k : Nat} (hk : k < l.length) :
    ∃ b o, A = some ⟨b, o, none⟩ ∧ w.cell? ⟨b, o + k * 7, none⟩ = some (.int .i64 l[k].who) ∧ w.cell? ⟨b, o + k * 7 + 1, none⟩ = some (.string ⟨l[k].name.toArray⟩) ∧ w.cell? ⟨b, o + k * 7 + 2, none⟩ = some (.int .i64 l[k].other) ∧ w.cell? ⟨b, o + k * 7 + 3, none⟩ = some (.int .i64 l[k].value) ∧ w.cell? ⟨b, o + k * 7 + 4, none⟩ = some (.int .i64 l[k].from_) ∧ w.cell? ⟨b, o + k * 7 + 5, none⟩ = some (.int .i64 l[k].to_) ∧ w.cell? ⟨b, o + k * 7 + 6, none⟩ = some (.int .i64 l[k].learnt) := by
  obtain ⟨b, o, e, hc⟩ := h.row faC_len hk (by omega)
  exact ⟨b, o, e, by simpa using hc 0 _ rfl, by simpa [Nat.add_assoc] using hc 1 _ rfl, by simpa [Nat.add_assoc] using hc 2 _ rfl, by simpa [Nat.add_assoc] using hc 3 _ rfl, by simpa [Nat.add_assoc] using hc 4 _ rfl, by simpa [Nat.add_assoc] using hc 5 _ rfl, by simpa [Nat.add_assoc] using hc 6 _ rfl⟩
/-- a file that is only read -/
def FR (TF : TypeId) (w : World) (b : Nat) (A : Option Addr) (c : Nat) (l : List Fa) : Prop := Blk w b TF [.slice A l.length c] ∧ Rd w A (l.flatMap faC)
theorem FR.ext {TF : TypeId} {w w' : World} {b : Nat} {A : Option Addr} {c : Nat} {l : List Fa} (h : FR TF w b A c l) (hb : Below w.heap.size w w') : FR TF w' b A c l := ⟨h.1.ext (hb.mono (show b + 1 ≤ _ from h.1.lt)), h.2.ext hb⟩
theorem FileP.fr {TF T : TypeId} {w : World} {base b : Nat} {l : List Fa} (h : FileP TF T w base b l) : ∃ A c, FR TF w b A c l := by
  obtain ⟨v, _, h1, h2⟩ := h
  obtain ⟨A, c, rfl, _⟩ := own_slice h2
  exact ⟨A, c, h1, Rd.of_own h2⟩
set_option maxHeartbeats 400000 in
theorem lfact_any (x : Fa) (w : World) :
    Calls Tryz.prog 37 #[.agg (faC x).toArray] w fun e w' => e = .returned (.agg (faC x).toArray) ∧ Below w.heap.size w w' := by
  unfold faC
  go_enter Tryz.func37, Tryz.ntmps37
  go_wp2_with fail
  refine bodyPost_ret (v := .agg (faC x).toArray) (by simp [results, Tryz.results37, go_sem, faC]) rfl ⟨rfl, ext_trans (ext_alloc _ _) (ext_alloc _ _)⟩
theorem new_any (w : World) : Calls Tryz.prog 35 #[] w fun e w' => e = .returned (.pointer (some ⟨w.heap.size, 0, none⟩)) ∧ w' = w.alloc (.cells #[.slice none 0 0] 149) := by
  go_enter Tryz.func35, Tryz.ntmps35
  go_wp2_with fail
  go_ret
  exact ⟨rfl, rfl⟩
def FilesPost (l : List Fa) (w : World) (e : Ending) (w' : World) : Prop :=
  ∃ a b, e = .returned (.tuple #[.pointer (some ⟨a, 0, none⟩), .pointer (some ⟨b, 0, none⟩), .bool true]) ∧ FileP 149 102 w' w.heap.size a (keepF l) ∧ FileP 100 96 w' w.heap.size b (keepF l) ∧ Below w.heap.size w w'
theorem FileP.new (TF T : TypeId) (base : Nat) (w : World) (h : base ≤ w.heap.size) : FileP TF T (w.alloc (.cells #[.slice none 0 0] TF)) base w.heap.size [] := ⟨.slice none 0 0, h, Blk.new w TF [.slice none 0 0], World.ownsRow_nil _ _ _ _⟩
theorem take_keep {l : List Fa} {i : Nat} (h : i < l.length) : keepF (l.take (i + 1)) = if codeF (keepF (l.take i)).length l[i] = 0 then keepF (l.take i) ++ [l[i]] else keepF (l.take i) := by
  rw [List.take_succ_eq_append_getElem h, keep_snoc]
theorem padd_ext {l : List Fa} {x : Fa} {A : Nat → Addr} {base b : Nat} {w w' : World} {e : Ending} (h : PAdd l x A base b w e w') (hb : base ≤ w.heap.size) : Below base w w' := by
  rcases h with ⟨_, _, _, h, _⟩ | ⟨_, _, _, _, h⟩
  · exact h
  · exact h.mono hb
set_option maxRecDepth 20000 in
set_option maxHeartbeats 4000000 in
theorem files_any (l : List Fa) (hl : l.length ≤ 502) (hn : ∀ x ∈ l, x.name.length ≤ 100) (LA : Option Addr) (lc : Nat) (A : Nat → Addr) (w : World) (hE : Errs w A) (hL : Rd w LA (l.flatMap faC)) :
    Calls Tryz.prog 7 #[.slice LA l.length lc] w (FilesPost l w) := by
  have HE := Lib.hid hE
  have HL := Lib.hid hL
  have HNm := Lib.hid hn
  have fa := FileP.new 149 102 w.heap.size w (Nat.le_refl _)
  have hx1 := ext_alloc w (.cells #[.slice none 0 0] 149)
  obtain ⟨a, ha⟩ : ∃ a, a = w.heap.size := ⟨_, rfl⟩
  obtain ⟨W1, hW1⟩ : ∃ W1, W1 = w.alloc (.cells #[.slice none 0 0] 149) := ⟨_, rfl⟩
  have hs1 : W1.heap.size = a + 1 := by rw [hW1, ha]; simp
  rw [← hW1] at fa hx1
  have fb := FileP.new 100 96 w.heap.size W1 hx1.size
  have hx2 := ext_alloc W1 (.cells #[.slice none 0 0] 100)
  obtain ⟨W2, hW2⟩ : ∃ W2, W2 = W1.alloc (.cells #[.slice none 0 0] 100) := ⟨_, rfl⟩
  rw [← hW2] at fb hx2
  rw [hs1] at fb
  have fa2 := fa.ext hx2
  have HFA0 := Lib.hid (show FileP 149 102 W2 w.heap.size a [] by rw [ha]; exact fa2)
  have HFB0 := Lib.hid fb
  have HB0 := Lib.hid (ext_trans hx1 hx2)
  clear hE hL hn fa fb fa2 hx1 hx2
  go_enter Tryz.func7, Tryz.ntmps7
  go_wp2_with fail
  refine (new_any _).mono ?_
  rintro e w1 ⟨rfl, rfl⟩
  go_wp2_with fail
  rw [show w.alloc (.cells #[.slice none 0 0] 149) = W1 from hW1.symm]
  rw [show W1.alloc (.cells #[.slice none 0 0] 100) = W2 from hW2.symm]
  rw [show w.heap.size = a from ha.symm]
  clear hW1 hW2 hs1
  have HA := Lib.hid ha
  clear ha
  go_loopw [7] (fun t7 wr => ∃ i : Nat, t7 = .int .i64 i ∧ i ≤ l.length ∧ Hid (Below w.heap.size w wr) ∧ Hid (FileP 149 102 wr w.heap.size a (keepF (l.take i))) ∧ Hid (FileP 100 96 wr w.heap.size (a + 1) (keepF (l.take i)))) (fun t7 _ => l.length - (intOf t7).toNat)
  case atStart => exact ⟨0, rfl, Nat.zero_le _, HB0.out, HFA0.out, HFB0.out⟩
  case round =>
    clear HB0 HFA0 HFB0
    obtain ⟨i, rfl, hi, HB, HFA, HFB⟩ := hrel
    by_cases hlt : i < l.length
    · have hltc : (i : Int) < (l.length : Int) := by omega
      have HTK := Lib.hid (take_keep hlt)
      have hk := keep_len _ (l.take i) rfl
      have HL0 := Lib.hid (HL.out.ext HB.out)
      obtain ⟨b, o, rfl, r0, r1, r2, r3, r4, r5, r6⟩ := fact_at HL0.out hlt
      have hnm := HNm.out _ (List.getElem_mem hlt)
      obtain ⟨x, hx⟩ : ∃ x, x = l[i] := ⟨_, rfl⟩
      rw [← hx] at r0 r1 r2 r3 r4 r5 r6 hnm HTK
      clear hx
      obtain ⟨kl, hkl⟩ : ∃ kl, kl = keepF (l.take i) := ⟨_, rfl⟩
      rw [← hkl] at HFA HFB HTK hk
      clear hkl
      have HNX := Lib.hid hnm
      have HLF := Lib.hid (fun w => lfact_any x w)
      have HPA := Lib.hid (fun (w' : World) (h1 : Errs w' A) h2 h3 => padd_any kl hk x hnm w.heap.size a A w' h1 h2 h3)
      have HRA := Lib.hid (fun (w' : World) h2 h3 => radd_any kl hk x hnm w.heap.size (a + 1) w' h2 h3)
      clear hnm
      have HXC := Lib.hid (show faC x = faC x from rfl)
      obtain ⟨who, nm, other, value, from_, to_, learnt⟩ := x
      unfold faC at HLF HPA HRA HXC
      simp only at r0 r1 r2 r3 r4 r5 r6 HLF HPA HRA
      go_wp2_with fail
      refine (HLF.out _).mono ?_
      rintro e w1 ⟨rfl, hb1⟩
      have HB1 := Lib.hid (HB.out.trans (hb1.mono HB.out.size))
      have hb0 := Lib.hid (hb1.mono HB.out.size)
      have HFA1 := Lib.hid (HFA.out.ext hb1)
      have HFB1 := Lib.hid (HFB.out.ext hb1)
      clear hb1
      go_wp2_with fail
      refine (HPA.out _ (HE.out.below HB1.out) HFA1.out HB1.out.size).mono ?_
      have hbl : b < w.heap.size := by
        obtain ⟨b', o', e, c, _⟩ := fact_at HL.out hlt
        cases e
        exact cell_lt c
      have HW1 := Lib.hid (show Below w.heap.size wr w1 from hb0.out)
      rintro e w2 (⟨hc, rfl, hok1, hok2, hok3⟩ | ⟨c, hc, hcc, rfl, hb2⟩)
      · have HC := Lib.hid hc
        have HB2 := Lib.hid (HB1.out.trans hok2)
        have HW2 := Lib.hid (HW1.out.trans hok2)
        have HFA2 := Lib.hid hok1
        have HFB2 := Lib.hid (HFB1.out.oth (TF' := 149) (T' := 102) (show a + 1 ≠ a by omega) (by decide) (by decide) (by decide) (by obtain ⟨v, _, h, _⟩ := HFA1.out; exact ⟨v, h⟩) hok3)
        have s0 := Mem.cell_keep HW2.out hbl r0
        have s1 := Mem.cell_keep HW2.out hbl r1
        have s2 := Mem.cell_keep HW2.out hbl r2
        have s3 := Mem.cell_keep HW2.out hbl r3
        have s4 := Mem.cell_keep HW2.out hbl r4
        have s5 := Mem.cell_keep HW2.out hbl r5
        have s6 := Mem.cell_keep HW2.out hbl r6
        clear hok1 hok2 hok3 hc r0 r1 r2 r3 r4 r5 r6 HFA1 HFB1 HFA HFB
        go_wp2_with fail
        refine (HRA.out _ HFB2.out HB2.out.size).mono ?_
        rintro e w3 (⟨_, rfl, hq1, hq2, hq3⟩ | ⟨hne, _, _⟩)
        · have HB3 := Lib.hid (HB2.out.trans hq2)
          have HFB3 := Lib.hid hq1
          have HFA3 := Lib.hid (HFA2.out.oth (TF' := 100) (T' := 96) (show a ≠ a + 1 by omega) (by decide) (by decide) (by decide) (by obtain ⟨v, _, h, _⟩ := HFB2.out; exact ⟨v, h⟩) hq3)
          clear hq1 hq2 hq3 s0 s1 s2 s3 s4 s5 s6
          go_wp2_with fail
          refine (coded3_nil 0 _).mono ?_
          rintro e w4 ⟨rfl, rfl⟩
          go_wp2_with fail
          go_roundw
          case rel => exact ⟨i + 1, by go_num, by omega, HB3.out, by show FileP _ _ _ _ _ _; rw [HTK.out, if_pos HC.out]; exact HFA3.out, by show FileP _ _ _ _ _ _; rw [HTK.out, if_pos HC.out]; exact HFB3.out⟩
          case measure => simp [intOf]; omega
        · exact absurd HC.out hne
      · have HC := Lib.hid hcc
        have HB2 := Lib.hid (HB1.out.trans (hb2.mono HB1.out.size))
        have HW2 := Lib.hid (HW1.out.trans (hb2.mono HB1.out.size))
        have HFA2 := Lib.hid (HFA1.out.ext hb2)
        have HFB2 := Lib.hid (HFB1.out.ext hb2)
        have s0 := Mem.cell_keep HW2.out hbl r0
        have s1 := Mem.cell_keep HW2.out hbl r1
        have s2 := Mem.cell_keep HW2.out hbl r2
        have s3 := Mem.cell_keep HW2.out hbl r3
        have s4 := Mem.cell_keep HW2.out hbl r4
        have s5 := Mem.cell_keep HW2.out hbl r5
        have s6 := Mem.cell_keep HW2.out hbl r6
        clear hb2 hcc r0 r1 r2 r3 r4 r5 r6 HFA1 HFB1 HFA HFB
        unfold sentV
        go_wp2_with fail
        refine (HRA.out _ HFB2.out HB2.out.size).mono ?_
        rintro e w3 (⟨h0, _⟩ | ⟨_, rfl, hb3⟩)
        · have h := HC.out
          rw [h0] at h
          exact absurd h (by omega)
        · have HB3 := Lib.hid (HB2.out.trans (hb3.mono HB2.out.size))
          have HFA3 := Lib.hid (HFA2.out.ext hb3)
          have HFB3 := Lib.hid (HFB2.out.ext hb3)
          rw [HC.out]
          clear hb3 s0 s1 s2 s3 s4 s5 s6
          go_wp2_with fail
          refine (show Calls _ _ _ _ _ from coded3_sent c hc ((c : Int) + 1) A _ (HE.out.below HB3.out)).mono ?_
          rintro e w4 ⟨rfl, hb4⟩
          have HB4 := Lib.hid (HB3.out.trans (hb4.mono HB3.out.size))
          have HFA4 := Lib.hid (HFA3.out.ext hb4)
          have HFB4 := Lib.hid (HFB3.out.ext hb4)
          have hdc : decide ((c : Int) + 1 = (c : Int) + 1) = true := by simp
          rw [hdc]
          clear hb4 hdc
          go_wp2_with fail
          go_roundw
          case rel =>
            have hne : ¬ codeF kl.length ⟨who, nm, other, value, from_, to_, learnt⟩ = 0 := by rw [HC.out]; omega
            exact ⟨i + 1, by go_num, by omega, HB4.out, by show FileP _ _ _ _ _ _; rw [HTK.out, if_neg hne]; exact HFA4.out, by show FileP _ _ _ _ _ _; rw [HTK.out, if_neg hne]; exact HFB4.out⟩
          case measure => simp [intOf]; omega
    · obtain rfl : l.length = i := by omega
      have hlc : ¬ (l.length : Int) < (l.length : Int) := by omega
      have HT := Lib.hid (show l.take l.length = l from List.take_length)
      go_wp2_with fail
      refine bodyPost_ret (v := .tuple #[.pointer (some ⟨a, 0, none⟩), .pointer (some ⟨a + 1, 0, none⟩), .bool true]) (by simp [results, Tryz.results7, go_sem]) rfl ?_
      exact ⟨a, a + 1, rfl, by have h := HFA.out; rw [HT.out] at h; exact h, by have h := HFB.out; rw [HT.out] at h; exact h, HB.out⟩
end Go.Proofs.YtnchlnfenebomaaGreatDoor.Fk

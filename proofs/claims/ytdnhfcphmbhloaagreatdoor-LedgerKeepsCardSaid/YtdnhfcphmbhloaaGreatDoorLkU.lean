/- LedgerKeeps: New and Sheet. -/
import Derived.Test.YtdnhfcphmbhloaaGreatDoorLkT
import Derived.OwnWalk
namespace Go.Proofs.YtdnhfcphmbhloaaGreatDoor.Lk
open Go.RowKit Mem Nest Fk Msi Err

theorem bal_strip (a : Tx) (on : Int) : ∀ {xs ys : List En}, xs.map strip = ys.map strip → balS a on xs = balS a on ys
  | [], [], _ => rfl
  | [], _ :: _, h => by simp at h
  | _ :: _, [], h => by simp at h
  | x :: xs, y :: ys, h => by
    rw [List.map_cons, List.map_cons] at h
    injection h with h1 h2
    unfold strip at h1
    simp only [Prod.mk.injEq] at h1
    simp only [balS]
    rw [h1.1, h1.2.2, bal_strip a on h2]
theorem len_strip {xs ys : List En} (h : xs.map strip = ys.map strip) : xs.length = ys.length := by
  have := congrArg List.length h
  simpa using this
theorem late_strip {xs ys : List En} (h : xs.map strip = ys.map strip) (d : Int) : lateE xs d = lateE ys d := by
  have hh : ∀ zs : List En, lateE zs d = (((zs.map strip).getLast?.map fun t => decide (d < t.1)).getD false) := fun zs => by
    unfold lateE
    rw [List.getLast?_map]
    cases zs.getLast? <;> rfl
  rw [hh, hh, h]
theorem post_strip {xs ys : List En} (h : xs.map strip = ys.map strip) (d lc : Int) (ls : List Ln) : postC xs d lc ls = postC ys d lc ls := by
  have ht : ∀ a, totS xs ls a = totS ys ls a := fun a => by unfold totS; rw [bal_strip a _ h]
  have hs : smallE xs ls = smallE ys ls := by
    unfold smallE
    simp only [ht]
  unfold postC
  rw [len_strip h, late_strip h, hs]
theorem mem_strip {xs ys : List En} (h : xs.map strip = ys.map strip) (a : Tx) : memA xs a → memA ys a := by
  rintro ⟨r, hr, x, hx, rfl⟩
  have h1 : strip r ∈ ys.map strip := h ▸ List.mem_map_of_mem hr
  obtain ⟨q, hq, e⟩ := List.mem_map.1 h1
  unfold strip at e
  simp only [Prod.mk.injEq] at e
  exact ⟨q, hq, x, by rw [e.2.2]; exact hx, rfl⟩
theorem all_strip {P : Int → Tx → List Ln → Prop} {xs ys : List En} (h : xs.map strip = ys.map strip) (hx : ∀ r ∈ xs, P r.day r.text r.lines) : ∀ r ∈ ys, P r.day r.text r.lines := fun r hr => by
  have h1 : strip r ∈ xs.map strip := h ▸ List.mem_map_of_mem hr
  obtain ⟨q, hq, e⟩ := List.mem_map.1 h1
  unfold strip at e
  simp only [Prod.mk.injEq] at e
  rw [← e.1, ← e.2.1, ← e.2.2]
  exact hx q hq
/-- entries that were taken one behind the other -/
def Acc (qs : List En) : Prop := ∀ k (h : k < qs.length), postC (qs.take k) qs[k].day (Gp.lineC qs[k].text) qs[k].lines = 0
/-- bounds of what was taken -/
def Bd (r : En) : Prop := (r.lines.length ≤ 30 ∧ ∀ x ∈ r.lines, Small1 x.2) ∧ r.text.length ≤ 1000 ∧ ∀ x ∈ r.lines, x.1.length ≤ 9223372036854775807
theorem acc_snoc {qs : List En} (h : Acc qs) (r : En) (hr : postC qs r.day (Gp.lineC r.text) r.lines = 0) : Acc (qs ++ [r]) := fun k hk => by
  rw [List.length_append] at hk
  by_cases e : k < qs.length
  · rw [List.take_append_of_le_length (by omega), List.getElem_append_left e]
    exact h k e
  · have e2 : k = qs.length := by have : k < qs.length + 1 := hk; omega
    subst e2
    rw [List.take_append_of_le_length (Nat.le_refl _), List.take_of_length_le (Nat.le_refl _)]
    simpa using hr
theorem acc_strip {xs ys : List En} (h : xs.map strip = ys.map strip) (ha : Acc xs) : Acc ys := fun k hk => by
  have hl := len_strip h
  have h1 := ha k (by omega)
  have e : (xs.map strip)[k]'(by rw [List.length_map]; omega) = (ys.map strip)[k]'(by rw [List.length_map]; omega) := by simp only [h]
  rw [List.getElem_map, List.getElem_map] at e
  unfold strip at e
  simp only [Prod.mk.injEq] at e
  rw [post_strip (ys := xs.take k) (by rw [List.map_take, List.map_take, h]), ← e.1, ← e.2.1, ← e.2.2]
  exact h1
theorem acc_len {qs : List En} (h : Acc qs) : qs.length ≤ 400 := by
  rcases Nat.lt_or_ge 400 qs.length with h1 | h1
  · have := (post_zero (h 400 h1)).1
    rw [List.length_take] at this
    omega
  · exact h1
theorem pnew (w : World) : Calls Tryz.prog 8 #[] w fun e w' => e = .returned (.pointer (some ⟨w.heap.size, 0, none⟩)) ∧ w.alloc (.cells #[.slice none 0 0] 95) = w' := by
  go_enter Tryz.func8, Tryz.ntmps8
  go_wp2_with fail
  go_ret
  exact ⟨rfl, rfl⟩
theorem pl_new (w : World) : Pl w w.heap.size [] (w.alloc (.cells #[.slice none 0 0] 95)) :=
  ⟨ext_alloc _ _, Nat.le_refl _, ⟨none, 0, Blk.new w 95 [.slice none 0 0], World.ownsRow_nil _ _ _ _⟩, fun r hr => by cases hr⟩
def balL (qs : List En) (a : Tx) : Ln := (a, balS a 3652059 qs)
def SheetPost (qs : List En) (w : World) (e : Ending) (w' : World) : Prop := ∃ (ns : List Tx) (A : Option Addr) (c : Nat), e = .returned (.tuple #[.slice A ns.length c, .nilIface]) ∧ Rd w' A ((ns.map (balL qs)).flatMap lnCells) ∧ ns.Pairwise (· < ·) ∧ (∀ a, a ∈ ns ↔ memA qs a) ∧ ns.length ≤ 12000 ∧ Below w.heap.size w w'
theorem ln_infoU : (Tryz.prog.info? 49).map (fun i => (i.zero, i.size, i.bytes)) = some (some (.agg #[.string ⟨#[]⟩, .int .i64 0]), 2, 24) := by kernel_rfl
set_option maxRecDepth 100000 in
set_option maxHeartbeats 4000000 in
theorem psheet (E : Nat → Addr) (qs : List En) (hbd : ∀ r ∈ qs, Bd r) (hacc : Acc qs) (HA : Option Addr) (hc : Nat) (w : World) (hE : Errs w E) (hEn : Ens w HA qs) :
    Calls Tryz.prog 17 #[.slice HA qs.length hc] w (SheetPost qs w) := by
  have HE := Lib.hid hE
  have HEn := Lib.hid hEn
  have HBd := Lib.hid hbd
  have HAc := Lib.hid hacc
  have hql := acc_len hacc
  obtain ⟨G, hG⟩ : ∃ G, G = w.heap.size := ⟨_, rfl⟩
  have HPn := Lib.hid (show Pl w G [] (w.alloc (.cells #[.slice none 0 0] 95)) from by rw [hG]; exact pl_new w)
  have HNw := Lib.hid (show Calls Tryz.prog 8 #[] w fun e w' => e = .returned (.pointer (some ⟨G, 0, none⟩)) ∧ w.alloc (.cells #[.slice none 0 0] 95) = w' from by rw [hG]; exact pnew w)
  clear hE hEn hbd hacc hG
  go_enter Tryz.func17, Tryz.ntmps17
  go_wp2_with fail
  refine HNw.out.mono ?_
  rintro e w1 ⟨rfl, hw1⟩
  have HP1 := Lib.hid (show Pl w G [] w1 from by rw [← hw1]; exact HPn.out)
  clear hw1
  go_wp2_with fail
  go_loopw [15] (fun s15 wr => ∃ (i : Nat) (es : List En), s15 = .int .i64 i ∧ i ≤ qs.length ∧ es.length = i ∧ Hid (es.map strip = (qs.take i).map strip) ∧ Hid (Pl w G es wr)) (fun s15 _ => qs.length - (intOf s15).toNat)
  case atStart => exact ⟨0, [], rfl, Nat.zero_le _, rfl, (by show _ = _; simp), HP1.out⟩
  case round =>
    clear HP1 HPn HNw
    obtain ⟨i, es, rfl, hi, hel, HSt, HP⟩ := hrel
    by_cases hlt : i < qs.length
    · have hcl : (i : Int) < (qs.length : Int) := by omega
      have hi4 : (i : Int) ≤ 400 := by omega
      obtain ⟨b, o, e1, x0, x1, x2⟩ := en_at (HEn.out.rows.ext HP.out.below) hlt
      have HTk := Lib.hid (List.take_succ_eq_append_getElem hlt)
      have HRl := Lib.hid (HEn.out.lns _ (List.getElem_mem hlt))
      have hbr := HBd.out _ (List.getElem_mem hlt)
      have HZ := Lib.hid (show postC es qs[i].day (Gp.lineC qs[i].text) qs[i].lines = 0 from by rw [post_strip HSt.out]; exact HAc.out i hlt)
      have HBe := Lib.hid (show ∀ r ∈ es, r.lines.length ≤ 30 ∧ ∀ x ∈ r.lines, Small1 x.2 from all_strip (P := fun _ _ ls => ls.length ≤ 30 ∧ ∀ x ∈ ls, Small1 x.2) HSt.out.symm (fun r hr => (HBd.out r (List.mem_of_mem_take hr)).1))
      subst e1
      generalize qs[i] = r at x0 x1 x2 HTk HRl hbr HZ
      obtain ⟨⟨hr1, _⟩, hr2, hr3⟩ := hbr
      have xa := ext_alloc wr (.cells #[.int .i64 r.day, .string ⟨r.text.toArray⟩, .slice r.A r.lines.length r.c] 36)
      have ba := Blk.new wr 36 [.int .i64 r.day, .string ⟨r.text.toArray⟩, .slice r.A r.lines.length r.c]
      obtain ⟨V, hV⟩ : ∃ V, V = wr.alloc (.cells #[.int .i64 r.day, .string ⟨r.text.toArray⟩, .slice r.A r.lines.length r.c] 36) := ⟨_, rfl⟩
      obtain ⟨R, hR⟩ : ∃ R, R = wr.heap.size := ⟨_, rfl⟩
      rw [← hV] at xa ba
      rw [← hR] at ba
      have HPv := Lib.hid (HP.out.ext xa)
      have m0 := ba.cell 0 rfl
      have m1 := ba.cell 1 rfl
      have m2 := ba.cell 2 rfl
      have HPo := Lib.hid (ppost E w G es (by omega) HBe.out r.day r.text hr2 r.lines hr1 hr3 r.A r.c V (HE.out.below HPv.out.below) HPv.out (HRl.out.ext HPv.out.below))
      clear xa ba
      go_upto_region 5 with fail
      rw [← hV, ← hR]
      clear hV hR x0 x1 x2
      go_wp2_with fail
      refine HPo.out.mono ?_
      rintro e w2 ⟨rfl, hw2⟩
      have HP2 := Lib.hid (show ∃ A c, Pl w G (es ++ [⟨r.day, r.text, r.lines, A, c⟩]) w2 from by
        rcases hw2 with ⟨h, _⟩ | ⟨_, h, _⟩
        · exact absurd HZ.out h
        · exact h)
      rw [HZ.out]
      obtain ⟨A2, c2, hp2⟩ := HP2.out
      have HP3 := Lib.hid hp2
      have HSn := Lib.hid (show (es ++ [(⟨r.day, r.text, r.lines, A2, c2⟩ : En)]).map strip = (qs.take (i + 1)).map strip from by
        rw [HTk.out, List.map_append, List.map_append, HSt.out]
        rfl)
      have HLn := Lib.hid (show (es ++ [(⟨r.day, r.text, r.lines, A2, c2⟩ : En)]).length = i + 1 from by rw [List.length_append, hel]; rfl)
      clear hw2 hp2 hel m0 m1 m2
      rw [show errI E 0 = Value.nilIface from rfl]
      go_wp2_with fail
      go_roundw
      case rel => exact ⟨i + 1, _, by go_num, by omega, HLn.out, HSn.out, HP3.out⟩
      case measure => show qs.length - (i + 1) < qs.length - i; omega
    · have hcl : ¬ (i : Int) < (qs.length : Int) := by omega
      have HS2 := Lib.hid (show es.map strip = qs.map strip from by rw [HSt.out, List.take_of_length_le (by omega)])
      have HBe := Lib.hid (show ∀ r ∈ es, Bd r from all_strip (P := fun _ t ls => (ls.length ≤ 30 ∧ ∀ x ∈ ls, Small1 x.2) ∧ t.length ≤ 1000 ∧ ∀ x ∈ ls, x.1.length ≤ 9223372036854775807) HS2.out.symm HBd.out)
      have HAc2 := Lib.hid (paccts w G es (by omega) (fun r hr => ⟨(HBe.out r hr).1.1, (HBe.out r hr).2.2⟩) wr HP.out)
      go_wp2_with fail
      refine HAc2.out.mono ?_
      rintro e w4 ⟨ns, NA, nc, rfl, hn1, hn2, hn3, hn4, hb⟩
      have HN1 := Lib.hid hn1
      have HN2 := Lib.hid hn2
      have HN3 := Lib.hid (show ∀ a, a ∈ ns ↔ memA qs a from fun a => (hn3 a).trans ⟨mem_strip HS2.out a, mem_strip HS2.out.symm a⟩)
      have HP4 := Lib.hid (HP.out.ext hb)
      have hel2 : es.length ≤ 400 := by omega
      clear hn1 hn2 hn3 hb HAc2 hel
      obtain ⟨i0, hi0, hz0, hz1, hz2⟩ := info_parts ln_infoU
      have HI := Lib.hid hi0
      have HZ0 := Lib.hid hz0
      have HZ1 := Lib.hid hz1
      have HZ2 := Lib.hid hz2
      clear hi0 hz0 hz1 hz2
      go_wp2_with fail
      go_loopw [9, 41] (fun s9 s41 wr => ∃ k : Nat, s41 = .int .i64 k ∧ k ≤ ns.length ∧ Hid (wr.ownsRow w4.heap.size 49 2 s9 k (((ns.take k).map (balL qs)).flatMap lnCells)) ∧ Hid (Below w4.heap.size w4 wr)) (fun _ s41 _ => ns.length - (intOf s41).toNat)
      case atStart => exact ⟨0, rfl, Nat.zero_le _, World.ownsRow_nil _ _ _ _, Below.refl _ _⟩
      case round =>
        obtain ⟨k, rfl, hk, HO, HB⟩ := hrel
        obtain ⟨OA, oc, rfl, hoc1, hoc2⟩ := own_slice HO.out
        by_cases hkl : k < ns.length
        · have hkc : (k : Int) < (ns.length : Int) := by omega
          have hki : (k : Int) ≤ 12000 := by omega
          obtain ⟨b2, o2, e2, y0⟩ := (HN1.out.ext HB.out).at_ (k := k) (by rw [List.length_map]; exact hkl)
          rw [List.getElem_map] at y0
          have HTk := Lib.hid (List.take_succ_eq_append_getElem hkl)
          subst e2
          generalize ns[k] = a at y0 HTk
          have y0 : wr.cell? ⟨b2, o2 + k, none⟩ = some (.string ⟨a.toArray⟩) := y0
          obtain ⟨PA, pc, p0, hen⟩ := (HP4.out.ext HB.out).ens
          obtain ⟨bv, hbv⟩ : ∃ bv, bv = balS a 3652059 es := ⟨_, rfl⟩
          have HBal := Lib.hid (pbal G 0 PA pc es (by omega) (fun r hr => (HBe.out r hr).1) a 3652059 wr p0 hen)
          rw [← hbv] at HBal
          have HBv := Lib.hid (show balL qs a = (a, bv) from by unfold balL; rw [hbv, bal_strip a _ HS2.out])
          clear p0 hen hbv
          go_wp2_with fail
          refine HBal.out.mono ?_
          rintro e w5 ⟨rfl, hb⟩
          have HB5 := Lib.hid (ext_trans HB.out hb)
          have HO5 := Lib.hid (own_ext HO.out hb)
          clear hb HBal y0
          go_wp2_with (at_builtin; refine wpList_append_own _ rfl _ _ _ rfl w4.heap.size 49 i0 _ 2 24 Tryz.underlying34 HI.out HZ0.out HZ1.out HZ2.out rfl (by omega) (.slice OA k oc) k _ rfl (World.ownsRow.alloc HO5.out _) ⟨w5.heap.size, 0, none⟩ 1 1 [.string ⟨a.toArray⟩, .int .i64 bv] rfl rfl (new_cells w5 [.string ⟨a.toArray⟩, .int .i64 bv] _ _ rfl) (by intro v hv; simp only [List.mem_cons, List.not_mem_nil, or_false] at hv; rcases hv with rfl | rfl <;> rfl) (by simp only [maxLen]; omega) (by omega) (Nat.le_trans HB5.out.size (by simp)) ?_; intro v1 w6 hown1 hg1 _; have HO6 := Lib.hid hown1; have HB6 := Lib.hid (grown_ext (HB5.out.trans ((ext_alloc w5 _).mono HB5.out.size)) rfl (World.ownsRow.alloc HO5.out _) hg1); clear hown1 hg1)
          go_roundw
          case rel => exact ⟨k + 1, by go_num, by omega, (by
            show World.ownsRow _ _ _ _ _ _ _
            rw [HTk.out, List.map_append, List.flatMap_append]
            have h := HO6.out
            simpa [HBv.out, lnCells] using h), HB6.out⟩
          case measure => show ns.length - (k + 1) < ns.length - k; omega
        · have hkc : ¬ (k : Int) < (ns.length : Int) := by omega
          obtain rfl : k = ns.length := by omega
          have HRd := Lib.hid (show Rd wr OA ((ns.map (balL qs)).flatMap lnCells) from by
            have h := HO.out
            rw [List.take_of_length_le (Nat.le_refl _)] at h
            exact Rd.of_own h)
          have HBf := Lib.hid (ext_trans HP4.out.below HB.out)
          go_wp2_with fail
          go_ret2
          exact ⟨ns, OA, oc, rfl, HRd.out, HN2.out, HN3.out, hn4, HBf.out⟩
end Go.Proofs.YtdnhfcphmbhloaaGreatDoor.Lk

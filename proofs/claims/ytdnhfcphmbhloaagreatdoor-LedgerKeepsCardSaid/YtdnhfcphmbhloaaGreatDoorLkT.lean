/- LedgerKeeps: Entries and Accounts. -/
import Derived.Test.YtdnhfcphmbhloaaGreatDoorLkQ
import Derived.Test.YtdnhfcphmbhloaaGreatDoorIter
namespace Go.Proofs.YtdnhfcphmbhloaaGreatDoor.Lk
open Go.RowKit Mem Nest Fk Msi Err

def strip (r : En) : Int × Tx × List Ln := (r.day, r.text, r.lines)
theorem flat_set {α : Type} {f : α → List Value} {n : Nat} (hf : ∀ x, (f x).length = n) (a b : List α) (x x' : α) (j : Nat) (v : Value) (hj : j < n) (hx : f x' = (f x).set j v) : ((a ++ x :: b).flatMap f).set (a.length * n + j) v = (a ++ x' :: b).flatMap f := by
  induction a with
  | nil =>
    simp only [List.nil_append, List.flatMap_cons, List.length_nil, Nat.zero_mul, Nat.zero_add]
    rw [List.set_append_left _ _ (by rw [hf]; exact hj), hx]
  | cons y a ih =>
    simp only [List.cons_append, List.flatMap_cons, List.length_cons]
    rw [List.set_append_right _ _ (by rw [hf, Nat.succ_mul]; omega), hf, ← ih]
    congr 2
    rw [Nat.succ_mul]
    omega
def EnsPost (rs : List En) (w : World) (e : Ending) (w' : World) : Prop := ∃ (qs : List En) (A : Option Addr) (c : Nat), e = .returned (.slice A qs.length c) ∧ qs.map strip = rs.map strip ∧ Ens w' A qs ∧ Below w.heap.size w w'
set_option maxRecDepth 100000 in
set_option maxHeartbeats 4000000 in
theorem pentries (B : World) (G : Nat) (rs : List En) (hrs : rs.length ≤ 400) (hsm : ∀ r ∈ rs, r.lines.length ≤ 30) (w : World) (h : Pl B G rs w) :
    Calls Tryz.prog 13 #[.pointer (some ⟨G, 0, none⟩)] w (EnsPost rs w) := by
  obtain ⟨LA, lc, k0, hens⟩ := h.ens
  have HEn := Lib.hid hens
  have HCl := Lib.hid (cloneE_any rs (by omega) LA lc w hens.rows)
  clear h hens
  go_enter Tryz.func13, Tryz.ntmps13
  go_wp2_with fail
  refine HCl.out.mono ?_
  rintro e w1 ⟨⟨A1, c1, rfl, ho⟩, hb⟩
  have HB1 := Lib.hid hb
  have HO1 := Lib.hid ho
  clear ho hb k0
  go_wp2_with fail
  go_loopw [12] (fun s12 wr => ∃ (k : Nat) (qs : List En), s12 = .int .i64 k ∧ k ≤ rs.length ∧ qs.length = k ∧ Hid (qs.map strip = (rs.take k).map strip) ∧ Hid (wr.ownsRow w.heap.size 36 3 (.slice A1 rs.length c1) rs.length ((qs ++ rs.drop k).flatMap enCells)) ∧ Hid (∀ r ∈ qs, RdK wr 49 r.A (r.lines.flatMap lnCells)) ∧ Hid (Below w.heap.size w wr)) (fun s12 _ => rs.length - (intOf s12).toNat)
  case atStart => exact ⟨0, [], rfl, Nat.zero_le _, rfl, (by show _ = _; simp), HO1.out, (fun r hr => by cases hr), HB1.out⟩
  case round =>
    clear HO1 HB1
    obtain ⟨k, qs, rfl, hk, hql, HSt, HO, HRq, HB⟩ := hrel
    by_cases hlt : k < rs.length
    · have hcl : (k : Int) < (rs.length : Int) := by omega
      have hk4 : (k : Int) ≤ 400 := by omega
      obtain ⟨g, cap, hv, _, _⟩ := World.ownsRow.form HO.out (by omega)
      simp only [Value.slice.injEq] at hv
      obtain ⟨rfl, _, rfl⟩ := hv
      have hkq : k < (qs ++ rs.drop k).length := by rw [List.length_append, List.length_drop]; omega
      obtain ⟨b, o, e1, x0, x1, x2⟩ := en_at (Rd.of_own (n := (qs ++ rs.drop k).length) (c := c1) (by
        have h := HO.out
        rw [show rs.length = (qs ++ rs.drop k).length from by rw [List.length_append, List.length_drop]; omega] at h
        exact h)) hkq
      simp only [Option.some.injEq, Addr.mk.injEq, and_true] at e1
      obtain ⟨rfl, rfl⟩ := e1
      have hel : (qs ++ rs.drop k)[k] = rs[k] := by
        rw [List.getElem_append_right (by omega)]
        simp [hql]
      rw [hel] at x0 x1 x2
      simp only [Nat.zero_add] at x0 x1 x2
      have hdr : rs.drop k = rs[k] :: rs.drop (k + 1) := List.drop_eq_getElem_cons hlt
      have HTk := Lib.hid (List.take_succ_eq_append_getElem hlt)
      have HRl := Lib.hid ((HEn.out.lns _ (List.getElem_mem hlt)).ext HB.out)
      have hrl := hsm _ (List.getElem_mem hlt)
      have HDr := Lib.hid hdr
      have HQl := Lib.hid hql
      clear hel hdr hkq hql
      generalize rs[k] = r at x0 x1 x2 HTk HRl hrl HDr
      have HCk := Lib.hid (cloneL_any r.lines (by omega) r.A r.c wr HRl.out)
      go_wp2_with fail
      refine HCk.out.mono ?_
      rintro e w2 ⟨⟨A2, c2, rfl, hk2, _, _⟩, hb⟩
      have HO2 := own_ext HO.out hb
      have n2 := HO2.cellAt (k * 3 + 2) (by omega)
      have n3 := HO2.frozenAt (k * 3 + 2)
      have x2' := cell_ext hb x2
      have hst := HO2.stored (k * 3 + 2) (.slice A2 r.lines.length c2)
      obtain ⟨hs1, hs2⟩ := hst
      have HB2 := Lib.hid ((ext_trans HB.out hb).grown hs2 (ext_trans HB.out hb).size (fun g' hg => by obtain rfl := Option.some.inj hg; exact (HO2.lt _ rfl).1))
      have hkind := Lib.ownsRow_kind HO2
      have HRn := Lib.hid (show ∀ q ∈ qs ++ [(⟨r.day, r.text, r.lines, A2, c2⟩ : En)], RdK (w2.setCell ⟨g, k * 3 + 2, none⟩ (.slice A2 r.lines.length c2)) 49 q.A (q.lines.flatMap lnCells) from fun q hq => by
        rcases List.mem_append.1 hq with hq | hq
        · exact ((HRq.out q hq).ext hb).grown hs2 (fun g' hg => by obtain rfl := Option.some.inj hg; exact hkind _ rfl) (by decide)
        · obtain rfl := List.mem_singleton.1 hq
          exact hk2.grown hs2 (fun g' hg => by obtain rfl := Option.some.inj hg; exact hkind _ rfl) (by decide))
      have HOn := Lib.hid (show (w2.setCell ⟨g, k * 3 + 2, none⟩ (.slice A2 r.lines.length c2)).ownsRow w.heap.size 36 3 (.slice (some ⟨g, 0, none⟩) rs.length c1) rs.length (((qs ++ [(⟨r.day, r.text, r.lines, A2, c2⟩ : En)]) ++ rs.drop (k + 1)).flatMap enCells) from by
        have h := hs1
        rw [HDr.out] at h
        rw [show k * 3 + 2 = qs.length * 3 + 2 from by rw [HQl.out]] at h ⊢
        rw [flat_set (f := enCells) enCells_len qs (rs.drop (k + 1)) r ⟨r.day, r.text, r.lines, A2, c2⟩ 2 (.slice A2 r.lines.length c2) (by omega) rfl] at h
        simpa using h)
      have HSn := Lib.hid (show (qs ++ [(⟨r.day, r.text, r.lines, A2, c2⟩ : En)]).map strip = (rs.take (k + 1)).map strip from by
        rw [HTk.out, List.map_append, List.map_append, HSt.out]
        rfl)
      have HLn := Lib.hid (show (qs ++ [(⟨r.day, r.text, r.lines, A2, c2⟩ : En)]).length = k + 1 from by rw [List.length_append, HQl.out]; rfl)
      clear hb hk2 hs1 hs2 hkind HO2 n2 x0 x1 x2
      go_wp2_with fail
      go_roundw
      case rel => exact ⟨k + 1, _, by go_num, by omega, HLn.out, HSn.out, HOn.out, HRn.out, HB2.out⟩
      case measure => show rs.length - (k + 1) < rs.length - k; omega
    · have hcl : ¬ (k : Int) < (rs.length : Int) := by omega
      obtain rfl : k = rs.length := by omega
      have HS2 := Lib.hid (show qs.map strip = rs.map strip from by rw [HSt.out, List.take_of_length_le (Nat.le_refl _)])
      have HE2 := Lib.hid (show Ens wr A1 qs from ⟨by
        have h := HO.out
        rw [List.drop_of_length_le (Nat.le_refl _), List.append_nil] at h
        exact Rd.of_own h, fun r hr => (HRq.out r hr).rd⟩)
      have HQl := Lib.hid hql
      clear hql
      go_wp2_with fail
      go_ret
      exact ⟨qs, A1, c1, (by rw [HQl.out]; rfl), HS2.out, HE2.out, HB.out⟩
/-- the keys of a map of bools that the call has made -/
def rdb : Value → Option (DataW Unit × List MemPlace)
  | .bool x => some (.lit (.bool x), [])
  | _ => none
def SK (w : World) (b n : Nat) (L : Tx → Prop) : Prop := ∃ D : DataW Unit, w.ownsMap Tryz.prog 9 rdb b n D ∧ ∀ s : Tx, s.length ≤ 9223372036854775807 → (Maps.has D (.string s) = true ↔ L s)
theorem SK.made (w : World) : SK (w.alloc (.map #[] 0)) w.heap.size 0 (fun _ => False) := ⟨_, World.ownsMap_made w _ _ _, fun s _ => ⟨(fun h => by cases h), fun h => h.elim⟩⟩
theorem SK.ext {w w' : World} {b n : Nat} {L : Tx → Prop} (h : SK w b n L) (hb : Below w.heap.size w w') : SK w' b n L := by
  obtain ⟨D, hD, hs⟩ := h
  exact ⟨D, hD.kept (row := none) ⟨hb.os, hb.tape, hb.output, hb.size, fun k hk _ => hb.block k hk⟩ (by simp), hs⟩
theorem SK.congrL {w : World} {b n : Nat} {L L' : Tx → Prop} (h : SK w b n L) (e : ∀ s, L s ↔ L' s) : SK w b n L' := by
  obtain ⟨D, hD, hs⟩ := h
  exact ⟨D, hD, fun s hl => (hs s hl).trans (e s)⟩
theorem SK.upd {w : World} {b n : Nat} {L : Tx → Prop} (h : SK w b n L) {s : Tx} (ho : s.length ≤ 9223372036854775807) (hn : n < maxLen) :
    ∃ w', (Instr.mapUpdate 105 (.map (some b)) (.string ⟨s.toArray⟩) (.bool true)).run Tryz.prog w = .ok () w' ∧ SK w' b (n + 1) (fun s' => s' = s ∨ L s') ∧ w.grownBy w' (some b) := by
  obtain ⟨D, hD, hs⟩ := h
  obtain ⟨w', hrun, hD', hg⟩ := hD.update str_law Tryz.underlying105 hn (str_key s ho) (show rdb (.bool true) = some (.lit (.bool true), []) from rfl)
  refine ⟨w', hrun, ⟨_, hD', fun o' ho' => ?_⟩, hg⟩
  by_cases e : o' = s
  · subst e
    exact ⟨fun _ => .inl rfl, fun _ => Maps.has_put_same hD.isMap (str_law.key (str_key o' ho')) _⟩
  · have hne : (Lit.string o') ≠ .string s := fun h => e (by injection h)
    rw [Maps.has_put_other hne, hs o' ho']
    exact ⟨.inr, fun h => h.resolve_left e⟩
theorem keys_of {H : Type} {w : World} {R : Value → Option (DataW H × List MemPlace)} {b n : Nat} {D : DataW H} (hown : w.ownsMap Tryz.prog 9 R b n D) : (strKeys D).Nodup ∧ (∀ x, x ∈ strKeys D ↔ Maps.has D (.string x) = true) ∧ (∀ x ∈ strKeys D, x.length ≤ maxLen) ∧ (strKeys D).length = Maps.size D := by
  have hle := strKeys_le hown Tryz.underlying9
  obtain ⟨es, hD, hpw, _⟩ := hown.entries str_law
  obtain ⟨es', hD', hko⟩ := hown.keysOf
  obtain rfl : es = es' := by rw [hD] at hD'; simpa using hD'
  subst hD
  have hk : ∀ p ∈ es, ∃ x, p.1 = Lit.string x := fun p hp => by
    obtain ⟨v, hv⟩ := hko p hp
    obtain ⟨x, _, hx, _⟩ := Maps.keyOf_str Tryz.underlying9 hv
    exact ⟨x, hx⟩
  refine ⟨?_, fun x => ?_, hle, by simp [strKeys, Maps.size]⟩
  · show (es.map fun p => strOf p.1).Nodup
    refine List.pairwise_map.2 (hpw.imp_of_mem fun {p q} hp' hq' hne e => hne ?_)
    obtain ⟨a, ha⟩ := hk p hp'
    obtain ⟨b, hb⟩ := hk q hq'
    rw [ha, hb] at e ⊢
    exact congrArg _ e
  · show x ∈ es.map (fun p => strOf p.1) ↔ (es.any fun p => p.1.sameKey (.string x)) = true
    rw [List.mem_map, List.any_eq_true]
    constructor
    · rintro ⟨p, hp', rfl⟩
      obtain ⟨a, ha⟩ := hk p hp'
      exact ⟨p, hp', by rw [ha]; simp [Lit.sameKey, strOf]⟩
    · rintro ⟨p, hp', hs⟩
      obtain ⟨a, ha⟩ := hk p hp'
      rw [ha] at hs
      exact ⟨p, hp', by rw [ha]; simpa [Lit.sameKey, strOf] using hs⟩
theorem sort_strict {ss : List Tx} (hn : ss.Nodup) : (ss.mergeSort fun x y => decide (x ≤ y)).Pairwise (· < ·) := by
  have tr : ∀ a b c : List UInt8, decide (a ≤ b) = true → decide (b ≤ c) = true → decide (a ≤ c) = true := fun a b c h1 h2 => by simp only [decide_eq_true_eq] at *; exact List.le_trans h1 h2
  have tt : ∀ a b : List UInt8, (decide (a ≤ b) || decide (b ≤ a)) = true := fun a b => by simp only [Bool.or_eq_true, decide_eq_true_eq]; exact List.le_total a b
  have h1 := List.pairwise_mergeSort tr tt ss
  have h2 : (ss.mergeSort fun x y => decide (x ≤ y)).Pairwise (· ≠ ·) := (List.mergeSort_perm ss _).nodup_iff.2 hn
  refine (h1.and h2).imp fun {a b} h => ?_
  have h3 : a ≤ b := by simpa using h.1
  rcases Classical.em (a < b) with h4 | h4
  · exact h4
  · exact absurd (List.le_antisymm h3 (List.not_lt.1 h4)) h.2
theorem strict_same {xs ys : List Tx} (h1 : xs.Pairwise (· < ·)) (h2 : ys.Pairwise (· < ·)) (h : ∀ a, a ∈ xs ↔ a ∈ ys) : xs = ys := by
  have nx : xs.Nodup := h1.imp fun {a b} h e => by subst e; exact List.lt_irrefl a h
  have ny : ys.Nodup := h2.imp fun {a b} h e => by subst e; exact List.lt_irrefl a h
  exact List.Perm.eq_of_pairwise (le := (· < ·)) (fun a b _ _ h1 h2 => absurd h2 (List.lt_asymm h1)) h1 h2 ((List.perm_ext_iff_of_nodup nx ny).2 h)
def memA (rs : List En) (a : Tx) : Prop := ∃ r ∈ rs, ∃ x ∈ r.lines, x.1 = a
def AccPost (rs : List En) (w : World) (e : Ending) (w' : World) : Prop := ∃ (ns : List Tx) (A : Option Addr) (c : Nat), e = .returned (.slice A ns.length c) ∧ Rd w' A (ns.map encStr) ∧ ns.Pairwise (· < ·) ∧ (∀ a, a ∈ ns ↔ memA rs a) ∧ ns.length ≤ 12000 ∧ Below w.heap.size w w'
set_option maxRecDepth 100000 in
set_option maxHeartbeats 4000000 in
theorem paccts (B : World) (G : Nat) (rs : List En) (hrs : rs.length ≤ 400) (hsm : ∀ r ∈ rs, r.lines.length ≤ 30 ∧ ∀ x ∈ r.lines, x.1.length ≤ 9223372036854775807) (w : World) (h : Pl B G rs w) :
    Calls Tryz.prog 15 #[.pointer (some ⟨G, 0, none⟩)] w (AccPost rs w) := by
  have hmm := @run_makeMap Tryz.prog
  have hM := SK.made w
  have hb0 := ext_alloc w (.map #[] 0)
  obtain ⟨LA, lc, k0, hens⟩ := h.ens
  have k0 := cell_ext hb0 k0
  obtain ⟨W1, hW1⟩ : ∃ W1, W1 = w.alloc (.map #[] 0) := ⟨_, rfl⟩
  obtain ⟨M, hMe⟩ : ∃ M, M = w.heap.size := ⟨_, rfl⟩
  rw [← hW1] at hM hb0 k0
  rw [← hMe] at hM
  have HEn := Lib.hid hens
  have HM := Lib.hid hM
  have HB1 := Lib.hid hb0
  have HMw := Lib.hid (show w.heap.size ≤ M from by omega)
  clear h hens hM hb0
  go_enter Tryz.func15, Tryz.ntmps15
  go_upto_region 2 with fail
  rw [← hW1, ← hMe]
  clear hW1 hMe hmm
  go_wp2_with fail
  go_loopw [14] (fun s14 wr => ∃ (i n : Nat), s14 = .int .i64 i ∧ i ≤ rs.length ∧ n ≤ 30 * i ∧ Hid (SK wr M n (memA (rs.take i))) ∧ Hid (Below w.heap.size w wr)) (fun s14 _ => rs.length - (intOf s14).toNat)
  case atStart => exact ⟨0, 0, rfl, Nat.zero_le _, by omega, (show SK W1 M 0 (memA (rs.take 0)) from HM.out.congrL fun s => by simp [memA]), HB1.out⟩
  case round =>
    clear HM HB1 k0
    obtain ⟨i, n, rfl, hi, hn, HS, HB⟩ := hrel
    by_cases hlt : i < rs.length
    · have hcl : (i : Int) < (rs.length : Int) := by omega
      have hi4 : (i : Int) ≤ 400 := by omega
      obtain ⟨b, o, e1, x0, x1, x2⟩ := en_at (HEn.out.rows.ext HB.out) hlt
      have HTk := Lib.hid (List.take_succ_eq_append_getElem hlt)
      have HRl := Lib.hid (HEn.out.lns _ (List.getElem_mem hlt))
      have HSr := Lib.hid (hsm _ (List.getElem_mem hlt))
      subst e1
      generalize rs[i] = r at x0 x1 x2 HTk HRl HSr
      have hrl : r.lines.length ≤ 30 := HSr.out.1
      have xa := ext_alloc wr (.cells #[.int .i64 r.day, .string ⟨r.text.toArray⟩, .slice r.A r.lines.length r.c] 36)
      have ba := Blk.new wr 36 [.int .i64 r.day, .string ⟨r.text.toArray⟩, .slice r.A r.lines.length r.c]
      obtain ⟨V, hV⟩ : ∃ V, V = wr.alloc (.cells #[.int .i64 r.day, .string ⟨r.text.toArray⟩, .slice r.A r.lines.length r.c] 36) := ⟨_, rfl⟩
      obtain ⟨R, hR⟩ : ∃ R, R = wr.heap.size := ⟨_, rfl⟩
      rw [← hV] at xa ba
      rw [← hR] at ba
      have HSv := Lib.hid (HS.out.ext xa)
      have HBv := Lib.hid (ext_trans HB.out xa)
      have m2 := ba.cell 2 rfl
      clear xa ba HB HS
      go_upto_region 5 with fail
      rw [← hV, ← hR]
      clear hV hR x0 x1 x2
      go_wp2_with fail
      go_loopw [21] (fun s21 wr => ∃ (k m : Nat), s21 = .int .i64 k ∧ k ≤ r.lines.length ∧ m ≤ 30 * i + k ∧ Hid (SK wr M m (fun a => memA (rs.take i) a ∨ ∃ x ∈ r.lines.take k, x.1 = a)) ∧ Hid (Below w.heap.size w wr)) (fun s21 _ => r.lines.length - (intOf s21).toNat)
      case atStart => exact ⟨0, n, rfl, Nat.zero_le _, by omega, (show SK V M n _ from HSv.out.congrL fun s => by simp), HBv.out⟩
      case round =>
        clear HSv HBv m2
        obtain ⟨k, m, rfl, hk, hm, HS, HB⟩ := hrel
        by_cases hkl : k < r.lines.length
        · have hkc : (k : Int) < (r.lines.length : Int) := by omega
          have hki : (k : Int) ≤ 30 := by omega
          obtain ⟨b2, o2, e2, y0, y1⟩ := ln_at (HRl.out.ext HB.out) hkl
          have HTl := Lib.hid (List.take_succ_eq_append_getElem hkl)
          have HLz := Lib.hid (HSr.out.2 _ (List.getElem_mem hkl))
          have HRA := Lib.hid e2
          generalize r.lines[k] = z at y0 y1 HTl HLz
          obtain ⟨zn, zc⟩ := z
          simp only at y0 y1
          have xa := ext_alloc wr (.cells #[.string ⟨zn.toArray⟩, .int .i64 zc] 49)
          have ba := Blk.new wr 49 [.string ⟨zn.toArray⟩, .int .i64 zc]
          have hsk := HS.out.ext xa
          obtain ⟨U, hU⟩ : ∃ U, U = wr.alloc (.cells #[.string ⟨zn.toArray⟩, .int .i64 zc] 49) := ⟨_, rfl⟩
          obtain ⟨Q, hQ⟩ : ∃ Q, Q = wr.heap.size := ⟨_, rfl⟩
          rw [← hU] at xa ba hsk
          rw [← hQ] at ba
          have z0 := ba.cell 0 rfl
          obtain ⟨w5, hup, hsk5, hg5⟩ := hsk.upd (s := zn) HLz.out (show m < maxLen from by unfold maxLen; omega)
          have HB5 := Lib.hid ((ext_trans HB.out xa).grown hg5 (ext_trans HB.out xa).size (fun g hg => by obtain rfl := Option.some.inj hg; exact HMw.out))
          have HS5 := Lib.hid (show SK w5 M (m + 1) (fun a => memA (rs.take i) a ∨ ∃ x ∈ r.lines.take (k + 1), x.1 = a) from hsk5.congrL fun a => by
            rw [HTl.out]
            constructor
            · rintro (rfl | h | ⟨x, hx, rfl⟩)
              · exact .inr ⟨_, List.mem_append_right _ (List.mem_singleton.2 rfl), rfl⟩
              · exact .inl h
              · exact .inr ⟨x, List.mem_append_left _ hx, rfl⟩
            · rintro (h | ⟨x, hx, rfl⟩)
              · exact .inr (.inl h)
              · rcases List.mem_append.1 hx with hx | hx
                · exact .inr (.inr ⟨x, hx, rfl⟩)
                · obtain rfl := List.mem_singleton.1 hx
                  exact .inl rfl)
          clear xa ba hsk hsk5 hg5
          go_upto_region 8 with fail
          rw [← hU, ← hQ]
          clear hU hQ y0 y1 e2
          go_wp2_with fail
          go_roundw
          case rel => exact ⟨k + 1, m + 1, by go_num, by omega, by omega, HS5.out, HB5.out⟩
          case measure => show r.lines.length - (k + 1) < r.lines.length - k; omega
        · have hkc : ¬ (k : Int) < (r.lines.length : Int) := by omega
          have HSn := Lib.hid (show SK wr M m (memA (rs.take (i + 1))) from HS.out.congrL fun a => by
            rw [HTk.out, List.take_of_length_le (l := r.lines) (i := k) (by omega)]
            unfold memA
            constructor
            · rintro (⟨q, hq, h⟩ | h)
              · exact ⟨q, List.mem_append_left _ hq, h⟩
              · exact ⟨r, List.mem_append_right _ (List.mem_singleton.2 rfl), h⟩
            · rintro ⟨q, hq, h⟩
              rcases List.mem_append.1 hq with hq | hq
              · exact .inl ⟨q, hq, h⟩
              · obtain rfl := List.mem_singleton.1 hq
                exact .inr h)
          go_wp2_with fail
          go_roundw
          case rel => exact ⟨i + 1, m, by go_num, by omega, by omega, HSn.out, HB.out⟩
          case measure => show rs.length - (i + 1) < rs.length - i; omega
    · have hcl : ¬ (i : Int) < (rs.length : Int) := by omega
      have hsk := HS.out
      rw [List.take_of_length_le (by omega)] at hsk
      obtain ⟨D, hD, hs⟩ := hsk
      have hko := keys_of hD
      have hsz := hD.size_le
      have HKs := Lib.hid (show Calls Tryz.prog 54 #[.map (some M)] wr _ from callsIn_wide.1 (Tryz.maps_Keys_54 (some M) wr))
      have HSo := Lib.hid (callsIn_wide.1 (Tryz.slices_Sorted_keys_53_54 M n D rdb wr hD (by unfold maxLen; omega) (by omega)))
      have HD := Lib.hid (And.intro hko hs)
      have HLen := Lib.hid (show Maps.size D ≤ 12000 from by omega)
      clear hD hs hko hsz
      go_wp2_with fail
      refine HKs.out.mono ?_
      rintro e w2 ⟨rfl, rfl⟩
      go_wp2_with fail
      refine HSo.out.mono ?_
      rintro e w3 ⟨v, ss, rfl, hp, hrow, hnil, hb⟩
      obtain ⟨A, c, rfl, _, _⟩ := own_slice hrow
      obtain ⟨⟨hk1, hk2, hk3, hk4⟩, hs⟩ := HD.out
      have HF := Lib.hid (show AccPost rs w (.returned (.slice A ss.length c)) w3 from by
        refine ⟨ss.mergeSort fun x y => decide (x ≤ y), A, c, by rw [List.length_mergeSort], Rd.of_own hrow, sort_strict (hp.nodup_iff.2 hk1), fun a => ?_, by rw [List.length_mergeSort, hp.length_eq, hk4]; exact HLen.out, ext_trans HB.out (ext_trans (ext_alloc wr _) hb)⟩
        rw [(List.mergeSort_perm ss _).mem_iff, hp.mem_iff]
        constructor
        · intro h
          have hl := hk3 a h
          unfold maxLen at hl
          exact (hs a (by omega)).1 ((hk2 a).1 h)
        · rintro ⟨r, hr, x, hx, rfl⟩
          exact (hk2 _).2 ((hs _ ((hsm r hr).2 x hx)).2 ⟨r, hr, x, hx, rfl⟩))
      clear hp hrow hnil hb hk1 hk2 hk3 hk4 hs
      go_wp2_with fail
      go_ret
      exact HF.out
end Go.Proofs.YtdnhfcphmbhloaaGreatDoor.Lk

/- LedgerKeeps: the walk of the law. -/
import Derived.Test.YtdnhfcphmbhloaaGreatDoorLkU
import Derived.Test.YtdnhfcphmbhloaaGreatDoorLkR
import Derived.Test.YtdnhfcphmbhloaaGreatDoorCoded1
namespace Go.Proofs.YtdnhfcphmbhloaaGreatDoor.Lk
open Go.RowKit Mem Nest Fk Msi Err

theorem post_range (rs : List En) (d lc : Int) (ls : List Ln) : 0 ≤ postC rs d lc ls ∧ postC rs d lc ls ≤ 8 := by
  unfold postC
  repeat' split
  all_goals omega
theorem coded_errI (E : Nat → Addr) (c : Int) (h0 : 0 ≤ c) (h8 : c ≤ 8) (w : World) (hE : Errs w E) : Calls Tryz.prog 11 #[errI E c, .int .i64 c] w (RetG true w) := by
  unfold errI
  by_cases hc : c = 0
  · subst hc
    rw [if_pos rfl]
    exact (coded5_nil (0 : Int) w).mono fun e w' h => ⟨by rw [h.1]; simp, by rw [← h.2]; exact Below.refl _ _⟩
  · rw [if_neg hc]
    exact (coded5_sent (c.toNat - 1) (by omega) c E w hE).mono fun e w' h => ⟨by rw [h.1, decide_eq_true (by omega)], h.2⟩
theorem Pl.lf {B : World} {G C : Nat} {rs : List En} {w w' : World} (h : Pl B G rs w) (hf : Lf C 27 30 w w') (hC : B.heap.size ≤ C) : Pl B G rs w' := by
  obtain ⟨h1, h2, ⟨A, c, h3, h4⟩, h5⟩ := h
  exact ⟨hf.below h1 hC, h2, ⟨A, c, hf.blk h3 (by decide) (by decide), hf.own h4 (by decide) (by decide)⟩, fun r hr => hf.rdk (h5 r hr) (by decide) (by decide)⟩
theorem Rl.lf {B : World} {G C : Nat} {rs : List En} {w w' : World} (h : Rl B G rs w) (hf : Lf C 95 36 w w') (hC : B.heap.size ≤ C) : Rl B G rs w' := by
  obtain ⟨h1, h2, ⟨A, c, h3, h4⟩, h5⟩ := h
  exact ⟨hf.below h1 hC, h2, ⟨A, c, hf.blk h3 (by decide) (by decide), hf.own h4 (by decide) (by decide)⟩, h5⟩
/-- what the lines of the accounts of a set come to -/
def lnM (P : Tx → Bool) (on day : Int) : List Ln → Int
  | [] => 0
  | x :: l => (if decide (day ≤ on) && P x.1 then x.2 else 0) + lnM P on day l
def balM (P : Tx → Bool) (on : Int) : List En → Int
  | [] => 0
  | r :: l => lnM P on r.day r.lines + balM P on l
theorem lnm_add (P Q : Tx → Bool) (a : Tx) (ha : P a = false) (hQ : ∀ x, Q x = (P x || x == a)) (on day : Int) : ∀ ls : List Ln, lnM Q on day ls = lnM P on day ls + lnS a on day ls
  | [] => rfl
  | x :: l => by
    simp only [lnM, lnS, lnm_add P Q a ha hQ on day l]
    unfold lnA
    rw [hQ]
    by_cases e : x.1 = a
    · rw [e, ha]
      cases decide (day ≤ on) <;> simp
      omega
    · have e2 : (x.1 == a) = false := by simpa using e
      rw [e2]
      cases decide (day ≤ on) <;> cases P x.1 <;> simp <;> omega
theorem balm_add (P Q : Tx → Bool) (a : Tx) (ha : P a = false) (hQ : ∀ x, Q x = (P x || x == a)) (on : Int) : ∀ rs : List En, balM Q on rs = balM P on rs + balS a on rs
  | [] => rfl
  | r :: l => by
    simp only [balM, balS, balm_add P Q a ha hQ on l, lnm_add P Q a ha hQ]
    omega
theorem lnm_small (P : Tx → Bool) (on day : Int) (ls : List Ln) (h : ∀ x ∈ ls, Small1 x.2) : -(1000000000000 * (ls.length : Int)) ≤ lnM P on day ls ∧ lnM P on day ls ≤ 1000000000000 * (ls.length : Int) := by
  induction ls with
  | nil => simp [lnM]
  | cons x l ih =>
    have h1 : Small1 x.2 := h x List.mem_cons_self
    have h2 := ih fun y hy => h y (List.mem_cons_of_mem _ hy)
    unfold Small1 at h1
    simp only [lnM, List.length_cons]
    split <;> omega
theorem balm_small (P : Tx → Bool) (on : Int) (rs : List En) (h : ∀ r ∈ rs, r.lines.length ≤ 30 ∧ ∀ x ∈ r.lines, Small1 x.2) : -(30000000000000 * (rs.length : Int)) ≤ balM P on rs ∧ balM P on rs ≤ 30000000000000 * (rs.length : Int) := by
  induction rs with
  | nil => simp [balM]
  | cons r l ih =>
    have h0 := h r List.mem_cons_self
    have h1 := lnm_small P on r.day r.lines h0.2
    have h2 := ih fun y hy => h y (List.mem_cons_of_mem _ hy)
    have h3 := h0.1
    simp only [balM, List.length_cons]
    omega
theorem lnm_all (P : Tx → Bool) (on day : Int) : ∀ ls : List Ln, (∀ x ∈ ls, P x.1 = true) → lnM P on day ls = if day ≤ on then sumE ls else 0
  | [], _ => by simp [lnM, sumE]
  | x :: l, h => by
    have e : sumE (x :: l) = x.2 + sumE l := rfl
    simp only [lnM, lnm_all P on day l fun y hy => h y (List.mem_cons_of_mem _ hy), h x List.mem_cons_self, e]
    by_cases g : day ≤ on
    · simp [g]
    · simp [g]
theorem balm_zero (P : Tx → Bool) (on : Int) : ∀ rs : List En, (∀ r ∈ rs, sumE r.lines = 0 ∧ ∀ x ∈ r.lines, P x.1 = true) → balM P on rs = 0
  | [], _ => rfl
  | r :: l, h => by
    have h0 := h r List.mem_cons_self
    simp only [balM, balm_zero P on l fun y hy => h y (List.mem_cons_of_mem _ hy), lnm_all P on r.day r.lines h0.2, h0.1]
    simp
theorem acc_sum {qs : List En} (h : Acc qs) : ∀ r ∈ qs, sumE r.lines = 0 := fun r hr => by
  obtain ⟨k, hk, rfl⟩ := List.mem_iff_getElem.1 hr
  exact (post_zero (h k hk)).2.2.2.2.2.2.2
theorem leq_str (a p : Tx) (w : World) : (binOp .leq 9 (.string ⟨a.toArray⟩) (.string ⟨p.toArray⟩)).run Tryz.prog w = .ok (.bool (Op.bytesLess a p || a == p)) w := by
  have h : (binOp .leq 9 (.string ⟨a.toArray⟩) (.string ⟨p.toArray⟩)).run Tryz.prog w = .ok (.bool (Op.bytesLess (ByteArray.toList ⟨a.toArray⟩) (ByteArray.toList ⟨p.toArray⟩) || ByteArray.toList ⟨a.toArray⟩ == ByteArray.toList ⟨p.toArray⟩)) w := by kernel_rfl
  rw [h]
  simp
/-- an entry as it came -/
def Raw (r : En) : Prop := r.lines.length ≤ 9223372036854775807 ∧ r.text.length ≤ 9223372036854775807 ∧ ∀ x ∈ r.lines, x.1.length ≤ 9223372036854775807
set_option maxRecDepth 100000 in
set_option maxHeartbeats 4000000 in
theorem lk_walk (E : Nat → Addr) (ds : List En) (hdl : ds.length ≤ 9223372036854775807) (hraw : ∀ r ∈ ds, Raw r) (LA : Option Addr) (lc : Nat) (ac : Tx) (hac : ac.length ≤ 9223372036854775807) (on : Int) (w : World) (hE : Errs w E) (hEn : Ens w LA ds) :
    Calls Tryz.prog 3 #[.slice LA ds.length lc, .string ⟨ac.toArray⟩, .int .i64 on] w fun e w' => e = .returned (.bool true) ∧ Below w.heap.size w w' := by
  have HE := Lib.hid hE
  have HEn := Lib.hid hEn
  have HRaw := Lib.hid hraw
  clear hE hEn hraw
  have x1 := ext_alloc w (.cells #[.slice none 0 0] 95)
  have p1 := pl_new w
  have HNw := Lib.hid (pnew w)
  obtain ⟨G1, hG1⟩ : ∃ G, G = w.heap.size := ⟨_, rfl⟩
  obtain ⟨W1, hW1⟩ : ∃ V, V = w.alloc (.cells #[.slice none 0 0] 95) := ⟨_, rfl⟩
  rw [← hG1, ← hW1] at p1 HNw
  rw [← hW1] at x1
  have x2 := ext_alloc W1 (.cells #[.slice none 0 0] 27)
  have b2 := Blk.new W1 27 [.slice none 0 0]
  obtain ⟨G2, hG2⟩ : ∃ G, G = W1.heap.size := ⟨_, rfl⟩
  obtain ⟨W2, hW2⟩ : ∃ V, V = W1.alloc (.cells #[.slice none 0 0] 27) := ⟨_, rfl⟩
  rw [← hW2] at x2 b2
  rw [← hG2] at b2
  have HP := Lib.hid (p1.ext x2)
  have HR := Lib.hid (show Rl w G2 [] W2 from ⟨ext_trans x1 x2, by rw [hG2]; exact x1.size, ⟨none, 0, b2, World.ownsRow_nil _ _ _ _⟩, fun r hr => by cases hr⟩)
  have HG1 := Lib.hid (show w.heap.size ≤ G1 from by omega)
  have HG2 := Lib.hid (show w.heap.size ≤ G2 from HR.out.hG)
  have HX1 := Lib.hid x1
  clear x1 p1 x2 b2 hG1 hW1
  go_enter Tryz.func3, Tryz.ntmps3
  go_wp2_with fail
  refine HNw.out.mono ?_
  rintro e w1' ⟨rfl, rfl⟩
  by_cases g1 : 402 < ds.length
  · have g1' : (402 : Int) < ds.length := by omega
    clear g1
    go_wp2_with fail
    go_ret
    exact ⟨rfl, HX1.out⟩
  have g1' : ¬ (402 : Int) < ds.length := by omega
  by_cases g2 : 100 < ac.length
  · have g2' : (100 : Int) < ac.length := by omega
    clear g1 g2
    go_wp2_with fail
    go_ret
    exact ⟨rfl, HX1.out⟩
  have g2' : ¬ (100 : Int) < ac.length := by omega
  have hdn : ds.length ≤ 402 := by omega
  clear g1 g2 hdl hac HNw
  go_upto_region 7 with fail
  rw [← hW2, ← hG2]
  clear hW2 hG2
  go_wp2_with fail
  go_loopw [9] (fun s9 wr => ∃ (i : Nat) (rs qs : List En), s9 = .int .i64 i ∧ i ≤ ds.length ∧ Hid (Pl w G1 rs wr) ∧ Hid (Rl w G2 qs wr) ∧ Hid (rs.map strip = qs.map strip) ∧ Hid (Acc qs) ∧ Hid (∀ r ∈ qs, Bd r)) (fun s9 _ => ds.length - (intOf s9).toNat)
  case atStart => exact ⟨0, [], [], rfl, Nat.zero_le _, HP.out, HR.out, rfl, (fun k hk => absurd hk (Nat.not_lt_zero _)), (fun r hr => by cases hr)⟩
  case round =>
    clear HP HR
    obtain ⟨i, rs, qs, rfl, hi, HP, HR, HS, HA, HB⟩ := hrel
    by_cases hlt : i < ds.length
    · have hcl : (i : Int) < (ds.length : Int) := by omega
      have hi4 : (i : Int) ≤ 402 := by omega
      obtain ⟨b, o, e1, x0, x1, x2⟩ := en_at (HEn.out.rows.ext HP.out.below) hlt
      obtain ⟨b', o', e1', z0, z1, z2⟩ := en_at HEn.out.rows hlt
      have hrl := HRaw.out _ (List.getElem_mem hlt)
      have HRl := Lib.hid (HEn.out.lns _ (List.getElem_mem hlt))
      subst e1
      cases e1'
      generalize ds[i] = r at x0 x1 x2 z0 z1 z2 hrl HRl
      obtain ⟨hr1, hr2, hr3⟩ := hrl
      have hql := acc_len HA.out
      by_cases g1 : 30 < r.lines.length
      · have g1' : (30 : Int) < r.lines.length := by omega
        have HXf := Lib.hid HP.out.below
        clear g1
        go_wp2_with fail
        go_ret
        exact ⟨rfl, HXf.out⟩
      have g1' : ¬ (30 : Int) < r.lines.length := by omega
      by_cases g2 : 1000 < r.text.length
      · have g2' : (1000 : Int) < r.text.length := by omega
        have HXf := Lib.hid HP.out.below
        clear g1 g2
        go_wp2_with fail
        go_ret
        exact ⟨rfl, HXf.out⟩
      have g2' : ¬ (1000 : Int) < r.text.length := by omega
      have hl30 : r.lines.length ≤ 30 := by omega
      have ht1k : r.text.length ≤ 1000 := by omega
      clear g1 g2 hr1 hr2
      have HEt := Lib.hid (lentry r.day r.text r.lines hl30 r.A r.c wr (HRl.out.ext HP.out.below))
      obtain ⟨cd, hcd⟩ : ∃ cd, cd = postC qs r.day (Gp.lineC r.text) r.lines := ⟨_, rfl⟩
      have hcr := post_range qs r.day (Gp.lineC r.text) r.lines
      rw [← hcd] at hcr
      obtain ⟨hc0, hc8⟩ := hcr
      have hcd2 : postC rs r.day (Gp.lineC r.text) r.lines = cd := by rw [hcd]; exact post_strip HS.out _ _ _
      have HCd := Lib.hid (And.intro hcd hcd2)
      have HBr := Lib.hid (show ∀ r ∈ rs, r.lines.length ≤ 30 ∧ ∀ x ∈ r.lines, Small1 x.2 from all_strip (P := fun _ _ ls => ls.length ≤ 30 ∧ ∀ x ∈ ls, Small1 x.2) HS.out.symm (fun r hr => (HB.out r hr).1))
      have hlr : rs.length ≤ 400 := by rw [len_strip HS.out]; exact hql
      have HNb := Lib.hid (show cd = 0 → Bd r ∧ Acc (qs ++ [r]) from fun h => ⟨⟨⟨hl30, small_all (post_zero (hcd.symm.trans h)).2.2.2.2.2.2.1⟩, ht1k, hr3⟩, acc_snoc HA.out r (hcd.symm.trans h)⟩)
      clear hcd hcd2
      go_wp2_with fail
      refine HEt.out.mono ?_
      rintro e w3 ⟨A3, c3, rfl, hrd3, _, _, hb3⟩
      have HPo := Lib.hid (ppost E w G1 rs hlr HBr.out r.day r.text ht1k r.lines hl30 hr3 A3 c3 w3 (HE.out.below (ext_trans HP.out.below hb3)) (HP.out.ext hb3) hrd3)
      have HR3 := Lib.hid (HR.out.ext hb3)
      have HP3 := Lib.hid (HP.out.ext hb3)
      clear hrd3 hb3 HEt
      go_wp2_with fail
      refine HPo.out.mono ?_
      rintro e w4 ⟨rfl, hw4⟩
      rw [HCd.out.2] at hw4 ⊢
      obtain ⟨ev, hev⟩ : ∃ ev, ev = errI E cd := ⟨_, rfl⟩
      rw [← hev]
      have HEv := Lib.hid hev
      have HQ4 := Lib.hid (show (∃ rs', Pl w G1 rs' w4 ∧ ((cd ≠ 0 ∧ rs' = rs) ∨ (cd = 0 ∧ ∃ A c, rs' = rs ++ [⟨r.day, r.text, r.lines, A, c⟩]))) ∧ Rl w G2 qs w4 from by
        rcases hw4 with ⟨h1, h2⟩ | ⟨h1, ⟨A, c, h2⟩, h3⟩
        · exact ⟨⟨rs, HP3.out.ext h2, .inl ⟨h1, rfl⟩⟩, HR3.out.ext h2⟩
        · exact ⟨⟨_, h2, .inr ⟨h1, A, c, rfl⟩⟩, HR3.out.lf h3 HG1.out⟩)
      clear hw4 hev HPo
      obtain ⟨⟨rs4, hp4, hrs4⟩, hr4⟩ := HQ4.out
      have HP4 := Lib.hid hp4
      have HR4 := Lib.hid hr4
      have HRs4 := Lib.hid hrs4
      have z0 := cell_ext hp4.below z0
      have z1 := cell_ext hp4.below z1
      have z2 := cell_ext hp4.below z2
      have HRp := Lib.hid (rpost w G2 qs (by omega) (fun r hr => (HB.out r hr).1) r.day r.text ht1k r.lines hl30 hr3 r.A r.c w4 hr4 HRl.out)
      clear hp4 hr4 hrs4 HQ4 x0 x1 x2
      go_wp2_with fail
      refine HRp.out.mono ?_
      rintro e w5 ⟨rfl, hw5⟩
      rw [← HCd.out.1] at hw5 ⊢
      have HQ5 := Lib.hid (show ∃ qs', Rl w G2 qs' w5 ∧ Pl w G1 rs4 w5 ∧ rs4.map strip = qs'.map strip ∧ Acc qs' ∧ ∀ r ∈ qs', Bd r from by
        rcases hw5 with ⟨h1, h2⟩ | ⟨h1, h2, h3⟩
        · refine ⟨qs, HR4.out.ext h2, HP4.out.ext h2, ?_, HA.out, HB.out⟩
          rcases HRs4.out with ⟨_, h⟩ | ⟨h, _⟩
          · rw [h]; exact HS.out
          · exact absurd h h1
        · refine ⟨_, h2, HP4.out.lf h3 HG2.out, ?_, acc_strip (xs := qs ++ [r]) (by simp [strip]) (HNb.out h1).2, ?_⟩
          · rcases HRs4.out with ⟨h, _⟩ | ⟨_, A, c, h⟩
            · exact absurd h1 h
            · rw [h, List.map_append, List.map_append, HS.out]
              rfl
          · intro q hq
            rcases List.mem_append.1 hq with hq | hq
            · exact HB.out q hq
            · obtain rfl := List.mem_singleton.1 hq
              exact (HNb.out h1).1)
      obtain ⟨qs5, hr5, hp5, hs5, ha5, hb5⟩ := HQ5.out
      have HR5 := Lib.hid hr5
      have HP5 := Lib.hid hp5
      have HS5 := Lib.hid hs5
      have HA5 := Lib.hid ha5
      have HB5 := Lib.hid hb5
      have HCo := Lib.hid (show Calls Tryz.prog 11 #[ev, .int .i64 cd] w5 (RetG true w5) from by rw [HEv.out]; exact coded_errI E cd hc0 hc8 w5 (HE.out.below hp5.below))
      clear hw5 hr5 hp5 hs5 ha5 hb5 HQ5 HRp z0 z1 z2
      go_wp2_with fail
      refine HCo.out.mono ?_
      rintro e w6 ⟨rfl, hb6⟩
      have HR6 := Lib.hid (HR5.out.ext hb6)
      have HP6 := Lib.hid (HP5.out.ext hb6)
      clear hb6
      go_wp2_with fail
      go_roundw
      case rel => exact ⟨i + 1, rs4, qs5, by go_num, by omega, HP6.out, HR6.out, HS5.out, HA5.out, HB5.out⟩
      case measure => show ds.length - (i + 1) < ds.length - i; omega
    · have hcl : ¬ (i : Int) < (ds.length : Int) := by omega
      have hql := acc_len HA.out
      have hrl : rs.length ≤ 400 := by rw [len_strip HS.out]; exact hql
      have HBr := Lib.hid (show ∀ r ∈ rs, Bd r from all_strip (P := fun _ t ls => (ls.length ≤ 30 ∧ ∀ x ∈ ls, Small1 x.2) ∧ t.length ≤ 1000 ∧ ∀ x ∈ ls, x.1.length ≤ 9223372036854775807) HS.out.symm HB.out)
      have HEs := Lib.hid (pentries w G1 rs hrl (fun r hr => (HBr.out r hr).1.1) wr HP.out)
      go_wp2_with fail
      refine HEs.out.mono ?_
      rintro e w4 ⟨hs, HAv, hcv, rfl, hst, hen, hb⟩
      have hlen : hs.length = qs.length := (len_strip hst).trans (len_strip HS.out)
      have HH := Lib.hid hen
      have HSt := Lib.hid (hst.trans HS.out)
      have HP4 := Lib.hid (HP.out.ext hb)
      have HR4 := Lib.hid (HR.out.ext hb)
      have HLe := Lib.hid hlen
      rw [hlen]
      obtain ⟨DA, dc, d0, hdE⟩ := HR4.out.ens
      have HD := Lib.hid hdE
      have HD0 := Lib.hid d0
      have qn : ((qs.length : Int) != (qs.length : Int)) = false := by simp
      clear hst hen hb hlen hdE HEs HP HR
      go_wp2_with fail
      go_loopw [13] (fun s13 wr => ∃ k : Nat, s13 = .int .i64 k ∧ k ≤ qs.length ∧ Hid (Below w4.heap.size w4 wr)) (fun s13 _ => qs.length - (intOf s13).toNat)
      case atStart => exact ⟨0, rfl, Nat.zero_le _, Below.refl _ _⟩
      case round =>
        clear d0
        obtain ⟨k, rfl, hk, HBk⟩ := hrel
        by_cases hkl : k < qs.length
        · have hkc : (k : Int) < (qs.length : Int) := by omega
          have hki : (k : Int) ≤ 400 := by omega
          have hkh : k < hs.length := by have := HLe.out; omega
          obtain ⟨b1, o1, e1, x0, x1, x2⟩ := en_at (HH.out.rows.ext HBk.out) hkh
          obtain ⟨b2, o2, e2, y0, y1, y2⟩ := en_at (HD.out.rows.ext HBk.out) hkl
          have g0 := cell_ext HBk.out HD0.out
          have hsk : strip hs[k] = strip qs[k] := by
            have e : (hs.map strip)[k]'(by rw [List.length_map]; exact hkh) = (qs.map strip)[k]'(by rw [List.length_map]; exact hkl) := by simp only [HSt.out]
            rwa [List.getElem_map, List.getElem_map] at e
          unfold strip at hsk
          simp only [Prod.mk.injEq] at hsk
          obtain ⟨s0, s1, s2⟩ := hsk
          have HLh := Lib.hid (show Rd wr hs[k].A (qs[k].lines.flatMap lnCells) from by rw [← s2]; exact (HH.out.lns _ (List.getElem_mem hkh)).ext HBk.out)
          rw [s0] at x0
          rw [s1] at x1
          rw [s2] at x2
          have HLq := Lib.hid ((HD.out.lns _ (List.getElem_mem hkl)).ext HBk.out)
          have hbq := (HB.out _ (List.getElem_mem hkl)).1.1
          clear s0 s1 s2
          subst e1 e2
          generalize hs[k].A = xA at x2 HLh
          generalize hs[k].c = xc at x2
          generalize qs[k] = q at x0 x1 x2 y0 y1 y2 HLh HLq hbq
          have HCs := Lib.hid (show ∀ v, Below wr.heap.size wr v → Calls Tryz.prog 14 #[.agg #[.int .i64 q.day, .string ⟨q.text.toArray⟩, .slice xA q.lines.length xc], .agg #[.int .i64 q.day, .string ⟨q.text.toArray⟩, .slice q.A q.lines.length q.c]] v (fun e w' => e = .returned (.bool true) ∧ Below v.heap.size v w') from fun v hv => lsame q.day q.text q.lines (by omega) xA q.A xc q.c v (HLh.out.ext hv) (HLq.out.ext hv))
          have hdr := ext_drewN wr 1
          go_upto_region 22 with fail
          go_region_held3 (fun w' => w'.cell? ⟨b1, o1 + k * 3, none⟩ = some (.int .i64 q.day) ∧ w'.cell? ⟨b1, o1 + k * 3 + 1, none⟩ = some (.string ⟨q.text.toArray⟩) ∧ w'.cell? ⟨b1, o1 + k * 3 + 2, none⟩ = some (.slice xA q.lines.length xc) ∧ w'.cell? ⟨G2, 0, none⟩ = some (.slice (some ⟨b2, o2, none⟩) qs.length dc) ∧ w'.cell? ⟨b2, o2 + k * 3, none⟩ = some (.int .i64 q.day) ∧ w'.cell? ⟨b2, o2 + k * 3 + 1, none⟩ = some (.string ⟨q.text.toArray⟩) ∧ w'.cell? ⟨b2, o2 + k * 3 + 2, none⟩ = some (.slice q.A q.lines.length q.c))
            ((first | exact ⟨x0, x1, x2, g0, y0, y1, y2⟩ | exact ⟨cell_ext hdr x0, cell_ext hdr x1, cell_ext hdr x2, cell_ext hdr g0, cell_ext hdr y0, cell_ext hdr y1, cell_ext hdr y2⟩ | exact ⟨cell_ext HBs.out x0, cell_ext HBs.out x1, cell_ext HBs.out x2, cell_ext HBs.out g0, cell_ext HBs.out y0, cell_ext HBs.out y1, cell_ext HBs.out y2⟩))
            ((go_at_call 14; refine (HCs.out _ hdr).mono ?_; rintro e wc ⟨rfl, hb⟩; have HBs := Lib.hid (ext_trans hdr hb); clear hb))
          have HBt := Lib.hid (ext_trans HBk.out HBs.out)
          clear x0 x1 x2 g0 y0 y1 y2 hdr HBs HCs
          go_wp2_with fail
          go_roundw
          case rel => exact ⟨k + 1, by go_num, by omega, HBt.out⟩
          case measure => show qs.length - (k + 1) < qs.length - k; omega
        · have hkc : ¬ (k : Int) < (qs.length : Int) := by omega
          have HP5 := Lib.hid (HP4.out.ext HBk.out)
          have HR5 := Lib.hid (HR4.out.ext HBk.out)
          have HAc := Lib.hid (paccts w G1 rs hrl (fun r hr => ⟨(HBr.out r hr).1.1, (HBr.out r hr).2.2⟩) wr HP5.out)
          go_wp2_with fail
          refine HAc.out.mono ?_
          rintro e w7 ⟨ns, NA, nc, rfl, hn1, hn2, hn3, hn4, hb⟩
          have HN1 := Lib.hid hn1
          have HN2 := Lib.hid hn2
          have HN3 := Lib.hid hn3
          have HB7 := Lib.hid (ext_trans HBk.out hb)
          have HP7 := Lib.hid (HP5.out.ext hb)
          have HR7 := Lib.hid (HR5.out.ext hb)
          clear hn1 hn2 hn3 hb HAc HP5 HR5 HP4 HR4
          go_wp2_with fail
          go_loopw [16, 17] (fun s16 s17 wr => ∃ (s : Int) (k : Nat), s16 = .int .i64 s ∧ s17 = .int .i64 k ∧ k ≤ ns.length ∧ Hid (s = balM (fun x => decide (x ∈ ns.take k)) on rs) ∧ Hid (Below w7.heap.size w7 wr)) (fun _ s17 _ => ns.length - (intOf s17).toNat)
          case atStart => exact ⟨0, 0, rfl, rfl, Nat.zero_le _, (show (0 : Int) = _ from by
            have hz : ∀ l : List En, balM (fun x => decide (x ∈ ns.take 0)) on l = 0 := fun l => by
              have hy : ∀ (dd : Int) (m : List Ln), lnM (fun x => decide (x ∈ ns.take 0)) on dd m = 0 := fun dd m => by
                induction m with
                | nil => rfl
                | cons x m ih => simp only [lnM, ih]; simp
              induction l with
              | nil => rfl
              | cons r l ih => simp only [balM, ih, hy]; rfl
            exact (hz rs).symm), Below.refl _ _⟩
          case round =>
            obtain ⟨sm, k, rfl, rfl, hk3, HSm, HBj⟩ := hrel
            have hsb : -12000000000000000 ≤ sm ∧ sm ≤ 12000000000000000 := by
              have := balm_small (fun x => decide (x ∈ ns.take k)) on rs (fun r hr => (HBr.out r hr).1)
              rw [← HSm.out] at this
              omega
            obtain ⟨hsb1, hsb2⟩ := hsb
            by_cases hkn : k < ns.length
            · have hkc : (k : Int) < (ns.length : Int) := by omega
              have hki : (k : Int) ≤ 12000 := by omega
              obtain ⟨b2, o2, e2, y0⟩ := (HN1.out.ext HBj.out).at_ (k := k) (by rw [List.length_map]; exact hkn)
              rw [List.getElem_map] at y0
              have HNa := Lib.hid (show ∀ m, k = m + 1 → ∃ p : Tx, wr.cell? ⟨b2, o2 + m, none⟩ = some (.string ⟨p.toArray⟩) ∧ p < ns[k] from fun m hm => by
                obtain ⟨b3, o3, e3, y1⟩ := (HN1.out.ext HBj.out).at_ (k := m) (by rw [List.length_map]; omega)
                rw [List.getElem_map] at y1
                rw [e2] at e3
                cases e3
                exact ⟨ns[m]'(by omega), by exact y1, List.pairwise_iff_getElem.1 HN2.out m k (by omega) hkn (by omega)⟩)
              have HNo := Lib.hid (show ns[k] ∉ ns.take k from fun h => by
                obtain ⟨j, hj, e⟩ := List.mem_iff_getElem.1 h
                rw [List.length_take] at hj
                rw [List.getElem_take] at e
                have := List.pairwise_iff_getElem.1 HN2.out j k (by omega) hkn (by omega)
                rw [e] at this
                exact List.lt_irrefl _ this)
              have HTk := Lib.hid (List.take_succ_eq_append_getElem hkn)
              subst e2
              generalize ns[k] = a at y0 HTk HNa HNo
              replace y0 : wr.cell? ⟨b2, o2 + k, none⟩ = some (.string ⟨a.toArray⟩) := y0
              go_upto_region 30 with fail
              go_cut [124] from 105 to 133 (fun t w9 => t = .bool false ∧ Hid (Below wr.heap.size wr w9))
              case first =>
                have HD := Lib.hid (ext_drewN wr)
                by_cases hk0 : k = 0
                · have hk1 : ¬ (0 : Int) < (k : Int) := by omega
                  have hk2 : ¬ 0 < k := by omega
                  clear hk0
                  go_quiet (fail)
                  go_wp2_with fail
                  go_meet
                  exact ⟨rfl, HD.out _⟩
                · obtain ⟨m, hm⟩ : ∃ m, k = m + 1 := ⟨k - 1, by omega⟩
                  obtain ⟨p, y1, hpa⟩ := HNa.out m hm
                  have hk1 : (0 : Int) < (k : Int) := by omega
                  have hk2 : 0 < k := by omega
                  have hmk : (k : Int) - 1 = (m : Int) := by omega
                  have hmc : (m : Int) < (ns.length : Int) := by omega
                  have hz1 : Op.bytesLess a p = false := by rw [Proofs.bytesLess_eq]; exact decide_eq_false (List.lt_asymm hpa)
                  have hz2 : (a == p) = false := by simpa using fun e => List.lt_irrefl a (by rw [e] at hpa ⊢; exact hpa)
                  have hz3 : ∀ w, (binOp .leq 9 (.string ⟨a.toArray⟩) (.string ⟨p.toArray⟩)).run Tryz.prog w = .ok (.bool false) w := fun w => by rw [leq_str, hz1, hz2]; rfl
                  clear hm hk0 hpa hz1 hz2
                  go_quiet (fail)
                  go_wp2_with fail
                  go_meet
                  exact ⟨rfl, HD.out _⟩
              case rest =>
                obtain ⟨rfl, HBc⟩ := hcut
                obtain ⟨w9, rfl⟩ : ∃ w9, w9 = wc := ⟨_, rfl⟩
                have y0 := cell_ext HBc.out y0
                have HB9 := Lib.hid (ext_trans HBj.out HBc.out)
                obtain ⟨PA, pc, p0, hpe⟩ := (HP7.out.ext HB9.out).ens
                obtain ⟨bv, hbv⟩ : ∃ bv, bv = balS a on rs := ⟨_, rfl⟩
                have HBal := Lib.hid (pbal G1 0 PA pc rs (by omega) (fun r hr => (HBr.out r hr).1) a on w9 p0 hpe)
                have hbb := bal_small a on rs (fun r hr => (HBr.out r hr).1)
                rw [← hbv] at HBal hbb
                have hb1 : -12000000000000000 ≤ bv := by omega
                have hb2 : bv ≤ 12000000000000000 := by omega
                have HSn := Lib.hid (show sm + bv = balM (fun x => decide (x ∈ ns.take (k + 1))) on rs from by
                  rw [HSm.out, hbv, HTk.out]
                  exact (balm_add _ _ a (decide_eq_false HNo.out) (fun x => by
                    rw [Bool.eq_iff_iff]
                    simp) on rs).symm)
                clear p0 hpe hbv hbb
                go_wp2_with fail
                refine HBal.out.mono ?_
                rintro e w10 ⟨rfl, hb⟩
                have HB10 := Lib.hid (ext_trans HB9.out hb)
                clear hb HBal y0
                go_wp2_with fail
                go_roundw
                case rel => exact ⟨sm + bv, k + 1, by go_num, by go_num, by omega, HSn.out, HB10.out⟩
                case measure => show ns.length - (k + 1) < ns.length - k; omega
            · have hkc : ¬ (k : Int) < (ns.length : Int) := by omega
              have hs0 : sm = 0 := by
                rw [HSm.out, List.take_of_length_le (by omega)]
                exact balm_zero _ _ _ fun r hr => ⟨acc_sum (acc_strip HS.out.symm HA.out) r hr, fun x hx => decide_eq_true ((HN3.out _).2 ⟨r, hr, x, hx, rfl⟩)⟩
              subst hs0
              have HP8 := Lib.hid (HP7.out.ext HBj.out)
              have HR8 := Lib.hid (HR7.out.ext HBj.out)
              have HBx := Lib.hid (ext_trans HB7.out HBj.out)
              have HSh := Lib.hid (show Calls Tryz.prog 17 #[.slice HAv qs.length hcv] wr (SheetPost hs wr) from by
                rw [← HLe.out]
                exact psheet E hs (all_strip (P := fun _ t ls => (ls.length ≤ 30 ∧ ∀ x ∈ ls, Small1 x.2) ∧ t.length ≤ 1000 ∧ ∀ x ∈ ls, x.1.length ≤ 9223372036854775807) HSt.out.symm HB.out) (acc_strip HSt.out.symm HA.out) HAv hcv wr (HE.out.below HP8.out.below) ⟨HH.out.rows.ext HBx.out, fun r hr => (HH.out.lns r hr).ext HBx.out⟩)
              go_wp2_with fail
              refine HSh.out.mono ?_
              rintro e w8 ⟨ns2, SA, sc, rfl, hrd, hst2, hm2, _, hb⟩
              obtain rfl : ns2 = ns := strict_same hst2 HN2.out fun a => (hm2 a).trans (Iff.trans ⟨fun h => mem_strip (HSt.out.trans HS.out.symm) a h, fun h => mem_strip (HS.out.trans HSt.out.symm) a h⟩ (HN3.out a).symm)
              have HSd := Lib.hid (show Rd w8 SA ((ns2.map (balL qs)).flatMap lnCells) from by
                have e : balL hs = balL qs := funext fun a => by unfold balL; rw [bal_strip a _ HSt.out]
                rw [← e]
                exact hrd)
              have HP9 := Lib.hid (HP8.out.ext hb)
              have HR9 := Lib.hid (HR8.out.ext hb)
              have HB9 := Lib.hid (ext_trans HBj.out hb)
              have qn2 : ((ns2.length : Int) != (ns2.length : Int)) = false := by simp
              clear hrd hst2 hm2 hb HSh
              go_wp2_with fail
              go_loopw [20] (fun s20 wr => ∃ k : Nat, s20 = .int .i64 k ∧ k ≤ ns2.length ∧ Hid (Below w8.heap.size w8 wr)) (fun s20 _ => ns2.length - (intOf s20).toNat)
              case atStart => exact ⟨0, rfl, Nat.zero_le _, Below.refl _ _⟩
              case round =>
                obtain ⟨q, rfl, hq, HBq⟩ := hrel
                by_cases hqn : q < ns2.length
                · have hqc : (q : Int) < (ns2.length : Int) := by omega
                  have hqi : (q : Int) ≤ 12000 := by omega
                  obtain ⟨b2, o2, e2, y0⟩ := ((HN1.out.ext HB9.out).ext HBq.out).at_ (k := q) (by rw [List.length_map]; exact hqn)
                  rw [List.getElem_map] at y0
                  have hql2 : q < (ns2.map (balL qs)).length := by rw [List.length_map]; exact hqn
                  obtain ⟨b3, o3, e3, z0, z1⟩ := ln_at (HSd.out.ext HBq.out) hql2
                  rw [List.getElem_map] at z0 z1
                  subst e2 e3
                  generalize ns2[q] = a at y0 z0 z1
                  unfold balL at z0 z1
                  simp only at z0 z1
                  replace y0 : wr.cell? ⟨b2, o2 + q, none⟩ = some (.string ⟨a.toArray⟩) := y0
                  obtain ⟨DA2, dc2, g0, hde⟩ := (HR9.out.ext HBq.out).ens
                  obtain ⟨bv, hbv⟩ : ∃ bv, bv = balS a 3652059 qs := ⟨_, rfl⟩
                  have HRb := Lib.hid (show ∀ n, Calls Tryz.prog 18 #[.pointer (some ⟨G2, 0, none⟩), .string ⟨a.toArray⟩, .int .i64 3652059] (wr.drewN n) (fun e w' => e = .returned (.int .i64 bv) ∧ wr.drewN n = w') from fun n => by
                    rw [hbv]
                    exact rbalQ G2 0 DA2 dc2 qs (by omega) (fun r hr => (HB.out r hr).1) a 3652059 _ (cell_ext (ext_drewN wr n) g0) ⟨hde.rows.ext (ext_drewN wr n), fun r hr => (hde.lns r hr).ext (ext_drewN wr n)⟩)
                  rw [← hbv] at z1
                  clear g0 hde hbv
                  have ha : (a == a) = true := by simp
                  have hb0 : (bv == bv) = true := by simp
                  have HD := Lib.hid (ext_drewN wr)
                  go_upto_region 39 with fail
                  go_cut [177] from 148 to 177 (fun t w9 => t = .bool false ∧ Hid (Below wr.heap.size wr w9))
                  case first =>
                    go_quiet ((go_at_call 18; exact Calls.quiet_of_same ((HRb.out _).mono fun e w' h => ⟨h.1, h.2.symm⟩)))
                    go_wp2_with fail
                    go_meet
                    exact ⟨rfl, HD.out _⟩
                  case rest =>
                    obtain ⟨rfl, HBc⟩ := hcut
                    have HBz := Lib.hid (ext_trans HBq.out HBc.out)
                    clear y0 z0 z1
                    go_wp2_with fail
                    go_roundw
                    case rel => exact ⟨q + 1, by go_num, by omega, HBz.out⟩
                    case measure => show ns2.length - (q + 1) < ns2.length - q; omega
                · have hqc : ¬ (q : Int) < (ns2.length : Int) := by omega
                  obtain ⟨PA, pc, p0, hpe⟩ := (HP9.out.ext HBq.out).ens
                  obtain ⟨bv, hbv⟩ : ∃ bv, bv = balS ac on rs := ⟨_, rfl⟩
                  have HBal := Lib.hid (pbal G1 0 PA pc rs (by omega) (fun r hr => (HBr.out r hr).1) ac on wr p0 hpe)
                  rw [← hbv] at HBal
                  have HR10 := Lib.hid (HR9.out.ext HBq.out)
                  have HX := Lib.hid (HP9.out.ext HBq.out).below
                  have HBv := Lib.hid (show bv = balS ac on qs from by rw [hbv]; exact bal_strip ac on HS.out)
                  clear p0 hpe hbv
                  go_wp2_with fail
                  refine HBal.out.mono ?_
                  rintro e w11 ⟨rfl, hb⟩
                  obtain ⟨DA2, dc2, g0, hde⟩ := (HR10.out.ext hb).ens
                  have HRb := Lib.hid (show Calls Tryz.prog 18 #[.pointer (some ⟨G2, 0, none⟩), .string ⟨ac.toArray⟩, .int .i64 on] w11 (fun e w' => e = .returned (.int .i64 bv) ∧ w11 = w') from by
                    rw [HBv.out]
                    exact rbalQ G2 0 DA2 dc2 qs (by omega) (fun r hr => (HB.out r hr).1) ac on w11 g0 hde)
                  have HXf := Lib.hid (ext_trans HX.out hb)
                  have hb0 : (bv == bv) = true := by simp
                  clear g0 hde hb HBal
                  go_wp2_with fail
                  refine HRb.out.mono ?_
                  rintro e w12 ⟨rfl, rfl⟩
                  go_wp2_with fail
                  go_ret
                  exact ⟨rfl, HXf.out⟩
end Go.Proofs.YtdnhfcphmbhloaaGreatDoor.Lk

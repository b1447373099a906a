/- Terms' texts: the document's ReadTerm. -/
import Derived.Test.YtpbmamcmmogidaaDoorTmD
import Derived.Test.YtpbmamcmmogidaaDoorCrR
namespace Go.Proofs.YtpbmamcmmogidaaDoor.Tm
open Go.RowKit Mem Nest Cn Err Flt

def RTermPost (s : List UInt8) (w : World) (e : Ending) (w' : World) : Prop :=
  e = .returned (.tuple #[.agg #[.int .i64 (termF s).2.2.1, .int .i64 (termF s).2.2.2.1, .int .i64 (termF s).2.2.2.2], .agg #[.int .i64 (termF s).1, .int .i64 (termF s).2.1]]) ∧ Below w.heap.size w w'
theorem rtpost_of {s : List UInt8} {w w' : World} {o : Int × Int × Int × Int × Int} (ho : termF s = o) (hb : Below w.heap.size w w') :
    RTermPost s w (.returned (.tuple #[.agg #[.int .i64 o.2.2.1, .int .i64 o.2.2.2.1, .int .i64 o.2.2.2.2], .agg #[.int .i64 o.1, .int .i64 o.2.1]])) w' :=
  ⟨by rw [ho], hb⟩
theorem wd_len (u : Nat) : (wd u).length ≤ 12 := by
  unfold wd
  split <;> simp
section
variable {t : List UInt8}
theorem tr_end (h : t = []) : tailF t = (true, 0) := by rw [h]; rfl
theorem tr_comma (h0 : t ≠ []) (h : t[0]? ≠ some 44) : tailF t = (false, 0) := by rw [← tail_same]; unfold tailR; rw [if_neg h0, if_pos h]
theorem tr_blank (h0 : t ≠ []) (h1 : t[0]? = some 44) (h : t[1]? ≠ some 32) : tailF t = (false, 1) := by rw [← tail_same]; unfold tailR; rw [if_neg h0, if_neg (by simp [h1]), if_pos h]
theorem tr_next (h0 : t ≠ []) (h1 : t[0]? = some 44) (h2 : t[1]? = some 32) (h3 : hasP (t.drop 2) nextW = true) : tailF t = if 6 < t.length then (false, 6) else (true, 1) := by
  rw [← tail_same]; unfold tailR; rw [if_neg h0, if_neg (by simp [h1]), if_neg (by simp [h2]), if_pos h3]
theorem tr_bef (h0 : t ≠ []) (h1 : t[0]? = some 44) (h2 : t[1]? = some 32) (h3 : hasP (t.drop 2) nextW = false) (h4 : hasP (t.drop 2) befW = true) : tailF t = if 8 < t.length then (false, 8) else (true, 2) := by
  rw [← tail_same]; unfold tailR; rw [if_neg h0, if_neg (by simp [h1]), if_neg (by simp [h2]), if_neg (by simp [h3]), if_pos h4]
theorem tr_none (h0 : t ≠ []) (h1 : t[0]? = some 44) (h2 : t[1]? = some 32) (h3 : hasP (t.drop 2) nextW = false) (h4 : hasP (t.drop 2) befW = false) : tailF t = (false, 2) := by
  rw [← tail_same]; unfold tailR; rw [if_neg h0, if_neg (by simp [h1]), if_neg (by simp [h2]), if_neg (by simp [h3]), if_neg (by simp [h4])]
end
theorem DW.set {w wr : World} (h : DW w wr) {a : Addr} (ha : w.heap.size + 1 < a.block) (v : Value) : DW w (wr.setCell a v) :=
  ⟨blk_set h.t (by omega) v, blk_set h.f (by omega) v, h.b.setCell (by omega) v⟩
theorem UnitsAt.set {w : World} {B : Nat} (h : UnitsAt w B) {a : Addr} (ha : B ≠ a.block) (v : Value) : UnitsAt (w.setCell a v) B := fun i hi => cell_set_other (h i hi) ha v
set_option maxRecDepth 100000 in
set_option maxHeartbeats 8000000 in
theorem rterm_any (s : List UInt8) (w : World) (hl : s.length ≤ 3000) :
    Calls Tryd.prog 20 #[.string ⟨s.toArray⟩] w (RTermPost s w) := by
  have hD := DW.new w
  obtain ⟨W, hW⟩ : ∃ W, W = (w.alloc (.cells #[.int .i64 0, .int .i64 0, .int .i64 0] 45)).alloc (.cells #[.int .i64 0, .int .i64 0] 36) := ⟨_, rfl⟩
  rw [← hW] at hD
  have HD := Lib.hid hD
  have hls : (s.length : Int) ≤ 3000 := by omega
  clear hD
  go_enter Tryd.func20, Tryd.ntmps20
  go_upto_block 0 with fail
  rw [← hW]
  clear hW
  go_cut [4, 5] (fun s4 s5 wx => W = wx ∧ ∃ (k : Nat) (n : Int), s4 = .int .i64 k ∧ s5 = .int .i64 n ∧ k ≤ s.length ∧ 0 ≤ n ∧ n ≤ 10995116277769 ∧ Hid (NV n (valD (s.take k))) ∧ Hid (∀ j (h : j < s.length), j < k → isD s[j] = true) ∧ Hid (∀ h : k < s.length, isD s[k] = false))
  case first =>
    go_wp2_with fail
    go_loop [4, 5] (fun s4 s5 => ∃ (k : Nat) (n : Int), s4 = .int .i64 k ∧ s5 = .int .i64 n ∧ k ≤ s.length ∧ 0 ≤ n ∧ n ≤ 10995116277769 ∧ Hid (NV n (valD (s.take k))) ∧ Hid (∀ j (h : j < s.length), j < k → isD s[j] = true)) (fun s4 _ => (s.length - intOf s4).toNat)
    case atStart => exact ⟨0, 0, rfl, rfl, Nat.zero_le _, by omega, by omega, NV.start, fun j _ hj => absurd hj (by omega)⟩
    case round =>
      obtain ⟨k, n, rfl, rfl, hk, hn0, hn1, HN, HA⟩ := hrel
      by_cases hlt : k < s.length
      · have hltc : (k : Int) < (s.length : Int) := by omega
        have hsz : k < (ByteArray.mk s.toArray).size := hlt
        obtain ⟨c, hc⟩ : ∃ c : Int, (((ByteArray.mk s.toArray)[k]'hsz).toNat : Int) = c := ⟨_, rfl⟩
        have HC := Lib.hid (show (s[k].toNat : Int) = c from hc)
        go_wp2_with fail
        refine (rdigit_any _ _).mono ?_
        rintro e w' ⟨gd, rfl, hw', hgd⟩
        subst hw'
        have HGD := Lib.hid hgd
        clear hgd
        cases gd
        · have HDn := Lib.hid (show isD s[k] = false by
            have h := HGD.out
            have h2 := HC.out
            unfold isD
            have h3 : ¬ (48 ≤ c ∧ c ≤ 57) := fun h4 => by have := h.2 h4; cases this
            simp; omega)
          go_wp2_with fail
          go_meet
          exact ⟨rfl, k, n, rfl, rfl, hk, hn0, hn1, HN.out, HA.out, fun _ => HDn.out⟩
        · obtain ⟨cb1, cb2⟩ := HGD.out.1 rfl
          have hu : IntKind.u8.wrap (c - 48) = c - 48 := IntWalk.u8_in _ (by omega)
          have HDy := Lib.hid (show isD s[k] = true by have h2 := HC.out; unfold isD; simp; omega)
          have HDv := Lib.hid (show ((dv s[k] : Nat) : Int) = c - 48 by unfold dv; have := HC.out; omega)
          have HAn := Lib.hid (fun j (h : j < s.length) (hj : j < k + 1) => (show isD s[j] = true by
            by_cases e : j = k
            · subst e; exact HDy.out
            · exact HA.out j h (by omega)))
          by_cases hn : n < 1099511627776
          · have HN2 := Lib.hid (show NV (n * 10 + (c - 48)) (valD (s.take (k + 1))) by
              rw [valD_take hlt, ← HDv.out]
              exact HN.out.low hn (by have := HDv.out; omega))
            go_wp2_with fail
            go_round
            case rel => exact ⟨k + 1, n * 10 + (c - 48), by go_num, by go_num, by omega, by omega, by omega, HN2.out, HAn.out⟩
            case measure => simp [intOf]; omega
          · have HN2 := Lib.hid (show NV n (valD (s.take (k + 1))) by rw [valD_take hlt]; exact HN.out.high hn)
            go_wp2_with fail
            go_round
            case rel => exact ⟨k + 1, n, by go_num, rfl, by omega, by omega, by omega, HN2.out, HAn.out⟩
            case measure => simp [intOf]; omega
      · have hltc : ¬ (k : Int) < (s.length : Int) := by omega
        go_wp2_with fail
        go_meet
        exact ⟨rfl, k, n, rfl, rfl, hk, hn0, hn1, HN.out, HA.out, fun h => absurd h hlt⟩
  case rest =>
    obtain ⟨hwx, k, n, rfl, rfl, hk, hn0, hn1, HN, HA, HS⟩ := hcut
    subst hwx
    have HK := Lib.hid (kD_of HA.out hk HS.out)
    clear HA HS
    by_cases hk0 : k = 0
    · have HO := Lib.hid (term_zero (s := s) (by rw [HK.out, hk0]))
      subst hk0
      have hT9 := HD.out
      have z0 := hT9.t.cell 0 rfl
      have z1 := hT9.t.cell 1 rfl
      have z2 := hT9.t.cell 2 rfl
      have f0 := hT9.t.free 0
      have f1 := hT9.t.free 1
      have f2 := hT9.t.free 2
      have y0 := hT9.f.cell 0 rfl
      have y1 := hT9.f.cell 1 rfl
      have e0 := hT9.f.free 0
      have e1 := hT9.f.free 1
      clear hT9
      go_wp2_with fail
      have hr := d_ret HD.out 0 0 0 1 0
      unfold put5 at hr
      have HBx := hr.2.2.2.2.2
      refine bodyPost_ret (v := .tuple #[.agg #[.int .i64 0, .int .i64 0, .int .i64 0], .agg #[.int .i64 1, .int .i64 0]]) (by simp [results, Tryd.results20, go_sem, hr.1, hr.2.1, hr.2.2.1, hr.2.2.2.1, hr.2.2.2.2.1]) rfl ?_
      exact rtpost_of HO.out HBx
    · have hkc : ((k : Int) == 0) = false := by rw [beq_eq_false_iff_ne]; omega
      go_upto_region 9 with fail
      go_cut [44] (fun s44 wx => W = wx ∧ ∃ bd : Bool, s44 = .bool bd ∧ Hid (bd = true ↔ (1 < k ∧ s[0]? = some 48)))
      case first =>
        have hlt : 0 < s.length := by omega
        have hltc : (0 : Int) < (s.length : Int) := by omega
        have hsz : 0 < (ByteArray.mk s.toArray).size := hlt
        obtain ⟨c, hc⟩ : ∃ c : Int, (((ByteArray.mk s.toArray)[0]'hsz).toNat : Int) = c := ⟨_, rfl⟩
        have HC := Lib.hid (show (s[0].toNat : Int) = c from hc)
        by_cases h1k : 1 < k
        · have h1c : (1 : Int) < (k : Int) := by omega
          by_cases h48 : c = 48
          · have hq : (c == 48) = true := by simp [h48]
            have HV := Lib.hid (show s[0]? = some 48 by rw [List.getElem?_eq_getElem hlt]; congr 1; exact UInt8.toNat.inj (by have := HC.out; simp; omega))
            go_wp2_with fail
            go_meet
            exact ⟨rfl, true, rfl, by show _ ↔ _; simp [HV.out, h1k]⟩
          · have hq : (c == 48) = false := by simp [h48]
            have HV := Lib.hid (show s[0]? ≠ some 48 by
              rw [List.getElem?_eq_getElem hlt]
              intro h
              have := Option.some.inj h
              have h2 := HC.out
              rw [this] at h2
              exact h48 (by rw [← h2]; rfl))
            go_wp2_with fail
            go_meet
            exact ⟨rfl, false, rfl, by show _ ↔ _; simp [HV.out]⟩
        · have h1c : ¬ (1 : Int) < (k : Int) := by omega
          go_wp2_with fail
          go_meet
          exact ⟨rfl, false, rfl, by show _ ↔ _; simp [h1k]⟩
      case rest =>
        obtain ⟨hwx, bd, rfl, HBd⟩ := hcut
        subst hwx
        cases bd
        · have HN1 := Lib.hid (show ¬ (1 < k ∧ s[0]? = some 48) from fun h => (by have := HBd.out.2 h; cases this))
          have HK0 := Lib.hid hk0
          clear HBd hk0
          go_upto_region 11 with fail
          go_cut [56] (fun s56 wx => W = wx ∧ ∃ bd : Bool, s56 = .bool bd ∧ Hid (bd = true ↔ s[k]? ≠ some 32))
          case first =>
            by_cases hke : k = s.length
            · have hkc : ((k : Int) == (s.length : Int)) = true := by rw [beq_iff_eq]; omega
              have HV := Lib.hid (show s[k]? ≠ some 32 by rw [List.getElem?_eq_none (by omega)]; simp)
              clear hke
              go_wp2_with fail
              go_meet
              exact ⟨rfl, true, rfl, by show _ ↔ _; simp [HV.out]⟩
            · have hkc : ((k : Int) == (s.length : Int)) = false := by rw [beq_eq_false_iff_ne]; omega
              have hlt : k < s.length := by omega
              have hltc : (k : Int) < (s.length : Int) := by omega
              have hsz : k < (ByteArray.mk s.toArray).size := hlt
              obtain ⟨c, hc⟩ : ∃ c : Int, (((ByteArray.mk s.toArray)[k]'hsz).toNat : Int) = c := ⟨_, rfl⟩
              have HC := Lib.hid (show (s[k].toNat : Int) = c from hc)
              by_cases h32 : c = 32
              · have hq : (c != 32) = false := by simp [h32]
                have HV := Lib.hid (show s[k]? = some 32 by rw [List.getElem?_eq_getElem hlt]; congr 1; exact UInt8.toNat.inj (by have := HC.out; simp; omega))
                go_wp2_with fail
                go_meet
                exact ⟨rfl, false, rfl, by show _ ↔ _; simp [HV.out]⟩
              · have hq : (c != 32) = true := by rw [bne_iff_ne]; exact h32
                have HV := Lib.hid (show s[k]? ≠ some 32 by
                  rw [List.getElem?_eq_getElem hlt]
                  intro h
                  have := Option.some.inj h
                  have h2 := HC.out
                  rw [this] at h2
                  exact h32 (by rw [← h2]; rfl))
                go_wp2_with fail
                go_meet
                exact ⟨rfl, true, rfl, by show _ ↔ _; simp [HV.out]⟩
          case rest =>
            obtain ⟨hwx, bd, rfl, HBd⟩ := hcut
            subst hwx
            cases bd
            · have HN2 := Lib.hid (show s[k]? = some 32 by
                cases hh : s[k]? with
                | none => have := HBd.out.2 (by rw [hh]; simp); cases this
                | some c =>
                  by_cases hc : c = 32
                  · rw [hc]
                  · have := HBd.out.2 (by rw [hh]; simpa using hc); cases this)
              have hkl : k < s.length := (List.getElem?_eq_some_iff.1 HN2.out).1
              clear HBd
              obtain ⟨q, hqN⟩ : ∃ q, q = k + 1 := ⟨_, rfl⟩
              have hq : (k : Int) + 1 = (q : Int) := by omega
              have hql : q ≤ s.length := by omega
              have HQ := Lib.hid hqN
              clear hqN
              have hx1 := ext_alloc W (.cells (List.toArray [.int .i64 n, .int .i64 (-1), .int .i64 0]) 45)
              have bT := Blk.new W 45 [.int .i64 n, .int .i64 (-1), .int .i64 0]
              obtain ⟨W1, hW1⟩ : ∃ W1, W1 = W.alloc (.cells (List.toArray [.int .i64 n, .int .i64 (-1), .int .i64 0]) 45) := ⟨_, rfl⟩
              rw [← hW1] at hx1 bT
              have hx2 := ext_alloc W1 (.cells (List.toArray [strV (wd 0), strV (wd 1), strV (wd 2), strV (wd 3), strV (wd 4)]) 9)
              have bU := units_at (Blk.new W1 9 [strV (wd 0), strV (wd 1), strV (wd 2), strV (wd 3), strV (wd 4)])
              have HT0 := Lib.hid (bT.ext (hx2.mono (show W.heap.size + 1 ≤ _ from bT.lt)))
              have HU0 := Lib.hid bU
              have HD0 := Lib.hid (HD.out.ext (ext_trans hx1 hx2))
              have hN0 : w.heap.size + 1 < W.heap.size := HD.out.f.lt
              have hsz1 : W1.heap.size = W.heap.size + 1 := by rw [hW1]; simp
              obtain ⟨W2, hW2⟩ : ∃ W2, W2 = W1.alloc (.cells (List.toArray [strV (wd 0), strV (wd 1), strV (wd 2), strV (wd 3), strV (wd 4)]) 9) := ⟨_, rfl⟩
              rw [← hW2] at HT0 HU0 HD0
              obtain ⟨N1, hN1e⟩ : ∃ N1, N1 = W.heap.size := ⟨_, rfl⟩
              rw [hsz1, ← hN1e] at HU0
              rw [← hN1e] at HT0 hN0
              clear hx1 bT hx2 bU hsz1
              go_upto_region 16 with fail
              rw [show W.alloc (.cells #[.int .i64 n, .int .i64 (-1), .int .i64 0] 45) = W1 from hW1.symm]
              rw [show W1.alloc (.cells #[.string ⟨#[100, 97, 121, 115]⟩, .string ⟨#[119, 111, 114, 107, 105, 110, 103, 32, 100, 97, 121, 115]⟩, .string ⟨#[119, 101, 101, 107, 115]⟩, .string ⟨#[109, 111, 110, 116, 104, 115]⟩, .string ⟨#[121, 101, 97, 114, 115]⟩] 9) = W2 from hW2.symm]
              rw [← hN1e]
              clear hW1 hW2 hN1e
              clear HD
              go_wp2_with fail
              go_loopw [8] (fun s8 wr => Hid (DW w wr) ∧ Hid (UnitsAt wr (N1 + 1)) ∧ ∃ i : Nat, s8 = .int .i64 i ∧ i ≤ 5 ∧ Hid (Blk wr N1 45 [.int .i64 n, .int .i64 (uF (s.drop q) i), .int .i64 0])) (fun s8 _ => (5 - intOf s8).toNat)
              case atStart => exact ⟨HD0.out, HU0.out, 0, rfl, by omega, HT0.out⟩
              case round =>
                clear HD0 HU0 HT0
                obtain ⟨HD, HU, i, rfl, hi, HT⟩ := hrel
                by_cases hlt : i < 5
                · have hltc : (i : Int) < 5 := by omega
                  have r0 := HU.out i hlt
                  unfold strV at r0
                  have f1 := HT.out.free 1
                  have z1 := HT.out.cell 1 rfl
                  go_wp2_with fail
                  refine (starts_any s (wd i) q hl (by have := wd_len i; omega) hql _).mono ?_
                  rintro e w' ⟨rfl, rfl⟩
                  cases hp : hasP (s.drop q) (wd i) with
                  | true =>
                    have HP := Lib.hid hp
                    clear hp
                    go_wp2_with fail
                    go_roundw
                    case rel => exact ⟨HD.out.set (by show _ < N1; omega) _, HU.out.set (by show N1 + 1 ≠ N1; omega) _, i + 1, by go_num, by omega, by
                      have h := HT.out.set 1 (.int .i64 (i : Int))
                      unfold uF
                      rw [if_pos HP.out]
                      exact h⟩
                    case measure => simp [intOf]; omega
                  | false =>
                    have HP := Lib.hid hp
                    clear hp
                    go_wp2_with fail
                    go_roundw
                    case rel => exact ⟨HD.out, HU.out, i + 1, by go_num, by omega, by
                      have h := HT.out
                      unfold uF
                      rw [if_neg (by rw [HP.out]; simp)]
                      exact h⟩
                    case measure => simp [intOf]; omega
                · have hi5 : i = 5 := by omega
                  subst hi5
                  obtain ⟨u, hu⟩ : ∃ u, u = uF (s.drop q) 5 := ⟨_, rfl⟩
                  rw [← hu] at HT
                  have y1t := HT.out.cell 1 rfl
                  by_cases hneg : u < 0
                  · have HO := Lib.hid (show termF s = (1, (q : Int), 0, 0, 0) by
                      rw [term_unit HK.out HK0.out HN1.out HN2.out (by rw [← HQ.out, ← hu]; exact hneg), HQ.out])
                    clear hu
                    have hT9 := HD.out
                    have z0 := hT9.t.cell 0 rfl
                    have z1 := hT9.t.cell 1 rfl
                    have z2 := hT9.t.cell 2 rfl
                    have f0 := hT9.t.free 0
                    have f1 := hT9.t.free 1
                    have f2 := hT9.t.free 2
                    have y0 := hT9.f.cell 0 rfl
                    have y1 := hT9.f.cell 1 rfl
                    have e0 := hT9.f.free 0
                    have e1 := hT9.f.free 1
                    clear hT9
                    go_wp2_with fail
                    have hr := d_ret HD.out 0 0 0 1 (q : Int)
                    unfold put5 at hr
                    have HBx := hr.2.2.2.2.2
                    refine bodyPost_ret (v := .tuple #[.agg #[.int .i64 0, .int .i64 0, .int .i64 0], .agg #[.int .i64 1, .int .i64 (q : Int)]]) (by simp [results, Tryd.results20, go_sem, hr.1, hr.2.1, hr.2.2.1, hr.2.2.2.1, hr.2.2.2.2.1]) rfl ?_
                    exact rtpost_of HO.out HBx
                  · have hb5 := uF_bd (s.drop q) 5
                    obtain ⟨un, hun⟩ : ∃ un : Nat, u = (un : Int) := ⟨u.toNat, by omega⟩
                    have hun5 : un < 5 := by omega
                    have HUn := Lib.hid (show uF (s.drop (k + 1)) 5 = (un : Int) by rw [← HQ.out, ← hu]; exact hun)
                    subst hun
                    clear hu hb5
                    have hpl : q + (wd un).length ≤ s.length := by
                      have h := uF_has (r := s.drop q) (i := 5) (by rw [HQ.out, HUn.out]; omega)
                      rw [HQ.out, HUn.out, Int.toNat_natCast, ← HQ.out] at h
                      have h2 := (hasP_iff.1 h).length_le
                      rw [List.length_drop] at h2
                      omega
                    have r0 := HU.out un hun5
                    unfold strV at r0
                    obtain ⟨a, haN⟩ : ∃ a, a = q + (wd un).length := ⟨_, rfl⟩
                    have ha : (q : Int) + ((wd un).length : Int) = (a : Int) := by omega
                    have hal : a ≤ s.length := by omega
                    have HaN := Lib.hid (show a = k + 1 + (wd un).length by rw [haN, HQ.out])
                    have hwl := wd_len un
                    clear haN
                    obtain ⟨t, ht⟩ : ∃ t, t = s.drop a := ⟨_, rfl⟩
                    have HTa := Lib.hid ht
                    clear ht
                    clear hi hlt
                    go_upto_if 98 with fail
                    go_cut [4] (fun _ wx => Hid (DW w wx) ∧ ∃ ro : Nat, ro ≤ 2 ∧ Hid (Blk wx N1 45 [.int .i64 n, .int .i64 (un : Int), .int .i64 (ro : Int)]) ∧ Hid (tailF (s.drop a) = (true, ro)))
                    case first =>
                      clear r0 y1t
                      have f2 := HT.out.free 2
                      have z2t := HT.out.cell 2 rfl
                      by_cases hae : a = s.length
                      · have hac : ¬ (a : Int) < (s.length : Int) := by omega
                        have HV := Lib.hid (tr_end (t := s.drop a) (List.drop_eq_nil_of_le (by omega)))
                        clear hae
                        go_wp2_with fail
                        go_meet
                        exact ⟨HD.out, 0, by omega, HT.out, HV.out⟩
                      · have hal2 : a < s.length := by omega
                        have hac : (a : Int) < (s.length : Int) := by omega
                        have hsz : a < (ByteArray.mk s.toArray).size := hal2
                        obtain ⟨c, hc⟩ : ∃ c : Int, (((ByteArray.mk s.toArray)[a]'hsz).toNat : Int) = c := ⟨_, rfl⟩
                        have HC := Lib.hid (show (s[a].toNat : Int) = c from hc)
                        have T0 := Lib.hid (show s.drop a ≠ [] from fun h => by have := congrArg List.length h; simp at this; omega)
                        have HWrong := Lib.hid (fun (x : Nat) (h : tailF (s.drop a) = (false, x)) => (show termF s = (1, ((a + x : Nat) : Int), 0, 0, 0) from term_tail HK.out HK0.out HN1.out HN2.out HUn.out HaN.out h))
                        clear hae
                        by_cases h44 : c = 44
                        · have hq44 : (c != 44) = false := by simp [h44]
                          have T1 := Lib.hid (show (s.drop a)[0]? = some 44 by rw [List.getElem?_drop, Nat.add_zero, List.getElem?_eq_getElem hal2]; congr 1; exact UInt8.toNat.inj (by have := HC.out; simp; omega))
                          obtain ⟨b, hb⟩ : ∃ b : Nat, (a : Int) + 1 = (b : Int) := ⟨a + 1, by omega⟩
                          have hbl : b ≤ s.length := by omega
                          by_cases hbe : b = s.length
                          · have hbc : ((b : Int) == (s.length : Int)) = true := by rw [beq_iff_eq]; omega
                            have HO := Lib.hid (show termF s = (1, (b : Int), 0, 0, 0) by
                              rw [HWrong.out 1 (tr_blank T0.out T1.out (by rw [List.getElem?_drop, List.getElem?_eq_none (by omega)]; simp)), show ((a + 1 : Nat) : Int) = (b : Int) by omega])
                            clear hbe
                            have hT9 := HD.out
                            have z0 := hT9.t.cell 0 rfl
                            have z1 := hT9.t.cell 1 rfl
                            have z2 := hT9.t.cell 2 rfl
                            have f0 := hT9.t.free 0
                            have f1 := hT9.t.free 1
                            have f2 := hT9.t.free 2
                            have y0 := hT9.f.cell 0 rfl
                            have y1 := hT9.f.cell 1 rfl
                            have e0 := hT9.f.free 0
                            have e1 := hT9.f.free 1
                            clear hT9
                            go_wp2_with fail
                            have hr := d_ret HD.out 0 0 0 1 (b : Int)
                            unfold put5 at hr
                            have HBx := hr.2.2.2.2.2
                            refine bodyPost_ret (v := .tuple #[.agg #[.int .i64 0, .int .i64 0, .int .i64 0], .agg #[.int .i64 1, .int .i64 (b : Int)]]) (by simp [results, Tryd.results20, go_sem, hr.1, hr.2.1, hr.2.2.1, hr.2.2.2.1, hr.2.2.2.2.1]) rfl ?_
                            exact rtpost_of HO.out HBx
                          · have hbc : ((b : Int) == (s.length : Int)) = false := by rw [beq_eq_false_iff_ne]; omega
                            have hbl2 : b < s.length := by omega
                            have hblc : (b : Int) < (s.length : Int) := by omega
                            have hsz2 : b < (ByteArray.mk s.toArray).size := hbl2
                            obtain ⟨d, hd⟩ : ∃ d : Int, (((ByteArray.mk s.toArray)[b]'hsz2).toNat : Int) = d := ⟨_, rfl⟩
                            have HDc := Lib.hid (show (s[b].toNat : Int) = d from hd)
                            have HAt := Lib.hid (show (s.drop a)[1]? = some s[b] by rw [List.getElem?_drop, show a + 1 = b by omega, List.getElem?_eq_getElem hbl2])
                            clear hbe
                            by_cases h32 : d = 32
                            · have hq32 : (d != 32) = false := by simp [h32]
                              have T2 := Lib.hid (show (s.drop a)[1]? = some 32 by rw [HAt.out]; congr 1; exact UInt8.toNat.inj (by have := HDc.out; simp; omega))
                              obtain ⟨f, hf⟩ : ∃ f : Nat, (b : Int) + 1 = (f : Int) := ⟨b + 1, by omega⟩
                              have hfl : f ≤ s.length := by omega
                              have hdd : (s.drop a).drop 2 = s.drop f := by rw [List.drop_drop]; congr 1; omega
                              have HDD := Lib.hid hdd
                              have hfa : f = a + 2 := by omega
                              have HFA := Lib.hid hfa
                              clear hdd hfa
                              go_wp2_with fail
                              refine (starts_any s nextW f hl (by simp [nextW]) hfl _).mono ?_
                              rintro e w' ⟨rfl, rfl⟩
                              obtain ⟨b1, hb1⟩ : ∃ b1, b1 = hasP (s.drop f) nextW := ⟨_, rfl⟩
                              have HB1 := Lib.hid (show hasP ((s.drop a).drop 2) nextW = b1 by rw [HDD.out, hb1])
                              rw [← hb1]
                              clear hb1
                              go_wp2_with fail
                              refine (starts_any s befW f hl (by simp [befW]) hfl _).mono ?_
                              rintro e w' ⟨rfl, rfl⟩
                              obtain ⟨b2, hb2⟩ : ∃ b2, b2 = hasP (s.drop f) befW := ⟨_, rfl⟩
                              have HB2 := Lib.hid (show hasP ((s.drop a).drop 2) befW = b2 by rw [HDD.out, hb2])
                              rw [← hb2]
                              clear hb2
                              cases b1
                              · cases b2
                                · have HO := Lib.hid (show termF s = (1, (f : Int), 0, 0, 0) by
                                    rw [HWrong.out 2 (tr_none T0.out T1.out T2.out HB1.out HB2.out), show ((a + 2 : Nat) : Int) = (f : Int) by have := HFA.out; omega])
                                  have hT9 := HD.out
                                  have z0 := hT9.t.cell 0 rfl
                                  have z1 := hT9.t.cell 1 rfl
                                  have z2 := hT9.t.cell 2 rfl
                                  have f0 := hT9.t.free 0
                                  have f1 := hT9.t.free 1
                                  have f2 := hT9.t.free 2
                                  have y0 := hT9.f.cell 0 rfl
                                  have y1 := hT9.f.cell 1 rfl
                                  have e0 := hT9.f.free 0
                                  have e1 := hT9.f.free 1
                                  clear hT9
                                  go_wp2_with fail
                                  have hr := d_ret HD.out 0 0 0 1 (f : Int)
                                  unfold put5 at hr
                                  have HBx := hr.2.2.2.2.2
                                  refine bodyPost_ret (v := .tuple #[.agg #[.int .i64 0, .int .i64 0, .int .i64 0], .agg #[.int .i64 1, .int .i64 (f : Int)]]) (by simp [results, Tryd.results20, go_sem, hr.1, hr.2.1, hr.2.2.1, hr.2.2.2.1, hr.2.2.2.2.1]) rfl ?_
                                  exact rtpost_of HO.out HBx
                                · obtain ⟨g, hg⟩ : ∃ g : Nat, (f : Int) + 6 = (g : Int) := ⟨f + 6, by omega⟩
                                  have HD2 := Lib.hid (HD.out.set (a := ⟨N1, 2, none⟩) (by show _ < N1; omega) (.int .i64 2))
                                  by_cases hgl : g < s.length
                                  · have hgc : (g : Int) < (s.length : Int) := by omega
                                    have HO := Lib.hid (show termF s = (1, (g : Int), 0, 0, 0) by
                                      rw [HWrong.out 8 (by rw [tr_bef T0.out T1.out T2.out HB1.out HB2.out, if_pos (by rw [List.length_drop]; have := HFA.out; omega)]), show ((a + 8 : Nat) : Int) = (g : Int) by have := HFA.out; omega])
                                    have hT9 := HD2.out
                                    have z0 := hT9.t.cell 0 rfl
                                    have z1 := hT9.t.cell 1 rfl
                                    have z2 := hT9.t.cell 2 rfl
                                    have f0 := hT9.t.free 0
                                    have f1 := hT9.t.free 1
                                    have f2 := hT9.t.free 2
                                    have y0 := hT9.f.cell 0 rfl
                                    have y1 := hT9.f.cell 1 rfl
                                    have e0 := hT9.f.free 0
                                    have e1 := hT9.f.free 1
                                    clear hT9
                                    go_wp2_with fail
                                    have hr := d_ret HD2.out 0 0 0 1 (g : Int)
                                    unfold put5 at hr
                                    have HBx := hr.2.2.2.2.2
                                    refine bodyPost_ret (v := .tuple #[.agg #[.int .i64 0, .int .i64 0, .int .i64 0], .agg #[.int .i64 1, .int .i64 (g : Int)]]) (by simp [results, Tryd.results20, go_sem, hr.1, hr.2.1, hr.2.2.1, hr.2.2.2.1, hr.2.2.2.2.1]) rfl ?_
                                    exact rtpost_of HO.out HBx
                                  · have hgc : ¬ (g : Int) < (s.length : Int) := by omega
                                    have HV := Lib.hid (show tailF (s.drop a) = (true, 2) by rw [tr_bef T0.out T1.out T2.out HB1.out HB2.out, if_neg (by rw [List.length_drop]; have := HFA.out; omega)])
                                    go_wp2_with fail
                                    go_meet
                                    exact ⟨HD2.out, 2, by omega, HT.out.set 2 (.int .i64 2), HV.out⟩
                              · obtain ⟨g, hg⟩ : ∃ g : Nat, (f : Int) + 4 = (g : Int) := ⟨f + 4, by omega⟩
                                have HD2 := Lib.hid (HD.out.set (a := ⟨N1, 2, none⟩) (by show _ < N1; omega) (.int .i64 1))
                                by_cases hgl : g < s.length
                                · have hgc : (g : Int) < (s.length : Int) := by omega
                                  have HO := Lib.hid (show termF s = (1, (g : Int), 0, 0, 0) by
                                    rw [HWrong.out 6 (by rw [tr_next T0.out T1.out T2.out HB1.out, if_pos (by rw [List.length_drop]; have := HFA.out; omega)]), show ((a + 6 : Nat) : Int) = (g : Int) by have := HFA.out; omega])
                                  have hT9 := HD2.out
                                  have z0 := hT9.t.cell 0 rfl
                                  have z1 := hT9.t.cell 1 rfl
                                  have z2 := hT9.t.cell 2 rfl
                                  have f0 := hT9.t.free 0
                                  have f1 := hT9.t.free 1
                                  have f2 := hT9.t.free 2
                                  have y0 := hT9.f.cell 0 rfl
                                  have y1 := hT9.f.cell 1 rfl
                                  have e0 := hT9.f.free 0
                                  have e1 := hT9.f.free 1
                                  clear hT9
                                  go_wp2_with fail
                                  have hr := d_ret HD2.out 0 0 0 1 (g : Int)
                                  unfold put5 at hr
                                  have HBx := hr.2.2.2.2.2
                                  refine bodyPost_ret (v := .tuple #[.agg #[.int .i64 0, .int .i64 0, .int .i64 0], .agg #[.int .i64 1, .int .i64 (g : Int)]]) (by simp [results, Tryd.results20, go_sem, hr.1, hr.2.1, hr.2.2.1, hr.2.2.2.1, hr.2.2.2.2.1]) rfl ?_
                                  exact rtpost_of HO.out HBx
                                · have hgc : ¬ (g : Int) < (s.length : Int) := by omega
                                  have HV := Lib.hid (show tailF (s.drop a) = (true, 1) by rw [tr_next T0.out T1.out T2.out HB1.out, if_neg (by rw [List.length_drop]; have := HFA.out; omega)])
                                  go_wp2_with fail
                                  go_meet
                                  exact ⟨HD2.out, 1, by omega, HT.out.set 2 (.int .i64 1), HV.out⟩
                            · have hq32 : (d != 32) = true := by rw [bne_iff_ne]; exact h32
                              have HO := Lib.hid (show termF s = (1, (b : Int), 0, 0, 0) by
                                rw [HWrong.out 1 (tr_blank T0.out T1.out (by
                                  rw [HAt.out]
                                  intro h
                                  have := Option.some.inj h
                                  have h2 := HDc.out
                                  rw [this] at h2
                                  exact h32 (by rw [← h2]; rfl))), show ((a + 1 : Nat) : Int) = (b : Int) by omega])
                              have hT9 := HD.out
                              have z0 := hT9.t.cell 0 rfl
                              have z1 := hT9.t.cell 1 rfl
                              have z2 := hT9.t.cell 2 rfl
                              have f0 := hT9.t.free 0
                              have f1 := hT9.t.free 1
                              have f2 := hT9.t.free 2
                              have y0 := hT9.f.cell 0 rfl
                              have y1 := hT9.f.cell 1 rfl
                              have e0 := hT9.f.free 0
                              have e1 := hT9.f.free 1
                              clear hT9
                              go_wp2_with fail
                              have hr := d_ret HD.out 0 0 0 1 (b : Int)
                              unfold put5 at hr
                              have HBx := hr.2.2.2.2.2
                              refine bodyPost_ret (v := .tuple #[.agg #[.int .i64 0, .int .i64 0, .int .i64 0], .agg #[.int .i64 1, .int .i64 (b : Int)]]) (by simp [results, Tryd.results20, go_sem, hr.1, hr.2.1, hr.2.2.1, hr.2.2.2.1, hr.2.2.2.2.1]) rfl ?_
                              exact rtpost_of HO.out HBx
                        · have hq44 : (c != 44) = true := by rw [bne_iff_ne]; exact h44
                          have HO := Lib.hid (show termF s = (1, (a : Int), 0, 0, 0) by
                            rw [HWrong.out 0 (tr_comma T0.out (by
                              rw [List.getElem?_drop, Nat.add_zero, List.getElem?_eq_getElem hal2]
                              intro h
                              have := Option.some.inj h
                              have h2 := HC.out
                              rw [this] at h2
                              exact h44 (by rw [← h2]; rfl))), Nat.add_zero])
                          have hT9 := HD.out
                          have z0 := hT9.t.cell 0 rfl
                          have z1 := hT9.t.cell 1 rfl
                          have z2 := hT9.t.cell 2 rfl
                          have f0 := hT9.t.free 0
                          have f1 := hT9.t.free 1
                          have f2 := hT9.t.free 2
                          have y0 := hT9.f.cell 0 rfl
                          have y1 := hT9.f.cell 1 rfl
                          have e0 := hT9.f.free 0
                          have e1 := hT9.f.free 1
                          clear hT9
                          go_wp2_with fail
                          have hr := d_ret HD.out 0 0 0 1 (a : Int)
                          unfold put5 at hr
                          have HBx := hr.2.2.2.2.2
                          refine bodyPost_ret (v := .tuple #[.agg #[.int .i64 0, .int .i64 0, .int .i64 0], .agg #[.int .i64 1, .int .i64 (a : Int)]]) (by simp [results, Tryd.results20, go_sem, hr.1, hr.2.1, hr.2.2.1, hr.2.2.2.1, hr.2.2.2.2.1]) rfl ?_
                          exact rtpost_of HO.out HBx
                    case rest =>
                      clear HT HD r0 y1t
                      obtain ⟨HD, ro, hro, HT, HTl⟩ := hcut
                      by_cases hbig : 100000 < n
                      · have HO := Lib.hid (term_bound HK.out HK0.out HN1.out HN2.out HUn.out HaN.out HTl.out (HN.out.big.1 hbig))
                        have hT9 := HD.out
                        have z0 := hT9.t.cell 0 rfl
                        have z1 := hT9.t.cell 1 rfl
                        have z2 := hT9.t.cell 2 rfl
                        have f0 := hT9.t.free 0
                        have f1 := hT9.t.free 1
                        have f2 := hT9.t.free 2
                        have y0 := hT9.f.cell 0 rfl
                        have y1 := hT9.f.cell 1 rfl
                        have e0 := hT9.f.free 0
                        have e1 := hT9.f.free 1
                        clear hT9
                        go_wp2_with fail
                        have hr := d_ret HD.out 0 0 0 2 0
                        unfold put5 at hr
                        have HBx := hr.2.2.2.2.2
                        refine bodyPost_ret (v := .tuple #[.agg #[.int .i64 0, .int .i64 0, .int .i64 0], .agg #[.int .i64 2, .int .i64 0]]) (by simp [results, Tryd.results20, go_sem, hr.1, hr.2.1, hr.2.2.1, hr.2.2.2.1, hr.2.2.2.2.1]) rfl ?_
                        exact rtpost_of HO.out HBx
                      · have HO := Lib.hid (show termF s = (0, -1, n, (un : Int), (ro : Int)) by
                          rw [HN.out.same hbig]
                          exact term_ok HK.out HK0.out HN1.out HN2.out HUn.out HaN.out HTl.out (fun h => hbig (HN.out.big.2 h)))
                        have v0 := HT.out.cell 0 rfl
                        have v1 := HT.out.cell 1 rfl
                        have v2 := HT.out.cell 2 rfl
                        have hT9 := HD.out
                        have z0 := hT9.t.cell 0 rfl
                        have z1 := hT9.t.cell 1 rfl
                        have z2 := hT9.t.cell 2 rfl
                        have f0 := hT9.t.free 0
                        have f1 := hT9.t.free 1
                        have f2 := hT9.t.free 2
                        have y0 := hT9.f.cell 0 rfl
                        have y1 := hT9.f.cell 1 rfl
                        have e0 := hT9.f.free 0
                        have e1 := hT9.f.free 1
                        clear hT9
                        go_wp2_with fail
                        have hr := d_ret HD.out n (un : Int) (ro : Int) 0 (-1)
                        unfold put5 at hr
                        have HBx := hr.2.2.2.2.2
                        refine bodyPost_ret (v := .tuple #[.agg #[.int .i64 n, .int .i64 (un : Int), .int .i64 (ro : Int)], .agg #[.int .i64 0, .int .i64 (-1)]]) (by simp [results, Tryd.results20, go_sem, hr.1, hr.2.1, hr.2.2.1, hr.2.2.2.1, hr.2.2.2.2.1]) rfl ?_
                        exact rtpost_of HO.out HBx
            · have HO := Lib.hid (term_space HK.out HK0.out HN1.out (HBd.out.1 rfl))
              have hT9 := HD.out
              have z0 := hT9.t.cell 0 rfl
              have z1 := hT9.t.cell 1 rfl
              have z2 := hT9.t.cell 2 rfl
              have f0 := hT9.t.free 0
              have f1 := hT9.t.free 1
              have f2 := hT9.t.free 2
              have y0 := hT9.f.cell 0 rfl
              have y1 := hT9.f.cell 1 rfl
              have e0 := hT9.f.free 0
              have e1 := hT9.f.free 1
              clear hT9
              go_wp2_with fail
              have hr := d_ret HD.out 0 0 0 1 (k : Int)
              unfold put5 at hr
              have HBx := hr.2.2.2.2.2
              refine bodyPost_ret (v := .tuple #[.agg #[.int .i64 0, .int .i64 0, .int .i64 0], .agg #[.int .i64 1, .int .i64 (k : Int)]]) (by simp [results, Tryd.results20, go_sem, hr.1, hr.2.1, hr.2.2.1, hr.2.2.2.1, hr.2.2.2.2.1]) rfl ?_
              exact rtpost_of HO.out HBx
        · have HO := Lib.hid (term_lead (s := s) (by rw [HK.out]; exact HBd.out.1 rfl))
          have hT9 := HD.out
          have z0 := hT9.t.cell 0 rfl
          have z1 := hT9.t.cell 1 rfl
          have z2 := hT9.t.cell 2 rfl
          have f0 := hT9.t.free 0
          have f1 := hT9.t.free 1
          have f2 := hT9.t.free 2
          have y0 := hT9.f.cell 0 rfl
          have y1 := hT9.f.cell 1 rfl
          have e0 := hT9.f.free 0
          have e1 := hT9.f.free 1
          clear hT9
          go_wp2_with fail
          have hr := d_ret HD.out 0 0 0 1 1
          unfold put5 at hr
          have HBx := hr.2.2.2.2.2
          refine bodyPost_ret (v := .tuple #[.agg #[.int .i64 0, .int .i64 0, .int .i64 0], .agg #[.int .i64 1, .int .i64 1]]) (by simp [results, Tryd.results20, go_sem, hr.1, hr.2.1, hr.2.2.1, hr.2.2.2.1, hr.2.2.2.2.1]) rfl ?_
          exact rtpost_of HO.out HBx
end Go.Proofs.YtpbmamcmmogidaaDoor.Tm

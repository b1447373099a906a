/- Terms' texts: the program's ReadTerm. -/
import Derived.Test.YtpbmamcmmogidaaDoorTmS
namespace Go.Proofs.YtpbmamcmmogidaaDoor.Tm
open Go.RowKit Mem Nest Cn Err Flt

def TermPost (s : List UInt8) (A : Nat → Addr) (w : World) (e : Ending) (w' : World) : Prop :=
  ∃ v, e = .returned (.tuple #[.agg #[.int .i64 (termF s).2.2.1, .int .i64 (termF s).2.2.2.1, .int .i64 (termF s).2.2.2.2], v]) ∧ PErr A w' (termF s).1 (termF s).2.1 v ∧ Below w.heap.size w w'
theorem tpost_of {s : List UInt8} {A : Nat → Addr} {w w' : World} {o : Int × Int × Int × Int × Int} {v : Value} (ho : termF s = o) (hp : PErr A w' o.1 o.2.1 v) (hb : Below w.heap.size w w') :
    TermPost s A w (.returned (.tuple #[.agg #[.int .i64 o.2.2.1, .int .i64 o.2.2.2.1, .int .i64 o.2.2.2.2], v])) w' :=
  ⟨v, by rw [ho], by rw [ho]; exact hp, hb⟩
/-- the place of the answer -/
def TW (w wr : World) : Prop := Blk wr w.heap.size 46 [.int .i64 0, .int .i64 0, .int .i64 0] ∧ Below w.heap.size w wr
theorem TW.ext {w wr wr' : World} (h : TW w wr) (hb : Below wr.heap.size wr wr') : TW w wr' := ⟨h.1.ext (hb.mono (show w.heap.size + 1 ≤ _ from h.1.lt)), h.2.trans (hb.mono h.2.size)⟩
theorem t_ret {w wr : World} (h : TW w wr) (x y z : Int) :
    (((wr.setCell ⟨w.heap.size, 0, none⟩ (.int .i64 x)).setCell ⟨w.heap.size, 1, none⟩ (.int .i64 y)).setCell ⟨w.heap.size, 2, none⟩ (.int .i64 z)).cell? ⟨w.heap.size, 0, none⟩ = some (.int .i64 x) ∧
    (((wr.setCell ⟨w.heap.size, 0, none⟩ (.int .i64 x)).setCell ⟨w.heap.size, 1, none⟩ (.int .i64 y)).setCell ⟨w.heap.size, 2, none⟩ (.int .i64 z)).cell? ⟨w.heap.size, 1, none⟩ = some (.int .i64 y) ∧
    (((wr.setCell ⟨w.heap.size, 0, none⟩ (.int .i64 x)).setCell ⟨w.heap.size, 1, none⟩ (.int .i64 y)).setCell ⟨w.heap.size, 2, none⟩ (.int .i64 z)).cell? ⟨w.heap.size, 2, none⟩ = some (.int .i64 z) ∧
    Below w.heap.size w (((wr.setCell ⟨w.heap.size, 0, none⟩ (.int .i64 x)).setCell ⟨w.heap.size, 1, none⟩ (.int .i64 y)).setCell ⟨w.heap.size, 2, none⟩ (.int .i64 z)) := by
  have hb := ((h.1.set 0 (.int .i64 x)).set 1 (.int .i64 y)).set 2 (.int .i64 z)
  exact ⟨hb.cell 0 rfl, hb.cell 1 rfl, hb.cell 2 rfl, ((h.2.setCell (by simp) _).setCell (by simp) _).setCell (by simp) _⟩
theorem perr_set {A : Nat → Addr} {wr : World} {n : Int} {v : Value} {B : Nat} (hN : ∃ b, v = faultV b ∧ B < b ∧ wr.cell? ⟨b, 0, none⟩ = some (.int .i64 n) ∧ wr.cell? ⟨b, 1, none⟩ = some (sentV (A 0))) (x y z : Int) :
    PErr A (((wr.setCell ⟨B, 0, none⟩ (.int .i64 x)).setCell ⟨B, 1, none⟩ (.int .i64 y)).setCell ⟨B, 2, none⟩ (.int .i64 z)) 1 n v := by
  obtain ⟨b, rfl, hlt, h0, h1⟩ := hN
  have k : ∀ o u, wr.cell? ⟨b, o, none⟩ = some u → (((wr.setCell ⟨B, 0, none⟩ (.int .i64 x)).setCell ⟨B, 1, none⟩ (.int .i64 y)).setCell ⟨B, 2, none⟩ (.int .i64 z)).cell? ⟨b, o, none⟩ = some u := fun o u h =>
    cell_set_other (cell_set_other (cell_set_other h (show b ≠ B by omega) _) (show b ≠ B by omega) _) (show b ≠ B by omega) _
  exact .inr ⟨0, by omega, rfl, b, rfl, k 0 _ h0, k 1 _ h1⟩
theorem ba_inj {l m : List UInt8} (h : (ByteArray.mk l.toArray) = ByteArray.mk m.toArray) : l = m := by
  have := congrArg (fun x : ByteArray => x.data.toList) h
  simpa using this
set_option maxRecDepth 100000 in
set_option maxHeartbeats 8000000 in
theorem pterm_any (s : List UInt8) (A : Nat → Addr) (w : World) (hl : s.length ≤ 3000) (hE : Errs w A) (rv : Value) (hv : w.cell? ⟨13, 0, none⟩ = some rv) (hi : ∃ te pe, rv = .iface te pe) :
    Calls Tryd.prog 19 #[.string ⟨s.toArray⟩] w (TermPost s A w) := by
  have hx1 := ext_alloc w (.cells #[.int .i64 0, .int .i64 0, .int .i64 0] 46)
  have b2 := Blk.new w 46 [.int .i64 0, .int .i64 0, .int .i64 0]
  obtain ⟨W, hW⟩ : ∃ W, W = w.alloc (.cells #[.int .i64 0, .int .i64 0, .int .i64 0] 46) := ⟨_, rfl⟩
  have HF := Lib.hid (show TW w W by rw [hW]; exact ⟨b2, hx1⟩)
  have HE := Lib.hid hE
  have HV0 := Lib.hid hv
  have HI0 := Lib.hid hi
  have hls : (s.length : Int) ≤ 3000 := by omega
  clear hx1 b2 hE hv hi
  go_enter Tryd.func19, Tryd.ntmps19
  go_upto_block 0 with fail
  rw [← hW]
  clear hW
  go_cut [5] (fun s5 wx => W = wx ∧ ∃ k : Nat, s5 = .int .i64 k ∧ k ≤ s.length ∧ Hid (∀ j (h : j < s.length), j < k → isD s[j] = true) ∧ Hid (∀ h : k < s.length, isD s[k] = false))
  case first =>
    go_wp2_with fail
    go_loop [5] (fun s5 => ∃ k : Nat, s5 = .int .i64 k ∧ k ≤ s.length ∧ Hid (∀ j (h : j < s.length), j < k → isD s[j] = true)) (fun s5 => (s.length - intOf s5).toNat)
    case atStart => exact ⟨0, rfl, Nat.zero_le _, fun j _ hj => absurd hj (by omega)⟩
    case round =>
      obtain ⟨k, rfl, hk, HA⟩ := hrel
      by_cases hlt : k < s.length
      · have hltc : (k : Int) < (s.length : Int) := by omega
        have hsz : k < (ByteArray.mk s.toArray).size := hlt
        obtain ⟨c, hc⟩ : ∃ c : Int, (((ByteArray.mk s.toArray)[k]'hsz).toNat : Int) = c := ⟨_, rfl⟩
        have HC := Lib.hid (show (s[k].toNat : Int) = c from hc)
        by_cases h1 : 48 ≤ c
        · by_cases h2 : c ≤ 57
          · have HD := Lib.hid (show isD s[k] = true by unfold isD; have := HC.out; simp; omega)
            go_wp2_with fail
            go_round
            case rel =>
              refine ⟨k + 1, by go_num, by omega, fun j h hj => ?_⟩
              by_cases e : j = k
              · subst e; exact HD.out
              · exact HA.out j h (by omega)
            case measure => simp [intOf]; omega
          · have HD := Lib.hid (show isD s[k] = false by unfold isD; have := HC.out; simp; omega)
            go_wp2_with fail
            go_meet
            exact ⟨rfl, k, rfl, hk, HA.out, fun _ => HD.out⟩
        · have HD := Lib.hid (show isD s[k] = false by unfold isD; have := HC.out; simp; omega)
          go_wp2_with fail
          go_meet
          exact ⟨rfl, k, rfl, hk, HA.out, fun _ => HD.out⟩
      · have hltc : ¬ (k : Int) < (s.length : Int) := by omega
        go_wp2_with fail
        go_meet
        exact ⟨rfl, k, rfl, hk, HA.out, fun h => absurd h hlt⟩
  case rest =>
    obtain ⟨hwx, k, rfl, hk, HA, HS⟩ := hcut
    subst hwx
    have HK := Lib.hid (kD_of HA.out hk HS.out)
    clear HA HS
    go_upto_region 5 with fail
    go_cut [47] (fun s47 wx => W = wx ∧ ∃ bd : Bool, s47 = .bool bd ∧ Hid (bd = true ↔ (k = 0 ∨ (1 < k ∧ s[0]? = some 48))))
    case first =>
      by_cases hk0 : k = 0
      · have hkc : ((k : Int) == 0) = true := by rw [beq_iff_eq]; omega
        have HH := Lib.hid hk0
        clear hk0
        go_wp2_with fail
        go_meet
        exact ⟨rfl, true, rfl, by show _ ↔ _; simp [HH.out]⟩
      · have hkc : ((k : Int) == 0) = false := by rw [beq_eq_false_iff_ne]; omega
        have hlt : 0 < s.length := by omega
        have hltc : (0 : Int) < (s.length : Int) := by omega
        have hsz : 0 < (ByteArray.mk s.toArray).size := hlt
        obtain ⟨c, hc⟩ : ∃ c : Int, (((ByteArray.mk s.toArray)[0]'hsz).toNat : Int) = c := ⟨_, rfl⟩
        have HC := Lib.hid (show (s[0].toNat : Int) = c from hc)
        by_cases h48 : c = 48
        · have hq : (c == 48) = true := by simp [h48]
          have HV := Lib.hid (show s[0]? = some 48 by rw [List.getElem?_eq_getElem hlt]; congr 1; exact UInt8.toNat.inj (by have := HC.out; simp; omega))
          by_cases h1k : 1 < k
          · have h1c : (1 : Int) < (k : Int) := by omega
            go_wp2_with fail
            go_meet
            exact ⟨rfl, true, rfl, by show _ ↔ _; simp [HV.out, h1k]⟩
          · have h1c : ¬ (1 : Int) < (k : Int) := by omega
            go_wp2_with fail
            go_meet
            exact ⟨rfl, false, rfl, by show _ ↔ _; simp [h1k]; omega⟩
        · have hq : (c == 48) = false := by simp [h48]
          have HV := Lib.hid (show s[0]? ≠ some 48 by
            rw [List.getElem?_eq_getElem hlt]
            intro h
            have := Option.some.inj h
            have h2 := HC.out
            rw [this] at h2
            exact h48 (by rw [← h2]; rfl))
          go_wp2_with fail
          go_meet
          exact ⟨rfl, false, rfl, by show _ ↔ _; simp [HV.out]; omega⟩
    case rest =>
      obtain ⟨hwx, bd, rfl, HBd⟩ := hcut
      subst hwx
      cases bd
      · have HN1 := Lib.hid (show k ≠ 0 ∧ ¬ (1 < k ∧ s[0]? = some 48) from ⟨fun h => (by have := HBd.out.2 (.inl h); cases this), fun h => (by have := HBd.out.2 (.inr h); cases this)⟩)
        clear HBd
        go_upto_region 7 with fail
        go_cut [63] (fun s63 wx => W = wx ∧ ∃ bd : Bool, s63 = .bool bd ∧ Hid (bd = true ↔ s[k]? ≠ some 32))
        case first =>
          by_cases hke : k = s.length
          · have hkc : ((k : Int) == (s.length : Int)) = true := by rw [beq_iff_eq]; omega
            have HV := Lib.hid (show s[k]? ≠ some 32 by rw [List.getElem?_eq_none (by omega)]; simp)
            clear hke
            go_wp2_with fail
            go_meet
            exact ⟨rfl, true, rfl, by show _ ↔ _; simp [HV.out]⟩
          · have hkc : ((k : Int) == (s.length : Int)) = false := by rw [beq_eq_false_iff_ne]; omega
            have hlt : k < s.length := by omega
            have hltc : (k : Int) < (s.length : Int) := by omega
            have hsz : k < (ByteArray.mk s.toArray).size := hlt
            obtain ⟨c, hc⟩ : ∃ c : Int, (((ByteArray.mk s.toArray)[k]'hsz).toNat : Int) = c := ⟨_, rfl⟩
            have HC := Lib.hid (show (s[k].toNat : Int) = c from hc)
            by_cases h32 : c = 32
            · have hq : (c != 32) = false := by simp [h32]
              have HV := Lib.hid (show s[k]? = some 32 by rw [List.getElem?_eq_getElem hlt]; congr 1; exact UInt8.toNat.inj (by have := HC.out; simp; omega))
              go_wp2_with fail
              go_meet
              exact ⟨rfl, false, rfl, by show _ ↔ _; simp [HV.out]⟩
            · have hq : (c != 32) = true := by rw [bne_iff_ne]; exact h32
              have HV := Lib.hid (show s[k]? ≠ some 32 by
                rw [List.getElem?_eq_getElem hlt]
                intro h
                have := Option.some.inj h
                have h2 := HC.out
                rw [this] at h2
                exact h32 (by rw [← h2]; rfl))
              go_wp2_with fail
              go_meet
              exact ⟨rfl, true, rfl, by show _ ↔ _; simp [HV.out]⟩
        case rest =>
          obtain ⟨hwx, bd, rfl, HBd⟩ := hcut
          subst hwx
          cases bd
          · have HN2 := Lib.hid (show s[k]? = some 32 by
              cases hh : s[k]? with
              | none => have := HBd.out.2 (by rw [hh]; simp); cases this
              | some c =>
                by_cases hc : c = 32
                · rw [hc]
                · have := HBd.out.2 (by rw [hh]; simpa using hc); cases this)
            have hkl : k < s.length := (List.getElem?_eq_some_iff.1 HN2.out).1
            have hklc : (k : Int) < (s.length : Int) := by omega
            clear HBd
            obtain ⟨r, hr⟩ : ∃ r, r = s.drop (k + 1) := ⟨_, rfl⟩
            have hx : (ByteArray.mk s.toArray).extract (k + 1) s.length = ⟨r.toArray⟩ := by rw [ba_cut, hr, List.take_of_length_le (by rw [List.length_drop]; omega)]
            have HRr := Lib.hid hr
            clear hr
            go_wp2_with fail
            refine (units_any _).mono ?_
            rintro e w1 ⟨B, rfl, hU, hb1⟩
            have HU := Lib.hid hU
            have HF1 := Lib.hid (HF.out.ext hb1)
            clear hU hb1
            go_wp2_with fail
            go_loopw [8, 76] (fun s8 s76 wr => Hid (TW w wr) ∧ Hid (UnitsAt wr B) ∧ ∃ i : Nat, s76 = .int .i64 i ∧ i ≤ 5 ∧ s8 = .int .i64 (uF r i)) (fun _ s76 _ => (5 - intOf s76).toNat)
            case atStart => exact ⟨HF1.out, HU.out, 0, rfl, by omega, rfl⟩
            case round =>
              clear HF1 HU
              obtain ⟨HF1, HU, i, rfl, hi, hu8⟩ := hrel
              obtain ⟨u, hu⟩ : ∃ u, u = uF r i := ⟨_, rfl⟩
              rw [← hu] at hu8
              subst hu8
              by_cases hlt : i < 5
              · have hltc : (i : Int) < 5 := by omega
                have r0 := HU.out i hlt
                unfold strV at r0
                have HUi := Lib.hid hu
                clear hu
                go_wp2_with fail
                refine (hasp_any r (wd i) _).mono ?_
                rintro e w' ⟨rfl, rfl⟩
                cases hp : hasP r (wd i) with
                | true =>
                  have HP := Lib.hid hp
                  clear hp
                  have hu1 : u = -1 := by rw [HUi.out]; exact uF_none hlt HP.out i (Nat.le_refl _)
                  subst hu1
                  go_wp2_with fail
                  go_roundw
                  case rel => exact ⟨HF1.out, HU.out, i + 1, by go_num, by omega, by unfold uF; rw [if_pos HP.out]⟩
                  case measure => simp [intOf]; omega
                | false =>
                  have HP := Lib.hid hp
                  clear hp
                  go_wp2_with fail
                  go_roundw
                  case rel => exact ⟨HF1.out, HU.out, i + 1, by go_num, by omega, by rw [HUi.out]; show _ = Value.int .i64 (if hasP r (wd i) then _ else _); rw [if_neg (by rw [HP.out]; simp)]⟩
                  case measure => simp [intOf]; omega
              · have hi5 : i = 5 := by omega
                subst hi5
                by_cases hneg : u < 0
                · have HO := Lib.hid (show termF s = (1, (k : Int) + 1, 0, 0, 0) by rw [term_unit HK.out HN1.out.1 HN1.out.2 HN2.out (by rw [← HRr.out, ← hu]; exact hneg)]; rfl)
                  clear hu
                  go_wp2_with fail
                  refine (wrong_any ((k : Int) + 1) A _ (HE.out.below HF1.out.2)).mono ?_
                  rintro e w9 ⟨b9, rfl, hb9, k0, k1, hbl9⟩
                  have hT9 := HF1.out.ext hbl9
                  have z0 := hT9.1.cell 0 rfl
                  have z1 := hT9.1.cell 1 rfl
                  have z2 := hT9.1.cell 2 rfl
                  have f0 := hT9.1.free 0
                  have f1 := hT9.1.free 1
                  have f2 := hT9.1.free 2
                  have hr := t_ret hT9 0 0 0
                  have s0 := hr.1
                  have s1 := hr.2.1
                  have s2 := hr.2.2.1
                  have HBx := Lib.hid hr.2.2.2
                  have HP9 := Lib.hid (perr_set (B := w.heap.size) ⟨b9, rfl, (by have := HF1.out.1.lt; omega), k0, k1⟩ 0 0 0)
                  clear hr hT9 hbl9 k0 k1
                  go_wp2_with fail
                  refine bodyPost_ret (v := .tuple #[.agg #[.int .i64 0, .int .i64 0, .int .i64 0], faultV b9]) (by simp [results, Tryd.results19, go_sem, s0, s1, s2, faultV]) rfl ?_
                  exact tpost_of HO.out HP9.out HBx.out
                · have hb5 := uF_bd r 5
                  obtain ⟨un, hun⟩ : ∃ un : Nat, u = (un : Int) := ⟨u.toNat, by omega⟩
                  have hun5 : un < 5 := by omega
                  have HUn := Lib.hid (show uF r 5 = (un : Int) by rw [← hu]; exact hun)
                  subst hun
                  clear hu hb5 hneg
                  have hpl : k + 1 + (wd un).length ≤ s.length := by
                    have h := uF_has (r := r) (i := 5) (by rw [HUn.out]; omega)
                    rw [HUn.out, Int.toNat_natCast] at h
                    have h2 := (hasP_iff.1 h).length_le
                    rw [HRr.out, List.length_drop] at h2
                    omega
                  go_wp2_with fail
                  refine (units_any _).mono ?_
                  rintro e w2 ⟨B2, rfl, hU, hb2⟩
                  have HB2 := Lib.hid hU
                  have hx0 := ext_alloc wr (.cells (List.toArray [.int .i64 0, .int .i64 (un : Int), .int .i64 0]) 46)
                  have HF2 := Lib.hid (HF1.out.ext (ext_trans hx0 hb2))
                  have hT := (Blk.new wr 46 [.int .i64 0, .int .i64 (un : Int), .int .i64 0]).ext (hb2.mono (show wr.heap.size + 1 ≤ _ by simp))
                  have hN1 : w.heap.size < wr.heap.size := HF1.out.1.lt
                  obtain ⟨N1, hN⟩ : ∃ N, N = wr.heap.size := ⟨_, rfl⟩
                  rw [← hN] at hT hN1 ⊢
                  have HT := Lib.hid hT
                  have r0 := HB2.out un hun5
                  unfold strV at r0
                  obtain ⟨t, ht⟩ : ∃ t, t = s.drop (k + 1 + (wd un).length) := ⟨_, rfl⟩
                  obtain ⟨a, haN⟩ : ∃ a, a = k + 1 + (wd un).length := ⟨_, rfl⟩
                  have ha : (k : Int) + 1 + ((wd un).length : Int) = (a : Int) := by omega
                  have hal : a ≤ s.length := by omega
                  have halc : (a : Int) ≤ (s.length : Int) := by omega
                  have hx2 : (ByteArray.mk s.toArray).extract a s.length = ⟨t.toArray⟩ := by rw [ba_cut, ht, haN, List.take_of_length_le (by rw [List.length_drop]; omega)]
                  have hta : t = s.drop a := by rw [ht, haN]
                  have HTa := Lib.hid hta
                  have HaN := Lib.hid haN
                  clear hta
                  have HTt := Lib.hid ht
                  have hwl : (wd un).length ≤ 3000 := by omega
                  clear hU hx0 hT hN ht hb2 hx haN
                  clear hi hlt
                  go_upto_block 4 with fail
                  have e1 : nextT ≠ [] := by decide
                  go_cut [3] (fun _ wx => Hid (TW w wx) ∧ ∃ ro : Nat, ro ≤ 2 ∧ Hid (Blk wx N1 46 [.int .i64 0, .int .i64 (un : Int), .int .i64 (ro : Int)]) ∧ Hid (tailF t = (true, ro)))
                  case first =>
                    have z2 := HT.out.cell 2 rfl
                    have f2 := HT.out.free 2
                    by_cases t0 : t = []
                    · have hq : ((ByteArray.mk t.toArray) == ByteArray.mk #[]) = true := by rw [t0]; rfl
                      have hp : (ByteArray.mk t.toArray) = ByteArray.mk #[] := by rw [t0]
                      have HV := Lib.hid (show tailF t = (true, 0) by rw [t0]; rfl)
                      clear t0
                      go_wp2_with fail
                      go_meet
                      exact ⟨HF2.out, 0, by omega, HT.out, HV.out⟩
                    · have hn0 : ¬ (ByteArray.mk t.toArray) = ByteArray.mk #[] := fun h => t0 (ba_inj h)
                      by_cases t1 : t = nextT
                      · have hp : (ByteArray.mk t.toArray) = ByteArray.mk #[44, 32, 110, 101, 120, 116] := by rw [t1]; rfl
                        have HV := Lib.hid (show tailF t = (true, 1) by rw [t1]; rfl)
                        have hn0' : ¬ (ByteArray.mk #[44, 32, 110, 101, 120, 116]) = ByteArray.mk #[] := by rw [← hp]; exact hn0
                        clear t0 t1
                        go_wp2_with fail
                        go_meet
                        exact ⟨⟨blk_set HF2.out.1 (by simp; omega) _, HF2.out.2.setCell (by simp; omega) _⟩, 1, by omega, HT.out.set 2 _, HV.out⟩
                      · have hn1 : ¬ (ByteArray.mk t.toArray) = ByteArray.mk #[44, 32, 110, 101, 120, 116] := fun h => t1 (ba_inj h)
                        by_cases t2 : t = befT
                        · have hp : (ByteArray.mk t.toArray) = ByteArray.mk #[44, 32, 98, 101, 102, 111, 114, 101] := by rw [t2]; rfl
                          have HV := Lib.hid (show tailF t = (true, 2) by rw [t2]; rfl)
                          have hn0' : ¬ (ByteArray.mk #[44, 32, 98, 101, 102, 111, 114, 101]) = ByteArray.mk #[] := by rw [← hp]; exact hn0
                          have hn1' : ¬ (ByteArray.mk #[44, 32, 98, 101, 102, 111, 114, 101]) = ByteArray.mk #[44, 32, 110, 101, 120, 116] := by rw [← hp]; exact hn1
                          clear t0 t1 t2
                          go_wp2_with fail
                          go_meet
                          exact ⟨⟨blk_set HF2.out.1 (by simp; omega) _, HF2.out.2.setCell (by simp; omega) _⟩, 2, by omega, HT.out.set 2 _, HV.out⟩
                        · have hn2 : ¬ (ByteArray.mk t.toArray) = ByteArray.mk #[44, 32, 98, 101, 102, 111, 114, 101] := fun h => t2 (ba_inj h)
                          have hi0 : t.isEmpty = false := by cases t with | nil => exact absurd rfl t0 | cons _ _ => rfl
                          have hi1 : (t == [44, 32, 110, 101, 120, 116]) = false := beq_eq_false_iff_ne.2 t1
                          have hi2 : (t == [44, 32, 98, 101, 102, 111, 114, 101]) = false := beq_eq_false_iff_ne.2 t2
                          have HT0 := Lib.hid t0
                          have HT1 := Lib.hid t1
                          have HT2 := Lib.hid t2
                          clear t0 t1 t2
                          have HWrong := Lib.hid (fun (x : Nat) (h : tailF t = (false, x)) => (show termF s = (1, ((a + x : Nat) : Int), 0, 0, 0) from term_tail HK.out HN1.out.1 HN1.out.2 HN2.out (by rw [← HRr.out]; exact HUn.out) HaN.out (by rw [← HTa.out]; exact h)))
                          go_wp2_with fail
                          go_loopg [12] 2 (fun g s12 wx => ∃ p q : Nat, p + g = 2 ∧ q = a + p ∧ q ≤ s.length ∧ s12 = .int .i64 (q : Int) ∧ Hid (∀ j, j < p → t[j]? = some (sep j)) ∧ wx = w2.iter ⟨#[44, 32]⟩ p)
                          case atStart => exact ⟨0, a, by omega, by omega, hal, rfl, fun j hj => absurd hj (by omega), rfl⟩
                          case round =>
                            obtain ⟨p, q, hg, hq, hqs, rfl, HSep, rfl⟩ := hrel
                            have HF5 := Lib.hid (HF2.out.ext (show Below w2.heap.size w2 (w2.iter ⟨#[44, 32]⟩ p) from ext_alloc w2 _))
                            by_cases hp : p < 2
                            · obtain ⟨cz, hcz⟩ : ∃ cz : Int, cz = ((sep p).toNat : Int) := ⟨_, rfl⟩
                              have hnx : ∀ ty, (Instr.next (.pointer (some ⟨w2.heap.size, 0, none⟩)) true ty).run Tryd.prog (w2.iter ⟨#[44, 32]⟩ p) = .ok (.tuple #[.bool true, .int .i64 p, .int .i32 cz]) (w2.iter ⟨#[44, 32]⟩ (p + 1)) := fun ty => by
                                rw [hcz]
                                rcases (show p = 0 ∨ p = 1 by omega) with rfl | rfl
                                · exact run_next_ascii w2 ⟨#[44, 32]⟩ 0 ty (by decide) (by decide)
                                · exact run_next_ascii w2 ⟨#[44, 32]⟩ 1 ty (by decide) (by decide)
                              have hcw : IntKind.u8.wrap cz = cz := IntWalk.u8_in _ (by rw [hcz]; have := (sep p).toNat_lt; omega)
                              have HCz := Lib.hid hcz
                              clear hcz
                              have HG := Lib.hid hg
                              have HQ := Lib.hid hq
                              clear hg hq
                              by_cases hqe : q = s.length
                              · have hqc : ((q : Int) == (s.length : Int)) = true := by rw [beq_iff_eq]; omega
                                have HO := Lib.hid (show termF s = (1, (q : Int), 0, 0, 0) by
                                  have h := HWrong.out p (tail_at HT0.out HT1.out HT2.out hp HSep.out (by rw [HTa.out, List.getElem?_drop, ← HQ.out, List.getElem?_eq_none (by omega)]; simp))
                                  rw [← HQ.out] at h
                                  exact h)
                                have HF6 := Lib.hid (HF2.out.ext (show Below w2.heap.size w2 (w2.iter ⟨#[44, 32]⟩ (p + 1)) from ext_alloc w2 _))
                                clear hqe
                                go_wp2_with fail
                                refine (wrong_any (q : Int) A _ (HE.out.below HF6.out.2)).mono ?_
                                rintro e w9 ⟨b9, rfl, hb9, k0, k1, hbl9⟩
                                have hT9 := HF6.out.ext hbl9
                                have z0 := hT9.1.cell 0 rfl
                                have z1 := hT9.1.cell 1 rfl
                                have z2 := hT9.1.cell 2 rfl
                                have f0 := hT9.1.free 0
                                have f1 := hT9.1.free 1
                                have f2 := hT9.1.free 2
                                have hr := t_ret hT9 0 0 0
                                have s0 := hr.1
                                have s1 := hr.2.1
                                have s2 := hr.2.2.1
                                have HBx := Lib.hid hr.2.2.2
                                have HP9 := Lib.hid (perr_set (B := w.heap.size) ⟨b9, rfl, (by have := HF6.out.1.lt; omega), k0, k1⟩ 0 0 0)
                                clear hr hT9 hbl9 k0 k1
                                go_wp2_with fail
                                refine bodyPost_ret (v := .tuple #[.agg #[.int .i64 0, .int .i64 0, .int .i64 0], faultV b9]) (by simp [results, Tryd.results19, go_sem, s0, s1, s2, faultV]) rfl ?_
                                exact tpost_of HO.out HP9.out HBx.out
                              · have hqc : ((q : Int) == (s.length : Int)) = false := by rw [beq_eq_false_iff_ne]; omega
                                have hql : q < s.length := by omega
                                have hqlc : (q : Int) < (s.length : Int) := by omega
                                have hsz : q < (ByteArray.mk s.toArray).size := hql
                                obtain ⟨c, hc⟩ : ∃ c : Int, (((ByteArray.mk s.toArray)[q]'hsz).toNat : Int) = c := ⟨_, rfl⟩
                                have HC := Lib.hid (show (s[q].toNat : Int) = c from hc)
                                have HAt := Lib.hid (show t[p]? = some s[q] by rw [HTa.out, List.getElem?_drop, ← HQ.out, List.getElem?_eq_getElem hql])
                                clear hqe
                                by_cases hcc : c = cz
                                · have hcq : (c != cz) = false := by simp [hcc]
                                  have HNx := Lib.hid (show t[p]? = some (sep p) by
                                    rw [HAt.out]; congr 1
                                    exact UInt8.toNat.inj (by have h1 := HC.out; have h2 := HCz.out; omega))
                                  clear hcc
                                  go_wp2_with fail
                                  go_roundg (gk - 1)
                                  case measure => have := HG.out; omega
                                  case rel =>
                                    refine ⟨p + 1, q + 1, by have := HG.out; omega, by have := HQ.out; omega, by omega, by go_num, fun j hj => ?_, rfl⟩
                                    by_cases e : j = p
                                    · subst e; exact HNx.out
                                    · exact HSep.out j (by omega)
                                · have hcq : (c != cz) = true := by rw [bne_iff_ne]; exact hcc
                                  have HO := Lib.hid (show termF s = (1, (q : Int), 0, 0, 0) by
                                    have h := HWrong.out p (tail_at HT0.out HT1.out HT2.out hp HSep.out (by
                                      rw [HAt.out]
                                      intro h3
                                      have h4 := Option.some.inj h3
                                      have h1 := HC.out
                                      rw [h4] at h1
                                      exact hcc (by rw [← h1, HCz.out])))
                                    rw [← HQ.out] at h
                                    exact h)
                                  have HF6 := Lib.hid (HF2.out.ext (show Below w2.heap.size w2 (w2.iter ⟨#[44, 32]⟩ (p + 1)) from ext_alloc w2 _))
                                  go_wp2_with fail
                                  refine (wrong_any (q : Int) A _ (HE.out.below HF6.out.2)).mono ?_
                                  rintro e w9 ⟨b9, rfl, hb9, k0, k1, hbl9⟩
                                  have hT9 := HF6.out.ext hbl9
                                  have z0 := hT9.1.cell 0 rfl
                                  have z1 := hT9.1.cell 1 rfl
                                  have z2 := hT9.1.cell 2 rfl
                                  have f0 := hT9.1.free 0
                                  have f1 := hT9.1.free 1
                                  have f2 := hT9.1.free 2
                                  have hr := t_ret hT9 0 0 0
                                  have s0 := hr.1
                                  have s1 := hr.2.1
                                  have s2 := hr.2.2.1
                                  have HBx := Lib.hid hr.2.2.2
                                  have HP9 := Lib.hid (perr_set (B := w.heap.size) ⟨b9, rfl, (by have := HF6.out.1.lt; omega), k0, k1⟩ 0 0 0)
                                  clear hr hT9 hbl9 k0 k1
                                  go_wp2_with fail
                                  refine bodyPost_ret (v := .tuple #[.agg #[.int .i64 0, .int .i64 0, .int .i64 0], faultV b9]) (by simp [results, Tryd.results19, go_sem, s0, s1, s2, faultV]) rfl ?_
                                  exact tpost_of HO.out HP9.out HBx.out
                            · have hnx := fun ty => run_next_end (P := Tryd.prog) w2 ⟨#[44, 32]⟩ p ty (by show ¬ p < 2; exact hp)
                              have hp2 : p = 2 := by omega
                              subst hp2
                              have HWd := Lib.hid (tail_word HT0.out HT1.out HT2.out HSep.out)
                              obtain ⟨w5, hw5⟩ : ∃ w5, w5 = w2.iter ⟨#[44, 32]⟩ 2 := ⟨_, rfl⟩
                              rw [← hw5] at HF5 hnx ⊢
                              clear hw5
                              have y0 := (Blk.new w5 9 [.string ⟨#[110, 101, 120, 116]⟩, .string ⟨#[98, 101, 102, 111, 114, 101]⟩]).cell 0 rfl
                              have y1 := (Blk.new w5 9 [.string ⟨#[110, 101, 120, 116]⟩, .string ⟨#[98, 101, 102, 111, 114, 101]⟩]).cell 1 rfl
                              have HF6 := Lib.hid (HF5.out.ext (ext_alloc w5 (.cells (List.toArray [.string ⟨#[110, 101, 120, 116]⟩, .string ⟨#[98, 101, 102, 111, 114, 101]⟩]) 9)))
                              obtain ⟨tt, htt⟩ : ∃ tt, tt = t.drop 2 := ⟨_, rfl⟩
                              have hx3 : (ByteArray.mk s.toArray).extract q s.length = ⟨tt.toArray⟩ := by rw [ba_cut, htt, HTa.out, List.drop_drop, List.take_of_length_le (by rw [List.length_drop]; omega), hq]
                              rw [← htt] at HWd
                              have hqb : (q : Int) ≤ 3000 := by omega
                              have hqsc : (q : Int) ≤ (s.length : Int) := by omega
                              have HQ := Lib.hid hq
                              clear hq htt hg hp
                              obtain ⟨W6, hW6⟩ : ∃ W6, W6 = w5.alloc (.cells (List.toArray [.string ⟨#[110, 101, 120, 116]⟩, .string ⟨#[98, 101, 102, 111, 114, 101]⟩]) 9) := ⟨_, rfl⟩
                              rw [← hW6] at HF6 y0 y1
                              go_wp2_with fail
                              rw [show w5.alloc (.cells #[.string ⟨#[110, 101, 120, 116]⟩, .string ⟨#[98, 101, 102, 111, 114, 101]⟩] 9) = W6 from hW6.symm]
                              clear hW6 hnx
                              go_loop [145] (fun i => ∃ n : Nat, n ≤ 2 ∧ i = .int .i64 n ∧ Hid (0 < n → hasP tt nextW = false) ∧ Hid (1 < n → hasP tt befW = false)) (fun i => (2 - intOf i).toNat)
                              case atStart => exact ⟨0, by omega, rfl, fun h => absurd h (by omega), fun h => absurd h (by omega)⟩
                              case round =>
                                obtain ⟨n, hn, rfl, HA0, HA1⟩ := hrel
                                rcases (show n = 0 ∨ n = 1 ∨ n = 2 by omega) with rfl | rfl | rfl
                                · go_wp2_with fail
                                  refine (hasp_any tt nextW _).mono ?_
                                  rintro e w' ⟨rfl, rfl⟩
                                  cases hp : hasP tt nextW with
                                  | true =>
                                    have HO := Lib.hid (show termF s = (1, (q : Int) + 4, 0, 0, 0) by
                                      have h := HWrong.out 6 (by rw [HWd.out, if_pos hp])
                                      rw [h, show ((a + 6 : Nat) : Int) = (q : Int) + 4 by have := HQ.out; omega])
                                    clear hp
                                    go_wp2_with fail
                                    refine (wrong_any ((q : Int) + 4) A _ (HE.out.below HF6.out.2)).mono ?_
                                    rintro e w9 ⟨b9, rfl, hb9, k0, k1, hbl9⟩
                                    have hT9 := HF6.out.ext hbl9
                                    have z0 := hT9.1.cell 0 rfl
                                    have z1 := hT9.1.cell 1 rfl
                                    have z2 := hT9.1.cell 2 rfl
                                    have f0 := hT9.1.free 0
                                    have f1 := hT9.1.free 1
                                    have f2 := hT9.1.free 2
                                    have hr := t_ret hT9 0 0 0
                                    have s0 := hr.1
                                    have s1 := hr.2.1
                                    have s2 := hr.2.2.1
                                    have HBx := Lib.hid hr.2.2.2
                                    have HP9 := Lib.hid (perr_set (B := w.heap.size) ⟨b9, rfl, (by have := HF6.out.1.lt; omega), k0, k1⟩ 0 0 0)
                                    clear hr hT9 hbl9 k0 k1
                                    go_wp2_with fail
                                    refine bodyPost_ret (v := .tuple #[.agg #[.int .i64 0, .int .i64 0, .int .i64 0], faultV b9]) (by simp [results, Tryd.results19, go_sem, s0, s1, s2, faultV]) rfl ?_
                                    exact tpost_of HO.out HP9.out HBx.out
                                  | false =>
                                    have HP := Lib.hid hp
                                    clear hp
                                    go_wp2_with fail
                                    go_round
                                    case rel => exact ⟨1, by omega, rfl, fun _ => HP.out, fun h => absurd h (by omega)⟩
                                    case measure => simp [intOf]
                                · go_wp2_with fail
                                  refine (hasp_any tt befW _).mono ?_
                                  rintro e w' ⟨rfl, rfl⟩
                                  cases hp : hasP tt befW with
                                  | true =>
                                    have HO := Lib.hid (show termF s = (1, (q : Int) + 6, 0, 0, 0) by
                                      have h := HWrong.out 8 (by rw [HWd.out, if_neg (by rw [HA0.out (by omega)]; simp), if_pos hp])
                                      rw [h, show ((a + 8 : Nat) : Int) = (q : Int) + 6 by have := HQ.out; omega])
                                    clear hp
                                    go_wp2_with fail
                                    refine (wrong_any ((q : Int) + 6) A _ (HE.out.below HF6.out.2)).mono ?_
                                    rintro e w9 ⟨b9, rfl, hb9, k0, k1, hbl9⟩
                                    have hT9 := HF6.out.ext hbl9
                                    have z0 := hT9.1.cell 0 rfl
                                    have z1 := hT9.1.cell 1 rfl
                                    have z2 := hT9.1.cell 2 rfl
                                    have f0 := hT9.1.free 0
                                    have f1 := hT9.1.free 1
                                    have f2 := hT9.1.free 2
                                    have hr := t_ret hT9 0 0 0
                                    have s0 := hr.1
                                    have s1 := hr.2.1
                                    have s2 := hr.2.2.1
                                    have HBx := Lib.hid hr.2.2.2
                                    have HP9 := Lib.hid (perr_set (B := w.heap.size) ⟨b9, rfl, (by have := HF6.out.1.lt; omega), k0, k1⟩ 0 0 0)
                                    clear hr hT9 hbl9 k0 k1
                                    go_wp2_with fail
                                    refine bodyPost_ret (v := .tuple #[.agg #[.int .i64 0, .int .i64 0, .int .i64 0], faultV b9]) (by simp [results, Tryd.results19, go_sem, s0, s1, s2, faultV]) rfl ?_
                                    exact tpost_of HO.out HP9.out HBx.out
                                  | false =>
                                    have HP := Lib.hid hp
                                    clear hp
                                    go_wp2_with fail
                                    go_round
                                    case rel => exact ⟨2, by omega, rfl, fun _ => HA0.out (by omega), fun _ => HP.out⟩
                                    case measure => simp [intOf]
                                · have HO := Lib.hid (show termF s = (1, (q : Int), 0, 0, 0) by
                                    have h := HWrong.out 2 (by rw [HWd.out, if_neg (by rw [HA0.out (by omega)]; simp), if_neg (by rw [HA1.out (by omega)]; simp)])
                                    rw [h, show ((a + 2 : Nat) : Int) = (q : Int) by have := HQ.out; omega])
                                  go_wp2_with fail
                                  refine (wrong_any (q : Int) A _ (HE.out.below HF6.out.2)).mono ?_
                                  rintro e w9 ⟨b9, rfl, hb9, k0, k1, hbl9⟩
                                  have hT9 := HF6.out.ext hbl9
                                  have z0 := hT9.1.cell 0 rfl
                                  have z1 := hT9.1.cell 1 rfl
                                  have z2 := hT9.1.cell 2 rfl
                                  have f0 := hT9.1.free 0
                                  have f1 := hT9.1.free 1
                                  have f2 := hT9.1.free 2
                                  have hr := t_ret hT9 0 0 0
                                  have s0 := hr.1
                                  have s1 := hr.2.1
                                  have s2 := hr.2.2.1
                                  have HBx := Lib.hid hr.2.2.2
                                  have HP9 := Lib.hid (perr_set (B := w.heap.size) ⟨b9, rfl, (by have := HF6.out.1.lt; omega), k0, k1⟩ 0 0 0)
                                  clear hr hT9 hbl9 k0 k1
                                  go_wp2_with fail
                                  refine bodyPost_ret (v := .tuple #[.agg #[.int .i64 0, .int .i64 0, .int .i64 0], faultV b9]) (by simp [results, Tryd.results19, go_sem, s0, s1, s2, faultV]) rfl ?_
                                  exact tpost_of HO.out HP9.out HBx.out
                  case rest =>
                    obtain ⟨HF3, ro, hro, HT3, HTl⟩ := hcut
                    go_wp2_with fail
                    rw [ba_take]
                    refine (atoi_any (s.take k) (by rw [← HK.out]; exact digs_kD s) (fun h => by have h2 := congrArg List.length h; rw [List.length_take] at h2; simp at h2; rcases h2 with h2 | h2; exact HN1.out.1 h2; subst h2; simp at hkl) (by rw [List.length_take]; omega) rv _ (cell_ext HF3.out.2 HV0.out) HI0.out).mono ?_
                    obtain ⟨V, hV⟩ : ∃ V, V = valD (s.take k) := ⟨_, rfl⟩
                    rw [← hV]
                    have HVV := Lib.hid hV
                    clear hV
                    rintro e w4 ⟨hb4, h4⟩
                    have HF4 := Lib.hid (HF3.out.ext hb4)
                    have HT4 := Lib.hid (HT3.out.ext (hb4.mono (show N1 + 1 ≤ _ from HT3.out.lt)))
                    clear hb4
                    rcases h4 with ⟨hV1, rfl⟩ | ⟨hV1, v4, t4, p4, rfl⟩
                    · by_cases hbig : 100000 < V
                      · have HO := Lib.hid (term_bound HK.out HN1.out.1 HN1.out.2 HN2.out (by rw [← HRr.out]; exact HUn.out) rfl (by rw [← HTt.out]; exact HTl.out) (by rw [← HVV.out]; exact hbig))
                        have hbc : (100000 : Int) < (V : Int) := by omega
                        go_wp2_with fail
                        have hgl := cell_lt HE.out.v1
                        simp only at hgl
                        have hT9 := HF4.out
                        have ht := (HE.out.below hT9.2).v1
                        have hts : (((w4.setCell ⟨w.heap.size, 0, none⟩ (.int .i64 0)).setCell ⟨w.heap.size, 1, none⟩ (.int .i64 0)).setCell ⟨w.heap.size, 2, none⟩ (.int .i64 0)).cell? ⟨0, 0, none⟩ = some (sentV (A 1)) := cell_set_other (cell_set_other (cell_set_other ht (show 0 ≠ w.heap.size by omega) _) (show 0 ≠ w.heap.size by omega) _) (show 0 ≠ w.heap.size by omega) _
                        unfold sentV at ht hts
                        have z0 := hT9.1.cell 0 rfl
                        have z1 := hT9.1.cell 1 rfl
                        have z2 := hT9.1.cell 2 rfl
                        have f0 := hT9.1.free 0
                        have f1 := hT9.1.free 1
                        have f2 := hT9.1.free 2
                        have hlt9 := hT9.1.lt
                        have HB3 := Lib.hid (((hT9.1.set 0 (.int .i64 0)).set 1 (.int .i64 0)).set 2 (.int .i64 0))
                        have HX3 := Lib.hid (show Below w.heap.size w (((w4.setCell ⟨w.heap.size, 0, none⟩ (.int .i64 0)).setCell ⟨w.heap.size, 1, none⟩ (.int .i64 0)).setCell ⟨w.heap.size, 2, none⟩ (.int .i64 0)) from ((hT9.2.setCell (by simp) _).setCell (by simp) _).setCell (by simp) _)
                        clear hT9
                        go_region
                        go_wp2_with fail
                        obtain ⟨W3, hW3⟩ : ∃ W3, W3 = (((w4.setCell ⟨w.heap.size, 0, none⟩ (.int .i64 0)).setCell ⟨w.heap.size, 1, none⟩ (.int .i64 0)).setCell ⟨w.heap.size, 2, none⟩ (.int .i64 0)) := ⟨_, rfl⟩
                        have HB4 := HB3.out
                        have HX4 := HX3.out
                        have hsz : W3.heap.size = w4.heap.size := by rw [hW3]; simp
                        rw [← hW3] at HB4 HX4 ⊢
                        rw [← hsz]
                        have hN := Blk.new W3 151 [.int .i64 0, sentV (A 1)]
                        have hb := ext_trans (ext_alloc W3 (.cells (List.toArray [.int .i64 0, sentV (A 1)]) 151)) (ext_drewN _ 1)
                        have hM := hN.ext ((ext_drewN _ 1).mono (show W3.heap.size + 1 ≤ _ from hN.lt))
                        have hR := HB4.ext ((ext_alloc W3 (.cells (List.toArray [.int .i64 0, sentV (A 1)]) 151)).mono (show w.heap.size + 1 ≤ _ from HB4.lt))
                        have s0 := hR.cell 0 rfl
                        have s1 := hR.cell 1 rfl
                        have s2 := hR.cell 2 rfl
                        unfold sentV at hb hM s0 s1 s2
                        refine bodyPost_ret (v := .tuple #[.agg #[.int .i64 0, .int .i64 0, .int .i64 0], faultV W3.heap.size]) (by simp [results, Tryd.results19, go_sem, s0, s1, s2, faultV]) rfl ?_
                        exact tpost_of HO.out (.inr ⟨1, by omega, rfl, _, rfl, hM.cell 0 rfl, hM.cell 1 rfl⟩) (HX4.trans (hb.mono HX4.size))
                      · have HO := Lib.hid (term_ok HK.out HN1.out.1 HN1.out.2 HN2.out (by rw [← HRr.out]; exact HUn.out) rfl (by rw [← HTt.out]; exact HTl.out) (by rw [← HVV.out]; exact hbig))
                        rw [← HVV.out] at HO
                        have hbc : ¬ (100000 : Int) < (V : Int) := by omega
                        have y0 := HT4.out.cell 0 rfl
                        have y0f := HT4.out.free 0
                        have hTb := HT4.out.set 0 (.int .i64 (V : Int))
                        have hFb : TW w (w4.setCell ⟨N1, 0, none⟩ (.int .i64 (V : Int))) := ⟨blk_set HF4.out.1 (by simp; omega) _, HF4.out.2.setCell (by simp; omega) _⟩
                        have y1 := hTb.cell 0 rfl
                        have y2 := hTb.cell 1 rfl
                        have y3 := hTb.cell 2 rfl
                        have z0 := hFb.1.cell 0 rfl
                        have z1 := hFb.1.cell 1 rfl
                        have z2 := hFb.1.cell 2 rfl
                        have f0 := hFb.1.free 0
                        have f1 := hFb.1.free 1
                        have f2 := hFb.1.free 2
                        have hr := t_ret hFb (V : Int) (un : Int) (ro : Int)
                        have s0 := hr.1
                        have s1 := hr.2.1
                        have s2 := hr.2.2.1
                        have HBx := Lib.hid hr.2.2.2
                        clear hr hFb hTb
                        go_wp2_with fail
                        refine bodyPost_ret (v := .tuple #[.agg #[.int .i64 (V : Int), .int .i64 (un : Int), .int .i64 (ro : Int)], .nilIface]) (by simp [results, Tryd.results19, go_sem, s0, s1, s2]) rfl ?_
                        exact tpost_of HO.out (.inl ⟨rfl, rfl⟩) HBx.out
                    · have HO := Lib.hid (term_bound HK.out HN1.out.1 HN1.out.2 HN2.out (by rw [← HRr.out]; exact HUn.out) rfl (by rw [← HTt.out]; exact HTl.out) (by rw [← HVV.out]; omega))
                      go_wp2_with fail
                      have hgl := cell_lt HE.out.v1
                      simp only at hgl
                      have hT9 := HF4.out
                      have ht := (HE.out.below hT9.2).v1
                      have hts : (((w4.setCell ⟨w.heap.size, 0, none⟩ (.int .i64 0)).setCell ⟨w.heap.size, 1, none⟩ (.int .i64 0)).setCell ⟨w.heap.size, 2, none⟩ (.int .i64 0)).cell? ⟨0, 0, none⟩ = some (sentV (A 1)) := cell_set_other (cell_set_other (cell_set_other ht (show 0 ≠ w.heap.size by omega) _) (show 0 ≠ w.heap.size by omega) _) (show 0 ≠ w.heap.size by omega) _
                      unfold sentV at ht hts
                      have z0 := hT9.1.cell 0 rfl
                      have z1 := hT9.1.cell 1 rfl
                      have z2 := hT9.1.cell 2 rfl
                      have f0 := hT9.1.free 0
                      have f1 := hT9.1.free 1
                      have f2 := hT9.1.free 2
                      have hlt9 := hT9.1.lt
                      have HB3 := Lib.hid (((hT9.1.set 0 (.int .i64 0)).set 1 (.int .i64 0)).set 2 (.int .i64 0))
                      have HX3 := Lib.hid (show Below w.heap.size w (((w4.setCell ⟨w.heap.size, 0, none⟩ (.int .i64 0)).setCell ⟨w.heap.size, 1, none⟩ (.int .i64 0)).setCell ⟨w.heap.size, 2, none⟩ (.int .i64 0)) from ((hT9.2.setCell (by simp) _).setCell (by simp) _).setCell (by simp) _)
                      clear hT9
                      go_region
                      go_wp2_with fail
                      obtain ⟨W3, hW3⟩ : ∃ W3, W3 = (((w4.setCell ⟨w.heap.size, 0, none⟩ (.int .i64 0)).setCell ⟨w.heap.size, 1, none⟩ (.int .i64 0)).setCell ⟨w.heap.size, 2, none⟩ (.int .i64 0)) := ⟨_, rfl⟩
                      have HB4 := HB3.out
                      have HX4 := HX3.out
                      have hsz : W3.heap.size = w4.heap.size := by rw [hW3]; simp
                      rw [← hW3] at HB4 HX4 ⊢
                      rw [← hsz]
                      have hN := Blk.new W3 151 [.int .i64 0, sentV (A 1)]
                      have hb := ext_trans (ext_alloc W3 (.cells (List.toArray [.int .i64 0, sentV (A 1)]) 151)) (ext_drewN _ 1)
                      have hM := hN.ext ((ext_drewN _ 1).mono (show W3.heap.size + 1 ≤ _ from hN.lt))
                      have hR := HB4.ext ((ext_alloc W3 (.cells (List.toArray [.int .i64 0, sentV (A 1)]) 151)).mono (show w.heap.size + 1 ≤ _ from HB4.lt))
                      have s0 := hR.cell 0 rfl
                      have s1 := hR.cell 1 rfl
                      have s2 := hR.cell 2 rfl
                      unfold sentV at hb hM s0 s1 s2
                      refine bodyPost_ret (v := .tuple #[.agg #[.int .i64 0, .int .i64 0, .int .i64 0], faultV W3.heap.size]) (by simp [results, Tryd.results19, go_sem, s0, s1, s2, faultV]) rfl ?_
                      exact tpost_of HO.out (.inr ⟨1, by omega, rfl, _, rfl, hM.cell 0 rfl, hM.cell 1 rfl⟩) (HX4.trans (hb.mono HX4.size))
          · --[
            have HO := Lib.hid (term_space HK.out HN1.out.1 HN1.out.2 (HBd.out.1 rfl))
            go_wp2_with fail
            refine (wrong_any (k : Int) A _ (HE.out.below HF.out.2)).mono ?_
            rintro e w9 ⟨b9, rfl, hb9, k0, k1, hbl9⟩
            have hT9 := HF.out.ext hbl9
            have z0 := hT9.1.cell 0 rfl
            have z1 := hT9.1.cell 1 rfl
            have z2 := hT9.1.cell 2 rfl
            have f0 := hT9.1.free 0
            have f1 := hT9.1.free 1
            have f2 := hT9.1.free 2
            have hr := t_ret hT9 0 0 0
            have s0 := hr.1
            have s1 := hr.2.1
            have s2 := hr.2.2.1
            have HBx := Lib.hid hr.2.2.2
            have HP9 := Lib.hid (perr_set (B := w.heap.size) ⟨b9, rfl, (by have := HF.out.1.lt; omega), k0, k1⟩ 0 0 0)
            clear hr hT9 hbl9 k0 k1
            go_wp2_with fail
            refine bodyPost_ret (v := .tuple #[.agg #[.int .i64 0, .int .i64 0, .int .i64 0], faultV b9]) (by simp [results, Tryd.results19, go_sem, s0, s1, s2, faultV]) rfl ?_
            exact tpost_of HO.out HP9.out HBx.out
      · --[
        by_cases hk0 : k = 0
        · have HO := Lib.hid (term_zero (s := s) (by rw [HK.out, hk0]))
          subst hk0
          go_wp2_with fail
          refine (wrong_any 0 A _ (HE.out.below HF.out.2)).mono ?_
          rintro e w9 ⟨b9, rfl, hb9, k0, k1, hbl9⟩
          have hT9 := HF.out.ext hbl9
          have z0 := hT9.1.cell 0 rfl
          have z1 := hT9.1.cell 1 rfl
          have z2 := hT9.1.cell 2 rfl
          have f0 := hT9.1.free 0
          have f1 := hT9.1.free 1
          have f2 := hT9.1.free 2
          have hr := t_ret hT9 0 0 0
          have s0 := hr.1
          have s1 := hr.2.1
          have s2 := hr.2.2.1
          have HBx := Lib.hid hr.2.2.2
          have HP9 := Lib.hid (perr_set (B := w.heap.size) ⟨b9, rfl, (by have := HF.out.1.lt; omega), k0, k1⟩ 0 0 0)
          clear hr hT9 hbl9 k0 k1
          go_wp2_with fail
          refine bodyPost_ret (v := .tuple #[.agg #[.int .i64 0, .int .i64 0, .int .i64 0], faultV b9]) (by simp [results, Tryd.results19, go_sem, s0, s1, s2, faultV]) rfl ?_
          exact tpost_of HO.out HP9.out HBx.out
        · have HO := Lib.hid (term_lead (s := s) (by rw [HK.out]; rcases HBd.out.1 rfl with h | h; exact absurd h hk0; exact h))
          have h1k : (1 : Int) < (k : Int) := by rcases HBd.out.1 rfl with h | h; exact absurd h hk0; omega
          go_wp2_with fail
          rw [show min (k : Int) 1 = 1 by omega]
          refine (wrong_any 1 A _ (HE.out.below HF.out.2)).mono ?_
          rintro e w9 ⟨b9, rfl, hb9, k0, k1, hbl9⟩
          have hT9 := HF.out.ext hbl9
          have z0 := hT9.1.cell 0 rfl
          have z1 := hT9.1.cell 1 rfl
          have z2 := hT9.1.cell 2 rfl
          have f0 := hT9.1.free 0
          have f1 := hT9.1.free 1
          have f2 := hT9.1.free 2
          have hr := t_ret hT9 0 0 0
          have s0 := hr.1
          have s1 := hr.2.1
          have s2 := hr.2.2.1
          have HBx := Lib.hid hr.2.2.2
          have HP9 := Lib.hid (perr_set (B := w.heap.size) ⟨b9, rfl, (by have := HF.out.1.lt; omega), k0, k1⟩ 0 0 0)
          clear hr hT9 hbl9 k0 k1
          go_wp2_with fail
          refine bodyPost_ret (v := .tuple #[.agg #[.int .i64 0, .int .i64 0, .int .i64 0], faultV b9]) (by simp [results, Tryd.results19, go_sem, s0, s1, s2, faultV]) rfl ?_
          exact tpost_of HO.out HP9.out HBx.out
end Go.Proofs.YtpbmamcmmogidaaDoor.Tm

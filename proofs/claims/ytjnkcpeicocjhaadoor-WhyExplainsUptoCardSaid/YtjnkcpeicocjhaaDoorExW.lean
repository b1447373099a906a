/- why.pruned: an explanation without what is not needed. -/
import Derived.Test.YtjnkcpeicocjhaaDoorExF
import Derived.Test.YtjnkcpeicocjhaaDoorCheck
namespace Go.Proofs.YtjnkcpeicocjhaaDoor.Exp
open Go.RowKit Mem Thy Nest Day Thm Sol Val Solve ChkW WhySound

theorem one_more (i : Nat) : (i : Int) + 1 = ((i + 1 : Nat) : Int) := by omega
/-- what pruned gives -/
def PrunedPost (t : Th) (g : Sp) (w : World) (e : Ending) (w' : World) : Prop :=
  ∃ (b o c : Nat) (l : List Sp), e = .returned (.slice (some ⟨b, o, none⟩) l.length c) ∧ Rd w' (some ⟨b, o, none⟩) (l.flatMap spCells) ∧ Fine t g l ∧ l.length ≤ 1000 ∧ Below w.heap.size w w'
set_option maxRecDepth 100000 in
set_option maxHeartbeats 2000000 in
theorem pruned_any (n : Nat) (rs : List Rw) (RA : Option Addr) (rc : Nat) (ov : List (Int × Int)) (hr : Right n rs ov) (hov : ov.length ≤ 9223372036854775807) (OA : Option Addr) (oc : Nat) (g : Sp) (l : List Sp) (hf : Fine (thOf n rs ov) g l) (hl : l.length ≤ 1000) (b o c : Nat) (aB aK aN aO : Addr) (w : World)
    (hR : Rws w RA rs) (hO : Rd w OA (ov.flatMap prCells)) (hE : ErrR w (errV aB) (errV aK) (errV aN) (errV aO)) (hL : Rd w (some ⟨b, o, none⟩) (l.flatMap spCells)) :
    Calls Tryd.prog 54 #[.agg #[.int .i64 n, .slice RA rs.length rc, .slice OA ov.length oc], .slice (some ⟨b, o, none⟩) l.length c] w (PrunedPost (thOf n rs ov) g w) := by
  have hx := ext_alloc w (.cells (thCells n rs RA rc ov OA oc).toArray 71)
  have HX := Lib.hid hx
  have HT := Lib.hid (Blk.new w 71 (thCells n rs RA rc ov OA oc))
  have HR := Lib.hid hR
  have HO := Lib.hid hO
  have HE := Lib.hid hE
  have HL := Lib.hid hL
  have HF := Lib.hid hf
  have HRt := Lib.hid hr
  have hl1 := hf.ne
  clear hx hR hO hE hL hf hr
  by_cases hbig : 60 < l.length
  · have hbig2 : (60 : Int) < (l.length : Int) := by omega
    go_enter Tryd.func54, Tryd.ntmps54
    go_wp2_with fail
    go_ret
    exact ⟨b, o, c, l, rfl, HL.out.ext HX.out, HF.out, hl, HX.out⟩
  · have hbig2 : ¬ (60 : Int) < (l.length : Int) := by omega
    have hl2 : (1 : Int) ≤ (l.length : Int) := by omega
    have hl3 : (l.length : Int) ≤ 60 := by omega
    go_enter Tryd.func54, Tryd.ntmps54
    go_wp2_with fail
    go_loopw [1, 5] (fun s1 s5 wr => ∃ (l' : List Sp) (b' o' c' : Nat) (iz : Int), s1 = .slice (some ⟨b', o', none⟩) l'.length c' ∧ s5 = .int .i64 iz ∧ -1 ≤ iz ∧ iz + 2 ≤ l'.length ∧ l'.length ≤ 60 ∧ Hid (Fine (thOf n rs ov) g l') ∧ Hid (Rd wr (some ⟨b', o', none⟩) (l'.flatMap spCells)) ∧ Hid (Below w.heap.size w wr) ∧ Hid (Blk wr w.heap.size 71 (thCells n rs RA rc ov OA oc))) (fun _ s5 _ => (intOf s5 + 1).toNat)
    case atStart => exact ⟨l, b, o, c, _, rfl, rfl, by omega, by omega, by omega, HF.out, HL.out.ext HX.out, HX.out, HT.out⟩
    case round =>
      clear HX HT HL HF hl hl1 hbig hbig2 hl2 hl3
      obtain ⟨l', b', o', c', iz, rfl, rfl, h1, h2, h3, HF, HL, HB, HT⟩ := hrel
      by_cases h0 : 0 ≤ iz
      · obtain ⟨i, rfl⟩ : ∃ i : Nat, iz = i := ⟨iz.toNat, by omega⟩
        have hi : i + 1 < l'.length := by omega
        have hi2 : (i : Int) ≤ 60 := by omega
        go_wp2_with fail
        refine (clone_any l' (by omega) b' o' c' _ HL.out).mono ?_
        rintro e w1 ⟨v, rfl, hown, hne, hb1⟩
        rcases hown.2 with ⟨hv, _⟩ | ⟨gb, cap, cur, hv, hge, hhe, hcap, hmax, _, _⟩
        · exact absurd hv hne
        · subst hv
          have HCl := Lib.hid (show ∀ j u, (l'.flatMap spCells)[j]? = some u → w1.cell? ⟨gb, j, none⟩ = some u from fun j u hj => by
            have := (List.getElem?_eq_some_iff.1 hj).1
            rw [sps_len] at this
            rw [hown.cellAt j this]
            exact hj)
          have HFz := Lib.hid (show ∀ j, w1.frozen? ⟨gb, j, none⟩ = false from fun j => by simp [World.frozen?, hhe])
          have HB1 := Lib.hid hb1
          have HGe := Lib.hid hge
          clear hown hne hhe hb1 hge
          go_wp2_with fail
          refine (del_any l' i _ rfl hi (by omega) gb cap hcap w1 (by unfold maxLen at hmax; omega) HCl.out HFz.out).mono ?_
          rintro e w2 ⟨rfl, hrd, hb2⟩
          have HB2 := Lib.hid (HB1.out.trans (hb2.mono HGe.out))
          have HBw := Lib.hid (ext_trans HB.out HB2.out)
          have HRd := Lib.hid hrd
          have HT2 := Lib.hid (blk_ext HT.out HB2.out)
          have t0 := HT2.out.cell 0 rfl
          have t1 := HT2.out.cell 1 rfl
          have t2 := HT2.out.cell 2 rfl
          obtain ⟨m, hm⟩ : ∃ m, m = l'.take i ++ l'.drop (i + 1) := ⟨_, rfl⟩
          have HM := Lib.hid hm
          have HML := Lib.hid (show m.length = l'.length - 1 by rw [hm, List.length_append, List.length_take, List.length_drop]; omega)
          rw [← hm] at HRd ⊢
          have HCk := Lib.hid (check_any (n : Int) rs RA rc ov hov OA oc m (by rw [HML.out]; omega) (some ⟨gb, 0, none⟩) cap aB aK aN aO w2 (HR.out.ext HBw.out) (HO.out.ext HBw.out) (HE.out.ext HBw.out) HRd.out)
          clear hm hrd hb2 HCl HFz
          go_wp2_with fail
          refine HCk.out.mono ?_
          rintro e w3 ⟨bc, ev, rfl, hb3, hc⟩
          have HB3 := Lib.hid (ext_trans HBw.out hb3)
          have HB23 := Lib.hid hb3
          have HCC := Lib.hid (show bc = true ↔ Chk (thOf n rs ov) m (fun _ => 0) (fun _ => 0) by
            rcases hc with ⟨hn, _⟩ | ⟨_, _, n', hn', hck⟩
            · exact absurd HRt.out hn
            · obtain rfl : n = n' := by omega
              exact hck)
          clear hc hb3 t0 t1 t2
          cases bc
          · go_wp2_with fail
            go_roundw
            case rel => exact ⟨l', b', o', c', _, rfl, rfl, by omega, by omega, h3, HF.out, (HL.out.ext HB2.out).ext HB23.out, HB3.out, blk_ext HT2.out HB23.out⟩
            case measure => simp [intOf] <;> omega
          · go_wp2_with fail
            go_roundw
            case rel => exact ⟨m, gb, 0, cap, _, rfl, rfl, by omega, by rw [HML.out]; omega, by rw [HML.out]; omega, HM.out ▸ HF.out.del i hi (HM.out ▸ HCC.out.1 (by simp)), HRd.out.ext HB23.out, HB3.out, blk_ext HT2.out HB23.out⟩
            case measure => simp [intOf] <;> omega
      · have h0' : iz < 0 := by omega
        go_wp2_with fail
        go_ret
        exact ⟨b', o', c', l', rfl, HL.out, HF.out, by omega, HB.out⟩
end Go.Proofs.YtjnkcpeicocjhaaDoor.Exp

/- Facts: what the document tells of a file: a value, who stands so, days. -/
import Derived.Test.YtnchlnfenebomaaGreatDoorFkD
namespace Go.Proofs.YtnchlnfenebomaaGreatDoor.Fk
open Go.RowKit Mem Nest Err App

theorem int_info : (Tryz.prog.info? 3).map (fun i => (i.zero, i.size, i.bytes)) = some (some (.int .i64 0), 1, 8) := by kernel_rfl
def ValPost (b : Option Fa) (w : World) (e : Ending) (w' : World) : Prop := e = .returned (.tuple #[.int .i64 (valF b).1, .bool (valF b).2]) ∧ Below w.heap.size w w'
set_option maxHeartbeats 1000000 in
theorem rvalue_any (l : List Fa) (hl : l.length ≤ 500) (b : Nat) (A : Option Addr) (c : Nat) (wh : Int) (nm : List UInt8) (on kn : Int) (w : World) (hF : FR 100 w b A c l) :
    Calls Tryz.prog 44 #[.pointer (some ⟨b, 0, none⟩), .int .i64 wh, .string ⟨nm.toArray⟩, .int .i64 on, .int .i64 kn] w (ValPost (bestF wh nm on kn (-1) l) w) := by
  have HF := Lib.hid hF
  clear hF
  go_enter Tryz.func44, Tryz.ntmps44
  go_wp2_with fail
  refine (latest_any l hl b A c wh nm (-1) on kn _ HF.out).mono ?_
  rintro e w1 ⟨v, rfl, hlat, hb⟩
  have HB := Lib.hid hb
  have HFr := Lib.hid (HF.out.ext hb)
  have c0 := HFr.out.1.cell 0 rfl
  clear hb
  unfold LatAt at hlat
  rw [List.take_length] at hlat
  rcases hlat with ⟨rfl, hbn⟩ | ⟨k, hkl, rfl, _, hbk⟩
  · have HBn := Lib.hid hbn
    clear hbn
    go_wp2_with fail
    go_ret2
    exact ⟨by rw [HBn.out]; rfl, HB.out⟩
  · have HBk := Lib.hid hbk
    have hk0 : ¬ (k : Int) < 0 := by omega
    have hklc : (k : Int) < (l.length : Int) := by omega
    obtain ⟨fb', fo', rfl, _, _, _, q3, _, _, _⟩ := fact_at HFr.out.2 hkl
    obtain ⟨z, hz⟩ : ∃ z, z = l[k].value := ⟨_, rfl⟩
    rw [← hz] at q3
    have HZ := Lib.hid hz
    clear hz hbk
    go_wp2_with fail
    go_ret2
    exact ⟨by rw [HBk.out, HZ.out]; rfl, HB.out⟩
/-- a slice of these integers -/
structure SL (w : World) (A : Option Addr) (c : Nat) (zs : List Int) : Prop where
  rd : Rd w A (ints zs)
  le : zs.length ≤ c
  max : c ≤ maxLen
  nil : A = none → c = 0
  spot : ∀ a, A = some a → ∃ b o, some a = some (⟨b, o, none⟩ : Addr)
theorem SL.ext {w w' : World} {A : Option Addr} {c : Nat} {zs : List Int} (h : SL w A c zs) (hb : Below w.heap.size w w') : SL w' A c zs := ⟨h.rd.ext hb, h.le, h.max, h.nil, h.spot⟩
theorem SL.empty (w : World) : SL w none 0 [] := ⟨Rd.nil, Nat.le_refl _, by simp [maxLen], fun _ => rfl, fun a h => by cases h⟩
theorem SL.of_own {w : World} {base n c : Nat} {e : TypeId} {A : Option Addr} {xs : List Value} {zs : List Int} (h : w.ownsRow base e 1 (.slice A n c) n xs) (hx : xs = ints zs) (hn : n = zs.length) : SL w A c zs := by
  subst hx hn
  refine ⟨Rd.of_own h, ?_, ?_, ?_, ?_⟩
  all_goals
    rcases h.2 with ⟨h1, h2⟩ | ⟨g, cap, cur, h1, _, _, h2, h3, _⟩
    · injection h1 with a b c
      subst a c
      first | exact h2 ▸ Nat.zero_le _ | (simp [maxLen]; done) | exact fun _ => rfl | exact fun a h => (by cases h) | omega
    · injection h1 with a b c
      subst a c
      first | exact h2 | exact h3 | exact fun a h => ⟨g, 0, h.symm⟩ | exact fun h => (by cases h)
def IntsPost (zs : List Int) (w : World) (e : Ending) (w' : World) : Prop := ∃ A c, e = .returned (.slice A zs.length c) ∧ SL w' A c zs ∧ Below w.heap.size w w'
theorem oth_snoc (p : Int → Bool) (k : Nat) : (((List.range (k + 1)).map Int.ofNat).filter p) = (((List.range k).map Int.ofNat).filter p) ++ (if p (k : Int) then [(k : Int)] else []) := by
  rw [List.range_succ, List.map_append, List.filter_append]
  congr 1
  show List.filter p [(k : Int)] = _
  cases h : p (k : Int) <;> simp [h]
theorem oth_len (p : Int → Bool) (k : Nat) : (((List.range k).map Int.ofNat).filter p).length ≤ k := by
  refine Nat.le_trans (List.length_filter_le _ _) ?_
  simp
theorem ints_snoc (zs : List Int) (z : Int) : ints (zs ++ [z]) = ints zs ++ [.int .i64 z] := by simp [ints]
set_option maxRecDepth 20000 in
set_option maxHeartbeats 4000000 in
theorem rothers_any (l : List Fa) (hl : l.length ≤ 500) (b : Nat) (A : Option Addr) (c : Nat) (wh : Int) (nm : List UInt8) (on kn : Int) (w : World) (hF : FR 100 w b A c l) :
    Calls Tryz.prog 51 #[.pointer (some ⟨b, 0, none⟩), .int .i64 wh, .string ⟨nm.toArray⟩, .int .i64 on, .int .i64 kn] w (IntsPost (othersF wh nm on kn l) w) := by
  have HF := Lib.hid hF
  obtain ⟨i0, hi, hz0, hz1, hz2⟩ := info_parts int_info
  have HI := Lib.hid hi
  have HZ0 := Lib.hid hz0
  have HZ1 := Lib.hid hz1
  have HZ2 := Lib.hid hz2
  obtain ⟨p, hp⟩ : ∃ p : Int → Bool, p = fun o => standsB (bestF wh nm on kn o l) := ⟨_, rfl⟩
  have HP := Lib.hid (show othersF wh nm on kn l = ((List.range 40).map Int.ofNat).filter p by rw [hp]; rfl)
  have HPo := Lib.hid (fun o : Int => show p o = standsB (bestF wh nm on kn o l) by rw [hp])
  clear hF hp hi hz0 hz1 hz2
  go_enter Tryz.func51, Tryz.ntmps51
  go_wp2_with fail
  go_loopw [11, 12] (fun t11 t12 wr => ∃ k : Nat, t12 = .int .i64 k ∧ k ≤ 40 ∧ Hid (Below w.heap.size w wr) ∧ Hid (wr.ownsRow w.heap.size 3 1 t11 (((List.range k).map Int.ofNat).filter p).length (ints (((List.range k).map Int.ofNat).filter p)))) (fun _ t12 _ => 40 - (intOf t12).toNat)
  case atStart => exact ⟨0, rfl, by omega, Below.refl _ _, World.ownsRow_nil _ _ _ _⟩
  case round =>
    obtain ⟨k, rfl, hk, HB, HO⟩ := hrel
    have hlen := oth_len p k
    have HSN := Lib.hid (oth_snoc p k)
    obtain ⟨zs, hzs⟩ : ∃ zs, zs = ((List.range k).map Int.ofNat).filter p := ⟨_, rfl⟩
    rw [← hzs] at HO hlen HSN
    have HZS := Lib.hid hzs
    clear hzs
    by_cases hk40 : k < 40
    · have hkc : (k : Int) < 40 := by omega
      go_wp2_with fail
      refine (latest_any l hl b A c wh nm (k : Int) on kn _ (HF.out.ext HB.out)).mono ?_
      rintro e w1 ⟨v, rfl, hlat, hb⟩
      have HB1 := Lib.hid (HB.out.trans (hb.mono HB.out.size))
      have HO1 := Lib.hid (own_ext HO.out hb)
      have HFr := Lib.hid (HF.out.ext HB1.out)
      have c0 := HFr.out.1.cell 0 rfl
      clear hb
      unfold LatAt at hlat
      rw [List.take_length] at hlat
      rcases hlat with ⟨rfl, hbn⟩ | ⟨j, hjl, rfl, _, hbk⟩
      · have HN := Lib.hid (show p (k : Int) = false by rw [HPo.out, hbn]; rfl)
        clear hbn
        go_wp2_with fail
        go_roundw
        case rel => exact ⟨k + 1, by go_num, by omega, HB1.out, by show World.ownsRow _ _ _ _ _ _ _; rw [HSN.out, HN.out, if_neg (by simp), List.append_nil]; exact HO1.out⟩
        case measure => simp [intOf]; omega
      · have hj0 : (0 : Int) ≤ (j : Int) := by omega
        have hjlc : (j : Int) < (l.length : Int) := by omega
        obtain ⟨fb', fo', rfl, _, _, _, q3, _, _, _⟩ := fact_at HFr.out.2 hjl
        obtain ⟨z, hz⟩ : ∃ z, z = l[j].value := ⟨_, rfl⟩
        rw [← hz] at q3
        have HPZ := Lib.hid (show p (k : Int) = !(z == 0) by rw [HPo.out, hbk, hz]; rfl)
        clear hz hbk
        by_cases hz0 : z = 0
        · have hq : (z == 0) = true := by simp [hz0]
          have hqb : (z != 0) = false := by simp [hz0]
          have HN := Lib.hid (show p (k : Int) = false by rw [HPZ.out, hq]; rfl)
          clear hz0
          go_wp2_with fail
          go_roundw
          case rel => exact ⟨k + 1, by go_num, by omega, HB1.out, by show World.ownsRow _ _ _ _ _ _ _; rw [HSN.out, HN.out, if_neg (by simp), List.append_nil]; exact HO1.out⟩
          case measure => simp [intOf]; omega
        · have hq : (z == 0) = false := by simp [hz0]
          have hqb : (z != 0) = true := by simp [hz0]
          have HN := Lib.hid (show p (k : Int) = true by rw [HPZ.out, hq]; rfl)
          clear hz0
          go_wp2_with (at_builtin; refine wpList_append_own _ rfl _ _ _ rfl w.heap.size 3 i0 _ 1 8 Tryz.underlying35 HI.out HZ0.out HZ1.out HZ2.out rfl (by omega) u11 zs.length _ rfl (World.ownsRow.alloc HO1.out _) ⟨w1.heap.size, 0, none⟩ 1 1 [.int .i64 (k : Int)] rfl rfl (new_cells w1 [.int .i64 (k : Int)] _ _ rfl) (by intro u hu; simp only [List.mem_cons, List.not_mem_nil, or_false] at hu; subst hu; rfl) (by simp only [maxLen]; omega) (by omega) (Nat.le_trans HB1.out.size (by simp)) ?_; intro v1 w2 hown1 hg1 _; have HO2 := Lib.hid hown1; have HB2 := Lib.hid (grown_ext (HB1.out.trans ((ext_alloc w1 _).mono HB1.out.size)) rfl (World.ownsRow.alloc HO1.out _) hg1); clear hown1 hg1)
          go_roundw
          case rel =>
            refine ⟨k + 1, by go_num, by omega, HB2.out, ?_⟩
            show World.ownsRow _ _ _ _ _ _ _
            rw [HSN.out, HN.out, if_pos rfl, ints_snoc, List.length_append]
            exact HO2.out
          case measure => simp [intOf]; omega
    · obtain rfl : k = 40 := by omega
      obtain ⟨A1, c1, rfl, _⟩ := own_slice HO.out
      have HE := Lib.hid (show othersF wh nm on kn l = zs by rw [HP.out, HZS.out])
      go_wp2_with fail
      go_ret
      exact ⟨A1, c1, by rw [HE.out]; rfl, by rw [HE.out]; exact SL.of_own HO.out rfl rfl, HB.out⟩
end Go.Proofs.YtnchlnfenebomaaGreatDoor.Fk

/- Facts: the document's days: turns, what was learnt when. -/
import Derived.Test.YtcpcejmlnhflpaaDoorFkI
namespace Go.Proofs.YtcpcejmlnhflpaaDoor.Fk
open Go.RowKit Mem Nest Err App

theorem ins_len (n : Int) : ∀ l : List Int, (ins l n).length ≤ l.length + 1
  | [] => by simp [ins]
  | x :: l => by
    have := ins_len n l
    unfold ins
    split
    · simp; omega
    · split <;> simp
theorem fold_len : ∀ (raw acc : List Int), (raw.foldl ins acc).length ≤ acc.length + raw.length
  | [], acc => by simp
  | n :: raw, acc => by
    have h1 := fold_len raw (ins acc n)
    have h2 := ins_len n acc
    rw [List.foldl_cons, List.length_cons]
    omega
theorem days_len (raw : List Int) : (daysF raw).length ≤ raw.length := by
  have := fold_len raw []
  simpa [daysF] using this
theorem days_snoc (raw : List Int) (n : Int) : daysF (raw ++ [n]) = ins (daysF raw) n := by
  unfold daysF
  rw [List.foldl_append]
  rfl
theorem turnsOf_len (who kn : Int) (x : Fa) : (turnsOf who kn x).length ≤ 2 := by
  unfold turnsOf
  split
  · simp
  · split <;> simp
theorem turnsR_len (who kn : Int) : ∀ l : List Fa, (turnsR who kn l).length ≤ 2 * l.length
  | [] => by simp [turnsR]
  | x :: l => by
    have h1 := turnsOf_len who kn x
    have h2 := turnsR_len who kn l
    show ((turnsOf who kn x) ++ turnsR who kn l).length ≤ _
    rw [List.length_append, List.length_cons]
    omega
theorem turnsR_snoc {who kn : Int} {l : List Fa} {i : Nat} (h : i < l.length) : turnsR who kn (l.take (i + 1)) = turnsR who kn (l.take i) ++ turnsOf who kn l[i] := by
  unfold turnsR
  rw [List.take_succ_eq_append_getElem h, List.flatMap_append]
  simp
set_option maxRecDepth 20000 in
set_option maxHeartbeats 4000000 in
theorem rlearnt_any (l : List Fa) (hl : l.length ≤ 500) (b : Nat) (A : Option Addr) (c : Nat) (w : World) (hF : FR 39 w b A c l) :
    Calls Tryd.prog 18 #[.pointer (some ⟨b, 0, none⟩)] w (IntsPost (learntF l) w) := by
  have HF := Lib.hid hF
  clear hF
  go_enter Tryd.func18, Tryd.ntmps18
  go_wp2_with fail
  go_loopw [3, 4] (fun t3 t4 wr => ∃ (i : Nat) (zs : List Int) (A : Option Addr) (c : Nat), t4 = .int .i64 i ∧ i ≤ l.length ∧ t3 = .slice A zs.length c ∧ zs.length ≤ i ∧ Hid (zs = daysF ((l.take i).map (·.learnt))) ∧ Hid (SL wr A c zs) ∧ Hid (Below w.heap.size w wr)) (fun _ t4 _ => l.length - (intOf t4).toNat)
  case atStart => exact ⟨0, [], none, 0, rfl, Nat.zero_le _, rfl, Nat.le_refl _, rfl, SL.empty _, Below.refl _ _⟩
  case round =>
    obtain ⟨i, zs, SA, sc, rfl, hi, rfl, hzi, HZ, HS, HB⟩ := hrel
    have HFr := Lib.hid (HF.out.ext HB.out)
    have c0 := HFr.out.1.cell 0 rfl
    by_cases hlt : i < l.length
    · have hltc : (i : Int) < (l.length : Int) := by omega
      have HRd := HFr.out.2
      obtain ⟨fb, fo, rfl, _, _, _, _, _, _, r6⟩ := fact_at HRd hlt
      obtain ⟨z, hz⟩ : ∃ z, z = l[i].learnt := ⟨_, rfl⟩
      rw [← hz] at r6
      have HSN := Lib.hid (show ins zs z = daysF ((l.take (i + 1)).map (·.learnt)) by
        rw [List.take_succ_eq_append_getElem hlt, List.map_append, HZ.out]
        show _ = daysF (_ ++ [l[i].learnt])
        rw [days_snoc, hz])
      have hil := ins_len z zs
      clear hz HRd
      go_wp2_with fail
      refine (insert_any zs (by omega) SA sc z _ HS.out).mono ?_
      obtain ⟨ys, hys⟩ : ∃ ys, ys = ins zs z := ⟨_, rfl⟩
      rw [← hys] at HSN hil ⊢
      clear hys
      rintro e w1 ⟨A2, c2, rfl, hs, hb⟩
      have HS2 := Lib.hid hs
      have HB2 := Lib.hid (HB.out.trans (hb.mono HB.out.size))
      clear hs hb
      go_wp2_with fail
      go_roundw
      case rel => exact ⟨i + 1, ys, A2, c2, by go_num, by omega, rfl, by omega, HSN.out, HS2.out, HB2.out⟩
      case measure => simp [intOf]; omega
    · obtain rfl : l.length = i := by omega
      have hlc : ¬ (l.length : Int) < (l.length : Int) := by omega
      have HE := Lib.hid (show learntF l = zs by rw [HZ.out, List.take_length]; rfl)
      go_wp2_with fail
      go_ret
      exact ⟨SA, sc, by rw [HE.out]; rfl, by rw [HE.out]; exact HS.out, HB.out⟩
end Go.Proofs.YtcpcejmlnhflpaaDoor.Fk

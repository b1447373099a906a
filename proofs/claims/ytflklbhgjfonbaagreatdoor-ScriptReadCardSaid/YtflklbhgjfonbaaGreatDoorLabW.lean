/- The program's labels: script.label. -/
import Derived.Test.YtflklbhgjfonbaaGreatDoorLabP
import Derived.Test.YtflklbhgjfonbaaGreatDoorMem
import Derived.Laws.IdiomStrings
import Derived.Laws.Strings2
import Derived.Deep.Quiet
import Derived.Deep.QuietTactic
import Derived.BigQuiet
import Derived.IntWalk
namespace Go.Proofs.YtflklbhgjfonbaaGreatDoor.Lab
open Go.RowKit Mem

def str (l : List UInt8) : Value := .string ⟨l.toArray⟩
def InPost (lo hi n : Int) (w : World) (e : Ending) (w' : World) : Prop := ∃ g : Bool, e = .returned (.bool g) ∧ w = w' ∧ (g = true ↔ (lo ≤ n ∧ n ≤ hi))
theorem in_any (n : Int) (w : World) : Calls Tryz.prog 104 #[.int .u8 n] w (InPost 48 57 n w) := by
  by_cases h1 : 48 ≤ n
  · by_cases h2 : n ≤ 57
    · go_enter Tryz.func104, Tryz.ntmps104
      go_wp2_with fail
      go_ret
      exact ⟨_, rfl, rfl, by simp [h1, h2]⟩
    · go_enter Tryz.func104, Tryz.ntmps104
      go_wp2_with fail
      go_ret
      exact ⟨_, rfl, rfl, by simp; omega⟩
  · go_enter Tryz.func104, Tryz.ntmps104
    go_wp2_with fail
    go_ret
    exact ⟨_, rfl, rfl, by simp; omega⟩
theorem sm_any (n : Int) (w : World) : Calls Tryz.prog 106 #[.int .u8 n] w (InPost 97 122 n w) := by
  by_cases h1 : 97 ≤ n
  · by_cases h2 : n ≤ 122
    · go_enter Tryz.func106, Tryz.ntmps106
      go_wp2_with fail
      go_ret
      exact ⟨_, rfl, rfl, by simp [h1, h2]⟩
    · go_enter Tryz.func106, Tryz.ntmps106
      go_wp2_with fail
      go_ret
      exact ⟨_, rfl, rfl, by simp; omega⟩
  · go_enter Tryz.func106, Tryz.ntmps106
    go_wp2_with fail
    go_ret
    exact ⟨_, rfl, rfl, by simp; omega⟩
theorem bg_any (n : Int) (w : World) : Calls Tryz.prog 107 #[.int .u8 n] w (InPost 65 90 n w) := by
  by_cases h1 : 65 ≤ n
  · by_cases h2 : n ≤ 90
    · go_enter Tryz.func107, Tryz.ntmps107
      go_wp2_with fail
      go_ret
      exact ⟨_, rfl, rfl, by simp [h1, h2]⟩
    · go_enter Tryz.func107, Tryz.ntmps107
      go_wp2_with fail
      go_ret
      exact ⟨_, rfl, rfl, by simp; omega⟩
  · go_enter Tryz.func107, Tryz.ntmps107
    go_wp2_with fail
    go_ret
    exact ⟨_, rfl, rfl, by simp; omega⟩
theorem ba_at (l : List UInt8) (k : Nat) (h : k < (ByteArray.mk l.toArray).size) (h' : k < l.length) : (ByteArray.mk l.toArray)[k]'h = l[k] := rfl
theorem ba_size (l : List UInt8) : (ByteArray.mk l.toArray).size = l.length := rfl
/-- all are digits: what the prefix comes to is small -/
theorem val_small : ∀ (l : List UInt8), (∀ c ∈ l, dig c) → l.length ≤ 4 → 0 ≤ val l ∧ val l ≤ 9999
  | [], _, _ => by simp [val]
  | [a], h, _ => by simp [val, dig] at *; omega
  | [a, b], h, _ => by simp [val, dig] at *; omega
  | [a, b, c], h, _ => by simp [val, dig] at *; omega
  | [a, b, c, d], h, _ => by simp [val, dig] at *; omega
  | _ :: _ :: _ :: _ :: _ :: _, _, h => by simp at h
theorem u8_sub (c : Int) (h1 : 48 ≤ c) (h2 : c ≤ 57) : IntKind.u8.wrap (c - 48) = c - 48 := IntWalk.u8_in _ (by omega)
theorem val_take (p : List UInt8) (k : Nat) (h : k < p.length) : val (p.take (k + 1)) = val (p.take k) * 10 + ((p[k].toNat : Int) - 48) := by
  rw [List.take_succ_eq_append_getElem h, val_snoc]
set_option maxRecDepth 100000 in
set_option maxHeartbeats 1000000 in
theorem iatoi_any (p : List UInt8) (h1 : 1 ≤ p.length) (h4 : p.length ≤ 4) (hd : ∀ c ∈ p, dig c) (w : World) :
    Calls Tryz.prog 120 #[.string ⟨p.toArray⟩] w fun e w' => e = .returned (.tuple #[.int .i64 (val p), .nilIface]) ∧ Below w.heap.size w w' := by
  have HD := Lib.hid hd
  have hz := hd (p[0]'(by omega)) (List.getElem_mem _)
  unfold dig at hz
  have hsz : 0 < (ByteArray.mk p.toArray).size := by rw [ba_size]; omega
  obtain ⟨z1, z2⟩ : 48 ≤ ((ByteArray.mk p.toArray)[0]'hsz).toNat ∧ ((ByteArray.mk p.toArray)[0]'hsz).toNat ≤ 57 := hz
  have hm45 : ¬ (((ByteArray.mk p.toArray)[0]'hsz).toNat : Int) = 45 := by omega
  have hm43 : ¬ (((ByteArray.mk p.toArray)[0]'hsz).toNat : Int) = 43 := by omega
  have hq45 : ((((ByteArray.mk p.toArray)[0]'hsz).toNat : Int) == 45) = false := by rw [beq_eq_false_iff_ne]; exact hm45
  have hq43 : ((((ByteArray.mk p.toArray)[0]'hsz).toNat : Int) == 43) = false := by rw [beq_eq_false_iff_ne]; exact hm43
  have hl0 : (0 : Int) < (p.length : Int) := by omega
  have hl1 : (p.length : Int) < 10 := by omega
  have hl19 : (p.length : Int) < 19 := by omega
  have hl2 : ¬ (p.length : Int) < 1 := by omega
  obtain ⟨cap, hcap⟩ : ∃ cap, cap = grownCap w p.length 0 5 := ⟨_, rfl⟩
  obtain ⟨W1, hW1⟩ : ∃ W1, W1 = w.drew.alloc (.cells (bytesRow ⟨p.toArray⟩ cap) 5 ((bytesRow ⟨p.toArray⟩ cap).size, (bytesRow ⟨p.toArray⟩ cap).size + 1)) := ⟨_, rfl⟩
  have hcv : (convert 9 70 (.string ⟨p.toArray⟩)).run Tryz.prog w = .ok (.slice (some ⟨w.heap.size, 0, none⟩) p.length cap) W1 := by
    rw [hW1, hcap]
    exact run_bytes_of_string w _ _ _ ⟨p.toArray⟩ Tryz.underlying9 Tryz.underlying70 Tryz.underlying5
  have HB := Lib.hid (show Below w.heap.size w W1 by rw [hW1]; exact ext_trans (ext_drewN w 1) (ext_alloc _ _))
  have HC := Lib.hid (show ∀ j (h : j < p.length), W1.cell? ⟨w.heap.size, j, none⟩ = some (.int .u8 ((p[j].toNat : Nat) : Int)) from fun j h => by
    have hb : W1.heap[w.heap.size]? = some (.cells (bytesRow ⟨p.toArray⟩ cap) 5 ((bytesRow ⟨p.toArray⟩ cap).size, (bytesRow ⟨p.toArray⟩ cap).size + 1)) := by rw [hW1]; exact heap_alloc_new w.drew _
    rw [cell_of_row W1 w.heap.size j _ _ _ hb]
    exact bytesRow_at ⟨p.toArray⟩ cap j h)
  clear hd hcap hW1 z1 z2
  go_enter Tryz.func120, Tryz.ntmps120
  go_wp2_with fail
  go_loopw [6, 49] (fun s6 s49 wr => W1 = wr ∧ ∃ k : Nat, s6 = .int .i64 (val (p.take k)) ∧ s49 = .int .i64 k ∧ k ≤ p.length) (fun _ s49 _ => (p.length - intOf s49).toNat)
  case atStart => exact ⟨rfl, 0, rfl, rfl, by omega⟩
  case round =>
    obtain ⟨rfl, k, rfl, rfl, hk⟩ := hrel
    by_cases hlt : k < p.length
    · have hcl : (k : Int) < (p.length : Int) := by omega
      have hcell := HC.out k hlt
      have hdk := HD.out _ (List.getElem_mem hlt)
      unfold dig at hdk
      have HT := Lib.hid (val_take p k hlt)
      obtain ⟨v1, v2⟩ := val_small (p.take k) (fun c hc => HD.out c (List.mem_of_mem_take hc)) (by rw [List.length_take]; omega)
      obtain ⟨c, hc⟩ : ∃ c : Int, c = ((p[k].toNat : Nat) : Int) := ⟨_, rfl⟩
      rw [← hc] at hcell HT
      have c1 : 48 ≤ c := by omega
      have c2 : c ≤ 57 := by omega
      have hu := u8_sub c c1 c2
      have h9 : ¬ 9 < c - 48 := by omega
      generalize val (p.take k) = v at *
      clear hc hdk
      go_wp2_with fail
      go_roundw
      case rel => exact ⟨by first | trivial | rfl, k + 1, by rw [HT.out], by simp, by omega⟩
      case measure => simp [intOf] <;> omega
    · have hcl : ¬ (k : Int) < (p.length : Int) := by omega
      have hk2 : p.take k = p := List.take_of_length_le (by omega)
      rw [hk2]
      clear hk2
      go_wp2_with fail
      go_ret2
      exact ⟨by first | trivial | rfl, HB.out⟩
theorem atoi_any (p : List UInt8) (h1 : 1 ≤ p.length) (h4 : p.length ≤ 4) (hd : ∀ c ∈ p, dig c) (w : World) :
    Calls Tryz.prog 105 #[.string ⟨p.toArray⟩] w fun e w' => e = .returned (.tuple #[.int .i64 (val p), .nilIface]) ∧ Below w.heap.size w w' := by
  have HI := Lib.hid (iatoi_any p h1 h4 hd w)
  clear hd
  go_enter Tryz.func105, Tryz.ntmps105
  go_wp2_with fail
  refine HI.out.mono ?_
  rintro e w1 ⟨rfl, hb⟩
  have HB := Lib.hid hb
  clear hb
  go_wp2_with fail
  go_ret2
  exact ⟨rfl, HB.out⟩
end Go.Proofs.YtflklbhgjfonbaaGreatDoor.Lab

/- Laws as texts: a kid of a label, as the program and the document look for it. -/
import Derived.Test.YtflklbhgjfonbaaGreatDoorScA
import Derived.OwnWalk
namespace Go.Proofs.YtflklbhgjfonbaaGreatDoor.Sc
open Go.RowKit Mem Nest Fk Err Lk

theorem flatten_at : ∀ (rows : List (List Value)) (i j : Nat), (∀ r ∈ rows, r.length = 4) → j < 4 → rows.flatten[i * 4 + j]? = (rows[i]?).bind fun r => r[j]?
  | [], i, j, _, _ => by simp
  | r :: rows, 0, j, h, hj => by
    have hr : r.length = 4 := h r List.mem_cons_self
    simp only [Nat.zero_mul, Nat.zero_add, List.flatten_cons, List.getElem?_cons_zero, Option.bind_some]
    rw [List.getElem?_append_left (by omega)]
  | r :: rows, i + 1, j, h, hj => by
    have hr : r.length = 4 := h r List.mem_cons_self
    simp only [List.flatten_cons, List.getElem?_cons_succ]
    rw [List.getElem?_append_right (by omega), show (i + 1) * 4 + j - r.length = i * 4 + j from by omega]
    exact flatten_at rows i j (fun q hq => h q (List.mem_cons_of_mem _ hq)) hj
/-- kids in a row: each one's label stands first -/
structure KRows (w : World) (KA : Option Addr) (kids : List It) (rows : List (List Value)) : Prop where
  rd : Rd w KA rows.flatten
  len : rows.length = kids.length
  each : ∀ (i : Nat) (k : It) (r : List Value), kids[i]? = some k → rows[i]? = some r → ∃ (h : Tx) (l s : Value), r = [.string ⟨k.label.toArray⟩, .string ⟨h.toArray⟩, l, s]
theorem KRows.ext {w w' : World} {KA : Option Addr} {kids : List It} {rows : List (List Value)} (h : KRows w KA kids rows) (hb : Below w.heap.size w w') : KRows w' KA kids rows := ⟨h.rd.ext hb, h.len, h.each⟩
theorem KRows.row {w : World} {KA : Option Addr} {kids : List It} {rows : List (List Value)} (h : KRows w KA kids rows) {i : Nat} (hi : i < kids.length) :
    ∃ (b o : Nat) (t : Tx) (l s : Value), KA = some ⟨b, o, none⟩ ∧ w.cell? ⟨b, o + i * 4, none⟩ = some (.string ⟨kids[i].label.toArray⟩) ∧ w.cell? ⟨b, o + i * 4 + 1, none⟩ = some (.string ⟨t.toArray⟩) ∧ w.cell? ⟨b, o + i * 4 + 2, none⟩ = some l ∧ w.cell? ⟨b, o + i * 4 + 3, none⟩ = some s := by
  have hall : ∀ r ∈ rows, r.length = 4 := fun r hr => by
    obtain ⟨j, hj, rfl⟩ := List.mem_iff_getElem.1 hr
    obtain ⟨t, l, s, e⟩ := h.each j (kids[j]'(by rw [← h.len]; exact hj)) rows[j] (List.getElem?_eq_getElem _) (List.getElem?_eq_getElem _)
    rw [e]
    rfl
  have hir : i < rows.length := by rw [h.len]; exact hi
  obtain ⟨t, l, s, e⟩ := h.each i kids[i] rows[i] (List.getElem?_eq_getElem _) (List.getElem?_eq_getElem _)
  have hat : ∀ j u, j < 4 → rows[i][j]? = some u → ∃ b o, KA = some ⟨b, o, none⟩ ∧ w.cell? ⟨b, o + (i * 4 + j), none⟩ = some u := fun j u hj hu =>
    h.rd (i * 4 + j) u (by rw [flatten_at rows i j hall hj, List.getElem?_eq_getElem hir]; exact hu)
  rw [e] at hat
  obtain ⟨b, o, e0, c0⟩ := hat 0 _ (by omega) rfl
  obtain ⟨b1, o1, e1, c1⟩ := hat 1 _ (by omega) rfl
  obtain ⟨b2, o2, e2, c2⟩ := hat 2 _ (by omega) rfl
  obtain ⟨b3, o3, e3, c3⟩ := hat 3 _ (by omega) rfl
  rw [e0] at e1 e2 e3
  cases e1
  cases e2
  cases e3
  exact ⟨b, o, t, l, s, e0, by simpa using c0, by simpa [Nat.add_assoc] using c1, by simpa [Nat.add_assoc] using c2, by simpa [Nat.add_assoc] using c3⟩
def kidI (B : It → Bool) (kids : List It) : Int := match kids.findIdx? B with
  | some k => (k : Int)
  | none => -1
theorem kidI_some {B : It → Bool} {kids : List It} {k : Nat} (hk : k < kids.length) (h : B kids[k] = true) (hn : ∀ j (h : j < kids.length), j < k → B kids[j] = false) : kidI B kids = (k : Int) := by
  unfold kidI
  rw [List.findIdx?_eq_some_iff_getElem.2 ⟨hk, h, fun j hj => by rw [hn j (by omega) hj]; decide⟩]
theorem kidI_none {B : It → Bool} {kids : List It} (hn : ∀ j (h : j < kids.length), B kids[j] = false) : kidI B kids = -1 := by
  unfold kidI
  rw [List.findIdx?_eq_none_iff.2 fun x hx => by
    obtain ⟨j, hj, rfl⟩ := List.mem_iff_getElem.1 hx
    exact hn j hj]
theorem kidI_pos (B : It → Bool) (kids : List It) : 0 ≤ kidI B kids ↔ kids.any B = true := by
  unfold kidI
  cases h : kids.findIdx? B with
  | none =>
    rw [List.findIdx?_eq_none_iff] at h
    have : kids.any B = false := by
      rw [← Bool.not_eq_true, List.any_eq_true]
      rintro ⟨x, hx, hb⟩
      rw [h x hx] at hb
      cases hb
    simp [this]
  | some k =>
    obtain ⟨hk, hb, _⟩ := List.findIdx?_eq_some_iff_getElem.1 h
    have : kids.any B = true := List.any_eq_true.2 ⟨_, List.getElem_mem hk, hb⟩
    simp [this]
def RetN (n : Int) (w : World) (e : Ending) (w' : World) : Prop := e = .returned (.int .i64 n) ∧ Below w.heap.size w w'
set_option maxRecDepth 100000 in
set_option maxHeartbeats 2000000 in
theorem idxk_any (g : Nat) (hg : ∀ (vs : Array Value) (w : World), (callFunc g vs).run Tryz.prog w = .ok (.enter g vs) w) (caps : Array Value) (B : It → Bool) (kids : List It) (rows : List (List Value)) (hl : kids.length ≤ 1000000) (KA : Option Addr) (kc : Nat) (w : World) (hr : KRows w KA kids rows)
    (hc : ∀ k ∈ kids, ∀ (t : Tx) (l s : Value) w1, Below w.heap.size w w1 → Calls Tryz.prog g (#[.agg #[.string ⟨k.label.toArray⟩, .string ⟨t.toArray⟩, l, s]] ++ caps) w1 fun e w' => e = .returned (.bool (B k)) ∧ Below w1.heap.size w1 w') :
    Calls Tryz.prog 81 #[.slice KA kids.length kc, .func (.func g) #[] caps] w (RetN (kidI B kids) w) := by
  have HR := Lib.hid hr
  have HC := Lib.hid hc
  clear hr hc
  go_enter Tryz.func81, Tryz.ntmps81
  go_wp2_with fail
  go_loopw [8] (fun i wr => ∃ k : Nat, i = .int .i64 k ∧ k ≤ kids.length ∧ Hid (∀ j (h : j < kids.length), j < k → B kids[j] = false) ∧ Hid (Below w.heap.size w wr)) (fun i _ => kids.length - (intOf i).toNat)
  case atStart => exact ⟨0, rfl, Nat.zero_le _, (fun j h hj => absurd hj (Nat.not_lt_zero _)), Below.refl _ _⟩
  case round =>
    obtain ⟨k, rfl, hk, HN, HB⟩ := hrel
    by_cases hlt : k < kids.length
    · have hcl : (k : Int) < (kids.length : Int) := by omega
      obtain ⟨b, o, t, l, s, rfl, y0, y1, y2, y3⟩ := (HR.out.ext HB.out).row hlt
      have HK := Lib.hid (HC.out _ (List.getElem_mem hlt) t l s wr HB.out)
      have HS := Lib.hid (fun h : B kids[k] = true => kidI_some hlt h HN.out)
      have HF := Lib.hid (fun (h : B kids[k] = false) j (hj : j < kids.length) (hjk : j < k + 1) => (show B kids[j] = false from by
        by_cases e : j = k
        · subst e; exact h
        · exact HN.out j hj (by omega)))
      generalize kids[k] = z at y0 HK HS HF
      go_wp2_with fail
      refine HK.out.mono ?_
      rintro e w' ⟨rfl, hb⟩
      have HB2 := Lib.hid (ext_trans HB.out hb)
      clear hb y0 y1 y2 y3 HK
      cases hB : B z with
      | true =>
        have HE := Lib.hid (HS.out hB)
        clear hB
        go_wp2_with fail
        go_ret
        exact ⟨by rw [HE.out]; rfl, HB2.out⟩
      | false =>
        have HE := Lib.hid (HF.out hB)
        clear hB
        go_wp2_with fail
        go_roundw
        case rel => exact ⟨k + 1, by go_num, by omega, HE.out, HB2.out⟩
        case measure => show kids.length - (k + 1) < kids.length - k; omega
    · have hcl : ¬ (k : Int) < (kids.length : Int) := by omega
      have HE := Lib.hid (show kidI B kids = -1 from kidI_none fun j h => HN.out j h (by omega))
      go_wp2_with fail
      go_ret
      exact ⟨by rw [HE.out]; rfl, HB.out⟩
def lbB (x : Tx) (k : It) : Bool := k.label == x
theorem kid1 (lb : Tx) (t : Tx) (l s : Value) (x : Tx) (c : Nat) (w : World) (h : w.cell? ⟨c, 0, none⟩ = some (.string ⟨x.toArray⟩)) :
    Calls Tryz.prog 82 #[.agg #[.string ⟨lb.toArray⟩, .string ⟨t.toArray⟩, l, s], .pointer (some ⟨c, 0, none⟩)] w (RetG (lb == x) w) := by
  have xa := ext_alloc w (.cells #[.string ⟨lb.toArray⟩, .string ⟨t.toArray⟩, l, s] 26)
  have ba := Blk.new w 26 [.string ⟨lb.toArray⟩, .string ⟨t.toArray⟩, l, s]
  have m0 := ba.cell 0 rfl
  have h1 := cell_ext xa h
  have HX := Lib.hid xa
  clear h xa ba
  cases hb : (lb == x) with
  | true =>
    obtain rfl : lb = x := by simpa using hb
    clear hb
    go_enter Tryz.func82, Tryz.ntmps82
    go_wp2_with fail
    go_ret
    exact ⟨by simp, HX.out⟩
  | false =>
    go_enter Tryz.func82, Tryz.ntmps82
    go_wp2_with fail
    go_ret
    exact ⟨by simp, HX.out⟩
set_option maxRecDepth 100000 in
theorem pkid (lb hd : Tx) (LV : Value) (kids : List It) (rows : List (List Value)) (hl : kids.length ≤ 1000000) (KA : Option Addr) (kc : Nat) (x : Tx) (w : World) (hr : KRows w KA kids rows) :
    Calls Tryz.prog 53 #[.agg #[.string ⟨lb.toArray⟩, .string ⟨hd.toArray⟩, LV, .slice KA kids.length kc], .string ⟨x.toArray⟩] w (RetN (kidI (lbB x) kids) w) := by
  have xa := ext_alloc w (.cells #[.string ⟨lb.toArray⟩, .string ⟨hd.toArray⟩, LV, .slice KA kids.length kc] 26)
  have ba := Blk.new w 26 [.string ⟨lb.toArray⟩, .string ⟨hd.toArray⟩, LV, .slice KA kids.length kc]
  obtain ⟨V, hV⟩ : ∃ V, V = w.alloc (.cells #[.string ⟨lb.toArray⟩, .string ⟨hd.toArray⟩, LV, .slice KA kids.length kc] 26) := ⟨_, rfl⟩
  rw [← hV] at xa ba
  have xb := ext_alloc V (.cells #[.string ⟨x.toArray⟩] 9)
  have bb := Blk.new V 9 [.string ⟨x.toArray⟩]
  obtain ⟨U, hU⟩ : ∃ U, U = V.alloc (.cells #[.string ⟨x.toArray⟩] 9) := ⟨_, rfl⟩
  rw [← hU] at xb bb
  have m3 := (blk_ext2 ba xb).cell 3 rfl
  have b0 := bb.cell 0 rfl
  obtain ⟨P, hP⟩ : ∃ P, P = w.heap.size := ⟨_, rfl⟩
  obtain ⟨Q, hQ⟩ : ∃ Q, Q = w.heap.size + 1 := ⟨_, rfl⟩
  have hq : V.heap.size = w.heap.size + 1 := by rw [hV]; simp
  rw [← hP] at m3
  rw [hq, ← hQ] at b0
  have HX := Lib.hid (ext_trans xa xb)
  have HI := Lib.hid (idxk_any 82 (fun _ _ => by kernel_rfl) #[.pointer (some ⟨Q, 0, none⟩)] (lbB x) kids rows hl KA kc U (hr.ext (ext_trans xa xb)) (fun k _ t l s w1 hb => kid1 k.label t l s x Q w1 (cell_ext hb b0)))
  clear xa ba xb bb hr b0 hq
  go_enter Tryz.func53, Tryz.ntmps53
  go_upto_region 1 with fail
  rw [← hV, ← hU, ← hQ, ← hP]
  clear hV hU hP hQ
  go_wp2_with fail
  refine HI.out.mono ?_
  rintro e w' ⟨rfl, hb⟩
  have HB := Lib.hid (ext_trans HX.out hb)
  clear hb
  go_wp2_with fail
  go_ret
  exact ⟨rfl, HB.out⟩
set_option maxRecDepth 100000 in
set_option maxHeartbeats 2000000 in
theorem rkid (lb hd : Tx) (LV : Value) (kids : List It) (rows : List (List Value)) (hl : kids.length ≤ 1000000) (KA : Option Addr) (kc : Nat) (x : Tx) (w : World) (hr : KRows w KA kids rows) :
    Calls Tryz.prog 58 #[.agg #[.string ⟨lb.toArray⟩, .string ⟨hd.toArray⟩, LV, .slice KA kids.length kc], .string ⟨x.toArray⟩] w (RetN (kidI (lbB x) kids) w) := by
  have xa := ext_alloc w (.cells #[.string ⟨lb.toArray⟩, .string ⟨hd.toArray⟩, LV, .slice KA kids.length kc] 26)
  have ba := Blk.new w 26 [.string ⟨lb.toArray⟩, .string ⟨hd.toArray⟩, LV, .slice KA kids.length kc]
  obtain ⟨V, hV⟩ : ∃ V, V = w.alloc (.cells #[.string ⟨lb.toArray⟩, .string ⟨hd.toArray⟩, LV, .slice KA kids.length kc] 26) := ⟨_, rfl⟩
  obtain ⟨P, hP⟩ : ∃ P, P = w.heap.size := ⟨_, rfl⟩
  rw [← hV] at xa ba
  rw [← hP] at ba
  have m3 := ba.cell 3 rfl
  have HX := Lib.hid xa
  have HR := Lib.hid (hr.ext xa)
  clear xa ba hr
  go_enter Tryz.func58, Tryz.ntmps58
  go_upto_region 1 with fail
  rw [← hV, ← hP]
  clear hV hP
  go_wp2_with fail
  go_loopw [5] (fun i wr => ∃ k : Nat, i = .int .i64 k ∧ k ≤ kids.length ∧ Hid (∀ j (h : j < kids.length), j < k → lbB x kids[j] = false) ∧ wr = V) (fun i _ => kids.length - (intOf i).toNat)
  case atStart => exact ⟨0, rfl, Nat.zero_le _, (fun j h hj => absurd hj (Nat.not_lt_zero _)), rfl⟩
  case round =>
    obtain ⟨k, rfl, hk, HN, rfl⟩ := hrel
    by_cases hlt : k < kids.length
    · have hcl : (k : Int) < (kids.length : Int) := by omega
      obtain ⟨b, o, t, l, s, eA, y0, y1, y2, y3⟩ := HR.out.row hlt
      have HS := Lib.hid (fun h : lbB x kids[k] = true => kidI_some hlt h HN.out)
      have HF := Lib.hid (fun (h : lbB x kids[k] = false) j (hj : j < kids.length) (hjk : j < k + 1) => (show lbB x kids[j] = false from by
        by_cases e : j = k
        · subst e; exact h
        · exact HN.out j hj (by omega)))
      unfold lbB at HS HF
      subst eA
      generalize kids[k] = z at y0 HS HF
      obtain ⟨zl, hzl⟩ : ∃ zl, zl = z.label := ⟨_, rfl⟩
      rw [← hzl] at y0 HS HF
      clear hzl y1 y2 y3
      cases hB : (zl == x) with
      | true =>
        have he : zl = x := by simpa using hB
        have HE := Lib.hid (HS.out hB)
        go_wp2_with fail
        go_ret
        exact ⟨by unfold lbB; rw [HE.out]; rfl, HX.out⟩
      | false =>
        have HE := Lib.hid (HF.out hB)
        go_wp2_with fail
        go_roundw
        case rel => exact ⟨k + 1, by go_num, by omega, HE.out, by trivial⟩
        case measure => show kids.length - (k + 1) < kids.length - k; omega
    · have hcl : ¬ (k : Int) < (kids.length : Int) := by omega
      have HE := Lib.hid (show kidI (lbB x) kids = -1 from kidI_none fun j h => HN.out j h (by omega))
      go_wp2_with fail
      go_ret
      exact ⟨by rw [HE.out]; rfl, HX.out⟩
end Go.Proofs.YtflklbhgjfonbaaGreatDoor.Sc

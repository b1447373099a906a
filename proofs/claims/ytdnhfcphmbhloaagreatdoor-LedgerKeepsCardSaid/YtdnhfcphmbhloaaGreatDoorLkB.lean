/- LedgerKeeps: entries in memory; the balance of an account, as the program and the document reckon it. -/
import Derived.Test.YtdnhfcphmbhloaaGreatDoorLkA
namespace Go.Proofs.YtdnhfcphmbhloaaGreatDoor.Lk
open Go.RowKit Mem Nest Fk Msi Err

abbrev Tx := List UInt8
abbrev Ln := Tx × Int
def lnCells (l : Ln) : List Value := [.string ⟨l.1.toArray⟩, .int .i64 l.2]
theorem lnCells_len (l : Ln) : (lnCells l).length = 2 := rfl
/-- an entry, and where its lines lie -/
structure En where
  day : Int
  text : Tx
  lines : List Ln
  A : Option Addr
  c : Nat
def enCells (r : En) : List Value := [.int .i64 r.day, .string ⟨r.text.toArray⟩, .slice r.A r.lines.length r.c]
theorem enCells_len (r : En) : (enCells r).length = 3 := rfl
structure Ens (w : World) (A : Option Addr) (rs : List En) : Prop where
  rows : Rd w A (rs.flatMap enCells)
  lns : ∀ r ∈ rs, Rd w r.A (r.lines.flatMap lnCells)
theorem Ens.ext {w w' : World} {A : Option Addr} {rs : List En} (h : Ens w A rs) (hb : Below w.heap.size w w') : Ens w' A rs := ⟨h.rows.ext hb, fun r hr => (h.lns r hr).ext hb⟩
theorem en_at {w : World} {A : Option Addr} {rs : List En} (h : Rd w A (rs.flatMap enCells)) {k : Nat} (hk : k < rs.length) :
    ∃ b o, A = some ⟨b, o, none⟩ ∧ w.cell? ⟨b, o + k * 3, none⟩ = some (.int .i64 rs[k].day) ∧ w.cell? ⟨b, o + k * 3 + 1, none⟩ = some (.string ⟨rs[k].text.toArray⟩) ∧ w.cell? ⟨b, o + k * 3 + 2, none⟩ = some (.slice rs[k].A rs[k].lines.length rs[k].c) := by
  obtain ⟨b, o, e, hc⟩ := h.row enCells_len hk (by omega)
  exact ⟨b, o, e, by simpa using hc 0 _ rfl, by simpa [Nat.add_assoc] using hc 1 _ rfl, by simpa [Nat.add_assoc] using hc 2 _ rfl⟩
theorem ln_at {w : World} {A : Option Addr} {ls : List Ln} (h : Rd w A (ls.flatMap lnCells)) {k : Nat} (hk : k < ls.length) :
    ∃ b o, A = some ⟨b, o, none⟩ ∧ w.cell? ⟨b, o + k * 2, none⟩ = some (.string ⟨ls[k].1.toArray⟩) ∧ w.cell? ⟨b, o + k * 2 + 1, none⟩ = some (.int .i64 ls[k].2) := by
  obtain ⟨b, o, e, hc⟩ := h.row lnCells_len hk (by omega)
  exact ⟨b, o, e, by simpa using hc 0 _ rfl, by simpa [Nat.add_assoc] using hc 1 _ rfl⟩
/-- what a line adds -/
def lnA (a : Tx) (on day : Int) (x : Ln) : Int := if decide (day ≤ on) && (x.1 == a) then x.2 else 0
def lnS (a : Tx) (on day : Int) : List Ln → Int
  | [] => 0
  | x :: l => lnA a on day x + lnS a on day l
def balS (a : Tx) (on : Int) : List En → Int
  | [] => 0
  | r :: l => lnS a on r.day r.lines + balS a on l
theorem lns_app (a : Tx) (on day : Int) (x y : List Ln) : lnS a on day (x ++ y) = lnS a on day x + lnS a on day y := by
  induction x with
  | nil => simp [lnS]
  | cons z x ih => simp only [List.cons_append, lnS, ih]; omega
theorem lns_take (a : Tx) (on day : Int) (ls : List Ln) {k : Nat} (h : k < ls.length) : lnS a on day (ls.take (k + 1)) = lnS a on day (ls.take k) + lnA a on day ls[k] := by
  rw [List.take_succ_eq_append_getElem h, lns_app]
  simp [lnS]
theorem bal_app (a : Tx) (on : Int) (x y : List En) : balS a on (x ++ y) = balS a on x + balS a on y := by
  induction x with
  | nil => simp [balS]
  | cons z x ih => simp only [List.cons_append, balS, ih]; omega
theorem bal_take (a : Tx) (on : Int) (rs : List En) {k : Nat} (h : k < rs.length) : balS a on (rs.take (k + 1)) = balS a on (rs.take k) + lnS a on rs[k].day rs[k].lines := by
  rw [List.take_succ_eq_append_getElem h, bal_app]
  simp [balS]
def Small1 (x : Int) : Prop := -1000000000000 ≤ x ∧ x ≤ 1000000000000
theorem lna_small (a : Tx) (on day : Int) {x : Ln} (h : Small1 x.2) : Small1 (lnA a on day x) := by
  unfold lnA
  split
  · exact h
  · exact ⟨by omega, by omega⟩
theorem lns_small (a : Tx) (on day : Int) (ls : List Ln) (h : ∀ x ∈ ls, Small1 x.2) : -(1000000000000 * (ls.length : Int)) ≤ lnS a on day ls ∧ lnS a on day ls ≤ 1000000000000 * (ls.length : Int) := by
  induction ls with
  | nil => simp [lnS]
  | cons x l ih =>
    have h1 := lna_small a on day (h x List.mem_cons_self)
    have h2 := ih fun y hy => h y (List.mem_cons_of_mem _ hy)
    unfold Small1 at h1
    simp only [lnS, List.length_cons]
    omega
theorem bal_small (a : Tx) (on : Int) (rs : List En) (h : ∀ r ∈ rs, r.lines.length ≤ 30 ∧ ∀ x ∈ r.lines, Small1 x.2) : -(30000000000000 * (rs.length : Int)) ≤ balS a on rs ∧ balS a on rs ≤ 30000000000000 * (rs.length : Int) := by
  induction rs with
  | nil => simp [balS]
  | cons r l ih =>
    have h0 := h r List.mem_cons_self
    have h1 := lns_small a on r.day r.lines h0.2
    have h2 := ih fun y hy => h y (List.mem_cons_of_mem _ hy)
    have h3 := h0.1
    simp only [balS, List.length_cons]
    omega
def RetN (n : Int) (w : World) (e : Ending) (w' : World) : Prop := e = .returned (.int .i64 n) ∧ Below w.heap.size w w'
set_option maxRecDepth 100000 in
set_option maxHeartbeats 4000000 in
theorem pbal (gb go : Nat) (A : Option Addr) (c : Nat) (rs : List En) (hl : rs.length ≤ 402) (hs : ∀ r ∈ rs, r.lines.length ≤ 30 ∧ ∀ x ∈ r.lines, Small1 x.2) (a : Tx) (on : Int) (w : World) (h0 : w.cell? ⟨gb, go, none⟩ = some (.slice A rs.length c)) (hE : Ens w A rs) :
    Calls Tryz.prog 16 #[.pointer (some ⟨gb, go, none⟩), .string ⟨a.toArray⟩, .int .i64 on] w (RetN (balS a on rs) w) := by
  have HE := Lib.hid hE
  have HS := Lib.hid hs
  clear hE hs
  go_enter Tryz.func16, Tryz.ntmps16
  go_wp2_with fail
  go_loopw [7, 17] (fun s7 s17 wr => ∃ (i : Nat) (s : Int), s7 = .int .i64 s ∧ s17 = .int .i64 i ∧ i ≤ rs.length ∧ Hid (s = balS a on (rs.take i)) ∧ Hid (Below w.heap.size w wr)) (fun _ s17 _ => rs.length - (intOf s17).toNat)
  case atStart => exact ⟨0, 0, rfl, rfl, Nat.zero_le _, by show _ = _; simp [balS], Below.refl _ _⟩
  case round =>
    obtain ⟨i, s, rfl, rfl, hi, HSm, HB⟩ := hrel
    have hsb : -12060000000000000 ≤ s ∧ s ≤ 12060000000000000 := by
      have := bal_small a on (rs.take i) (fun r hr => HS.out r (List.mem_of_mem_take hr))
      rw [← HSm.out, List.length_take] at this
      omega
    obtain ⟨hs1, hs2⟩ := hsb
    by_cases hlt : i < rs.length
    · have hcl : (i : Int) < (rs.length : Int) := by omega
      have hil : (i : Int) ≤ 402 := by omega
      have hmem : rs[i] ∈ rs := List.getElem_mem hlt
      have HLn := Lib.hid ((HE.out.lns _ hmem).ext HB.out)
      have HSr := Lib.hid (HS.out _ hmem)
      have HTk := Lib.hid (bal_take a on rs hlt)
      obtain ⟨b, o, e1, x0, x1, x2⟩ := en_at (HE.out.rows.ext HB.out) hlt
      subst e1
      clear hmem
      generalize rs[i] = r at x0 x1 x2 HLn HSr HTk
      have xa := ext_alloc wr (.cells #[.int .i64 r.day, .string ⟨r.text.toArray⟩, .slice r.A r.lines.length r.c] 36)
      have ba := Blk.new wr 36 [.int .i64 r.day, .string ⟨r.text.toArray⟩, .slice r.A r.lines.length r.c]
      obtain ⟨V, hV⟩ : ∃ V, V = wr.alloc (.cells #[.int .i64 r.day, .string ⟨r.text.toArray⟩, .slice r.A r.lines.length r.c] 36) := ⟨_, rfl⟩
      obtain ⟨R, hR⟩ : ∃ R, R = wr.heap.size := ⟨_, rfl⟩
      rw [← hV] at xa ba
      rw [← hR] at ba
      have HX := Lib.hid (ext_trans HB.out xa)
      have HLv := Lib.hid (HLn.out.ext xa)
      have m2 := ba.cell 2 rfl
      have HBk := Lib.hid ba
      have hrl : r.lines.length ≤ 30 := HSr.out.1
      clear xa ba
      go_upto_region 5 with fail
      rw [← hV, ← hR]
      clear hV hR x0 x1 x2
      go_wp2_with fail
      go_loopw [7, 24] (fun s7 s24 wr => ∃ (k : Nat) (t : Int), s7 = .int .i64 t ∧ s24 = .int .i64 k ∧ k ≤ r.lines.length ∧ Hid (t = s + lnS a on r.day (r.lines.take k)) ∧ Hid (Below V.heap.size V wr)) (fun _ s24 _ => r.lines.length - (intOf s24).toNat)
      case atStart => exact ⟨0, s, rfl, rfl, Nat.zero_le _, by show _ = _; simp [lnS], Below.refl _ _⟩
      case round =>
        obtain ⟨k, t, rfl, rfl, hk, HT, HB2⟩ := hrel
        have htb : -12090000000000000 ≤ t ∧ t ≤ 12090000000000000 := by
          have := lns_small a on r.day (r.lines.take k) (fun x hx => HSr.out.2 x (List.mem_of_mem_take hx))
          have ht := HT.out
          rw [List.length_take] at this
          omega
        obtain ⟨ht1, ht2⟩ := htb
        by_cases hkl : k < r.lines.length
        · have hkc : (k : Int) < (r.lines.length : Int) := by omega
          have hki : (k : Int) ≤ 30 := by omega
          have HTl := Lib.hid (lns_take a on r.day r.lines hkl)
          have HSx := Lib.hid (HSr.out.2 _ (List.getElem_mem hkl))
          obtain ⟨b2, o2, e2, y0, y1⟩ := ln_at (HLv.out.ext HB2.out) hkl
          have HRA := Lib.hid e2
          generalize r.lines[k] = x at y0 y1 HTl HSx
          obtain ⟨xn, xc⟩ := x
          simp only at y0 y1
          have hx1 : -1000000000000 ≤ xc := HSx.out.1
          have hx2 : xc ≤ 1000000000000 := HSx.out.2
          have n0 := (HBk.out.ext (HB2.out.mono HBk.out.lt)).cell 0 rfl
          have xa := ext_alloc wr (.cells #[.string ⟨xn.toArray⟩, .int .i64 xc] 49)
          have ba := Blk.new wr 49 [.string ⟨xn.toArray⟩, .int .i64 xc]
          obtain ⟨U, hU⟩ : ∃ U, U = wr.alloc (.cells #[.string ⟨xn.toArray⟩, .int .i64 xc] 49) := ⟨_, rfl⟩
          obtain ⟨Q, hQ⟩ : ∃ Q, Q = wr.heap.size := ⟨_, rfl⟩
          rw [← hU] at xa ba
          rw [← hQ] at ba
          have HX2 := Lib.hid (ext_trans HB2.out xa)
          have n0 := cell_ext xa n0
          have z0 := ba.cell 0 rfl
          have z1 := ba.cell 1 rfl
          clear xa ba
          go_upto_region 8 with fail
          rw [← hU, ← hQ]
          clear hU hQ y0 y1 e2
          by_cases g : r.day ≤ on
          · cases f1 : (xn == a) with
            | true =>
              have hxa : xn = a := by simpa using f1
              have HN := Lib.hid (show t + xc = s + lnS a on r.day (r.lines.take (k + 1)) from by
                rw [HTl.out, HT.out]
                unfold lnA
                rw [show (decide (r.day ≤ on) && (xn == a)) = true from by rw [f1]; simpa using g]
                simp
                omega)
              go_wp2_with fail
              go_roundw
              case rel => exact ⟨k + 1, t + xc, by go_num, by go_num, by omega, HN.out, HX2.out⟩
              case measure => show r.lines.length - (k + 1) < r.lines.length - k; omega
            | false =>
              have HN := Lib.hid (show t = s + lnS a on r.day (r.lines.take (k + 1)) from by
                rw [HTl.out, HT.out]
                unfold lnA
                rw [f1, Bool.and_false]
                simp)
              go_wp2_with fail
              go_roundw
              case rel => exact ⟨k + 1, t, rfl, by go_num, by omega, HN.out, HX2.out⟩
              case measure => show r.lines.length - (k + 1) < r.lines.length - k; omega
          · have g' : ¬ r.day ≤ on := g
            have HN := Lib.hid (show t = s + lnS a on r.day (r.lines.take (k + 1)) from by
              rw [HTl.out, HT.out]
              unfold lnA
              rw [show decide (r.day ≤ on) = false from by simpa using g]
              simp)
            go_wp2_with fail
            go_roundw
            case rel => exact ⟨k + 1, t, rfl, by go_num, by omega, HN.out, HX2.out⟩
            case measure => show r.lines.length - (k + 1) < r.lines.length - k; omega
        · have hkc : ¬ (k : Int) < (r.lines.length : Int) := by omega
          have HN := Lib.hid (show t = balS a on (rs.take (i + 1)) from by rw [HTk.out, ← HSm.out, HT.out, List.take_of_length_le (by omega)])
          have HBn := Lib.hid (ext_trans HX.out HB2.out)
          go_wp2_with fail
          go_roundw
          case rel => exact ⟨i + 1, t, rfl, by go_num, by omega, HN.out, HBn.out⟩
          case measure => show rs.length - (i + 1) < rs.length - i; omega
    · have hcl : ¬ (i : Int) < (rs.length : Int) := by omega
      have HN := Lib.hid (show balS a on rs = s from by rw [HSm.out, List.take_of_length_le (by omega)])
      go_wp2_with fail
      go_ret
      exact ⟨by rw [HN.out]; rfl, HB.out⟩
theorem lns_late (a : Tx) (on day : Int) (h : ¬ day ≤ on) (ls : List Ln) : lnS a on day ls = 0 := by
  induction ls with
  | nil => rfl
  | cons x l ih =>
    simp only [lnS, ih]
    unfold lnA
    rw [show decide (day ≤ on) = false from by simpa using h]
    simp
set_option maxRecDepth 100000 in
set_option maxHeartbeats 4000000 in
theorem rbalQ (gb go : Nat) (A : Option Addr) (c : Nat) (rs : List En) (hl : rs.length ≤ 402) (hs : ∀ r ∈ rs, r.lines.length ≤ 30 ∧ ∀ x ∈ r.lines, Small1 x.2) (a : Tx) (on : Int) (w : World) (h0 : w.cell? ⟨gb, go, none⟩ = some (.slice A rs.length c)) (hE : Ens w A rs) :
    Calls Tryz.prog 18 #[.pointer (some ⟨gb, go, none⟩), .string ⟨a.toArray⟩, .int .i64 on] w fun e w' => e = .returned (.int .i64 (balS a on rs)) ∧ w = w' := by
  have HE := Lib.hid hE
  have HS := Lib.hid hs
  clear hE hs
  go_enter Tryz.func18, Tryz.ntmps18
  go_wp2_with fail
  go_loopw [7, 8] (fun s7 s8 wr => ∃ (i : Nat) (s : Int), s7 = .int .i64 s ∧ s8 = .int .i64 i ∧ i ≤ rs.length ∧ Hid (s = balS a on (rs.take i)) ∧ wr = w) (fun _ s8 _ => rs.length - (intOf s8).toNat)
  case atStart => exact ⟨0, 0, rfl, rfl, Nat.zero_le _, by show _ = _; simp [balS], rfl⟩
  case round =>
    obtain ⟨i, s, rfl, rfl, hi, HSm, rfl⟩ := hrel
    have hsb : -12060000000000000 ≤ s ∧ s ≤ 12060000000000000 := by
      have := bal_small a on (rs.take i) (fun r hr => HS.out r (List.mem_of_mem_take hr))
      rw [← HSm.out, List.length_take] at this
      omega
    obtain ⟨hs1, hs2⟩ := hsb
    by_cases hlt : i < rs.length
    · have hcl : (i : Int) < (rs.length : Int) := by omega
      have hil : (i : Int) ≤ 402 := by omega
      have hmem : rs[i] ∈ rs := List.getElem_mem hlt
      have HLn := Lib.hid (HE.out.lns _ hmem)
      have HSr := Lib.hid (HS.out _ hmem)
      have HTk := Lib.hid (bal_take a on rs hlt)
      obtain ⟨b, o, e1, x0, x1, x2⟩ := en_at HE.out.rows hlt
      subst e1
      clear hmem
      generalize rs[i] = r at x0 x1 x2 HLn HSr HTk
      have hrl : r.lines.length ≤ 30 := HSr.out.1
      go_wp2_with fail
      go_loopw [7, 9] (fun s7 s9 wq => ∃ (k : Nat) (t : Int), s7 = .int .i64 t ∧ s9 = .int .i64 k ∧ k ≤ r.lines.length ∧ Hid (t = s + lnS a on r.day (r.lines.take k)) ∧ wq = wr) (fun _ s9 _ => r.lines.length - (intOf s9).toNat)
      case atStart => exact ⟨0, s, rfl, rfl, Nat.zero_le _, by show _ = _; simp [lnS], rfl⟩
      case round =>
        obtain ⟨k, t, rfl, rfl, hk, HT, rfl⟩ := hrel
        have htb : -12090000000000000 ≤ t ∧ t ≤ 12090000000000000 := by
          have := lns_small a on r.day (r.lines.take k) (fun x hx => HSr.out.2 x (List.mem_of_mem_take hx))
          have ht := HT.out
          rw [List.length_take] at this
          omega
        obtain ⟨ht1, ht2⟩ := htb
        by_cases hkl : k < r.lines.length
        · have hkc : (k : Int) < (r.lines.length : Int) := by omega
          by_cases g : r.day ≤ on
          · have hki : (k : Int) ≤ 30 := by omega
            have HTl := Lib.hid (lns_take a on r.day r.lines hkl)
            have HSx := Lib.hid (HSr.out.2 _ (List.getElem_mem hkl))
            obtain ⟨b2, o2, e2, y0, y1⟩ := ln_at HLn.out hkl
            rw [e2] at x2
            clear e2
            generalize r.lines[k] = x at y0 y1 HTl HSx
            obtain ⟨xn, xc⟩ := x
            simp only at y0 y1
            have hx1 : -1000000000000 ≤ xc := HSx.out.1
            have hx2 : xc ≤ 1000000000000 := HSx.out.2
            cases f1 : (xn == a) with
            | true =>
              have hxa : xn = a := by simpa using f1
              have HN := Lib.hid (show t + xc = s + lnS a on r.day (r.lines.take (k + 1)) from by
                rw [HTl.out, HT.out]
                unfold lnA
                rw [show (decide (r.day ≤ on) && (xn == a)) = true from by rw [f1]; simpa using g]
                simp
                omega)
              go_wp2_with fail
              go_roundw
              case rel => exact ⟨k + 1, t + xc, by go_num, by go_num, by omega, HN.out, by trivial⟩
              case measure => show r.lines.length - (k + 1) < r.lines.length - k; omega
            | false =>
              have HN := Lib.hid (show t = s + lnS a on r.day (r.lines.take (k + 1)) from by
                rw [HTl.out, HT.out]
                unfold lnA
                rw [f1, Bool.and_false]
                simp)
              go_wp2_with fail
              go_roundw
              case rel => exact ⟨k + 1, t, rfl, by go_num, by omega, HN.out, by trivial⟩
              case measure => show r.lines.length - (k + 1) < r.lines.length - k; omega
          · have g' : ¬ r.day ≤ on := g
            have HN := Lib.hid (show t = balS a on (rs.take (i + 1)) from by rw [HTk.out, ← HSm.out, HT.out, lns_late _ _ _ g, lns_late _ _ _ g])
            go_wp2_with fail
            go_roundw
            case rel => exact ⟨i + 1, t, rfl, by go_num, by omega, HN.out, by trivial⟩
            case measure => show rs.length - (i + 1) < rs.length - i; omega
        · have hkc : ¬ (k : Int) < (r.lines.length : Int) := by omega
          have HN := Lib.hid (show t = balS a on (rs.take (i + 1)) from by rw [HTk.out, ← HSm.out, HT.out, List.take_of_length_le (by omega)])
          go_wp2_with fail
          go_roundw
          case rel => exact ⟨i + 1, t, rfl, by go_num, by omega, HN.out, by trivial⟩
          case measure => show rs.length - (i + 1) < rs.length - i; omega
    · have hcl : ¬ (i : Int) < (rs.length : Int) := by omega
      have HN := Lib.hid (show balS a on rs = s from by rw [HSm.out, List.take_of_length_le (by omega)])
      go_wp2_with fail
      go_ret
      exact ⟨by rw [HN.out]; rfl, by trivial⟩
theorem rbal (gb go : Nat) (A : Option Addr) (c : Nat) (rs : List En) (hl : rs.length ≤ 402) (hs : ∀ r ∈ rs, r.lines.length ≤ 30 ∧ ∀ x ∈ r.lines, Small1 x.2) (a : Tx) (on : Int) (w : World) (h0 : w.cell? ⟨gb, go, none⟩ = some (.slice A rs.length c)) (hE : Ens w A rs) :
    Calls Tryz.prog 18 #[.pointer (some ⟨gb, go, none⟩), .string ⟨a.toArray⟩, .int .i64 on] w (RetN (balS a on rs) w) :=
  (rbalQ gb go A c rs hl hs a on w h0 hE).mono fun e w' h => ⟨h.1, by rw [← h.2]; exact Below.refl _ _⟩
end Go.Proofs.YtdnhfcphmbhloaaGreatDoor.Lk

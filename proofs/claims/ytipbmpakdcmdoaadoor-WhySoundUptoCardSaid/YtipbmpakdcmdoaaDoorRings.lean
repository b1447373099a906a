/- reason.rings: the search of a number that comes back to itself: its inner function. -/
import Derived.Test.YtipbmpakdcmdoaaDoorRing
import Derived.Test.YtipbmpakdcmdoaaDoorThm
namespace Go.Proofs.YtipbmpakdcmdoaaDoor.Rings
open Go.RowKit Mem Thy Nest Day Thm Ring

/-- what a number leads to, and where that lies -/
structure Nx where
  xs : List Nat
  A : Option Addr
  c : Nat
def nxVal (r : Nx) : Value := .slice r.A r.xs.length r.c
structure RgP where
  base : Nat
  b1 : Nat
  b2 : Nat
  b3 : Nat
  sb : Nat
  nb : Nat
  n : Nat
  nx : List Nx
  over : List (Int × Int)
structure RgP.Ok (p : RgP) : Prop where
  n : p.n ≤ 120
  ln : p.nx.length = p.n
  lx : ∀ r ∈ p.nx, r.xs.length ≤ 1200
  mem : ∀ (k : Nat) (h : k < p.nx.length) (b : Nat), b ∈ p.nx[k].xs ↔ E p.over k b
  rng : ∀ r ∈ p.nx, ∀ x ∈ r.xs, x < p.n
  sb : p.base ≤ p.sb
  d1 : p.b1 ≠ p.sb
  d2 : p.b2 ≠ p.sb
  d3 : p.b3 ≠ p.sb
  d4 : p.nb ≠ p.sb
def caps (p : RgP) : Array Value := #[.pointer (some ⟨p.b1, 0, none⟩), .pointer (some ⟨p.b2, 0, none⟩), .pointer (some ⟨p.b3, 0, none⟩)]
structure Rg (w : World) (p : RgP) (st : List Int) : Prop where
  v1 : Blk w p.b1 49 [.slice (some ⟨p.sb, 0, none⟩) p.n p.n]
  v2 : Blk w p.b2 170 [.slice (some ⟨p.nb, 0, none⟩) p.n p.n]
  v3 : Blk w p.b3 29 [.func (.func 102) #[] (caps p)]
  stb : Blk w p.sb 3 (ints st)
  ls : st.length = p.n
  nx : Blk w p.nb 49 (p.nx.map nxVal)
  rows : ∀ r ∈ p.nx, Rd w r.A (ints (r.xs.map Int.ofNat))
  low : ∀ r ∈ p.nx, LowA p.sb r.A (ints (r.xs.map Int.ofNat))
def Vals (st : List Int) : Prop := ∀ j, get st j = 0 ∨ get st j = 1 ∨ get st j = 2
theorem Rg.set {w : World} {p : RgP} {st : List Int} (h : Rg w p st) (ok : p.Ok) (k : Nat) (v : Int) : Rg (w.setCell ⟨p.sb, k, none⟩ (.int .i64 v)) p (st.set k v) := by
  refine ⟨blk_set h.v1 ok.d1 _, blk_set h.v2 ok.d2 _, blk_set h.v3 ok.d3 _, ?_, by simp [h.ls], blk_set h.nx ok.d4 _, fun r hr => rd_set (h.rows r hr) (h.low r hr) (Nat.le_refl _) _, h.low⟩
  have := h.stb.set k (.int .i64 v)
  simpa [ints, List.map_set] using this
def WalkPost (p : RgP) (st : List Int) (k : Nat) (w : World) (e : Ending) (w' : World) : Prop :=
  ∃ (b : Bool) (st' : List Int), e = .returned (.bool b) ∧ Rg w' p st' ∧ Vals st' ∧ Below p.base w w' ∧ (b = true → Cycle p.over) ∧ (b = false → Fine st st' p.over k)
theorem vals_set {st : List Int} {k : Nat} {v : Int} (h : Vals st) (hk : k < st.length) (hv : v = 0 ∨ v = 1 ∨ v = 2) : Vals (st.set k v) := fun j => by
  rw [get_set hk]
  split
  · exact hv
  · exact h j
theorem rd_nat {w : World} {A : Option Addr} {xs : List Nat} (h : Rd w A (ints (xs.map Int.ofNat))) {j : Nat} (hj : j < xs.length) : ∃ b o, A = some ⟨b, o, none⟩ ∧ w.cell? ⟨b, o + j, none⟩ = some (.int .i64 (xs[j] : Nat)) := by
  obtain ⟨b, o, e, hc⟩ := h.int (k := j) (by simpa using hj)
  exact ⟨b, o, e, by simpa using hc⟩
set_option maxRecDepth 100000 in
set_option maxHeartbeats 2000000 in
theorem walk_any (p : RgP) (ok : p.Ok) (m : Nat) : ∀ (st : List Int) (k : Nat) (w : World), zeros st ≤ m → Rg w p st → k < p.n → Vals st → Done p.over st → (∀ j, get st j = 1 → Path p.over j k) →
    Calls Tryd.prog 102 #[.int .i64 k, .pointer (some ⟨p.b1, 0, none⟩), .pointer (some ⟨p.b2, 0, none⟩), .pointer (some ⟨p.b3, 0, none⟩)] w (WalkPost p st k w) := by
  induction m with
  | zero =>
    intro st k w hz hR hk hv hd hp
    have HR := Lib.hid hR
    have HV := Lib.hid hv
    have HD := Lib.hid hd
    have HP := Lib.hid hp
    have hkl : k < st.length := by rw [hR.ls]; exact hk
    have hnn := ok.n
    have x1 := hR.v1.cell 0 rfl
    have xs : w.cell? ⟨p.sb, k, none⟩ = some (.int .i64 (get st k)) := by
      rw [get_lt hkl]
      exact hR.stb.cell k (by simp [ints, hkl])
    rcases hv k with h0 | h1 | h2
    · exfalso
      have := zeros_set (v := 1) hkl h0 (by decide)
      omega
    · rw [h1] at xs
      have H1 := Lib.hid h1
      clear hR hv hd hp h1 ok
      go_enter Tryd.func102, Tryd.ntmps102
      go_wp2_with fail
      go_ret
      exact ⟨true, st, rfl, HR.out, HV.out, Below.refl _ _, fun _ => ⟨k, HP.out k H1.out⟩, fun h => by simp at h⟩
    · rw [h2] at xs
      have H2 := Lib.hid h2
      clear hR hv hd hp h2 ok
      go_enter Tryd.func102, Tryd.ntmps102
      go_wp2_with fail
      go_ret
      exact ⟨false, st, rfl, HR.out, HV.out, Below.refl _ _, fun h => by simp at h, fun _ => ⟨rfl, HD.out, H2.out, fun _ _ => rfl, fun _ h => h⟩⟩
  | succ m ih =>
    intro st k w hz hR hk hv hd hp
    have HR := Lib.hid hR
    have HV := Lib.hid hv
    have HD := Lib.hid hd
    have HP := Lib.hid hp
    have HZ := Lib.hid hz
    have OK := Lib.hid ok
    have IH := Lib.hid ih
    have hkl : k < st.length := by rw [hR.ls]; exact hk
    have HKL := Lib.hid hkl
    have hnn := ok.n
    have x1 := hR.v1.cell 0 rfl
    have xs : w.cell? ⟨p.sb, k, none⟩ = some (.int .i64 (get st k)) := by
      rw [get_lt hkl]
      exact hR.stb.cell k (by simp [ints, hkl])
    rcases hv k with h0 | h1 | h2
    · have H0 := Lib.hid h0
      rw [h0] at xs
      have hf : w.frozen? ⟨p.sb, k, none⟩ = false := hR.stb.free k
      have HR1 := Lib.hid (hR.set ok k 1)
      have HV1 := Lib.hid (vals_set hv hkl (v := 1) (by simp))
      have hkn : k < p.nx.length := by rw [ok.ln]; exact hk
      have HKN := Lib.hid hkn
      obtain ⟨r, hr⟩ : ∃ r, r = p.nx[k] := ⟨_, rfl⟩
      have hrm : r ∈ p.nx := hr ▸ List.getElem_mem hkn
      have hrx := ok.lx r hrm
      have HRM := Lib.hid hrm
      have HMem := Lib.hid (show ∀ b, b ∈ r.xs ↔ E p.over k b from hr ▸ ok.mem k hkn)
      have HRng := Lib.hid (ok.rng r hrm)
      have y2 : (w.setCell ⟨p.sb, k, none⟩ (.int .i64 1)).cell? ⟨p.b2, 0, none⟩ = some (.slice (some ⟨p.nb, 0, none⟩) p.n p.n) := HR1.out.v2.cell 0 rfl
      have yn : (w.setCell ⟨p.sb, k, none⟩ (.int .i64 1)).cell? ⟨p.nb, k, none⟩ = some (.slice r.A r.xs.length r.c) := HR1.out.nx.cell k (by rw [hr, List.getElem?_map, List.getElem?_eq_getElem hkn]; rfl)
      have HS := Lib.hid (At.start hkl h0 hd)
      have HBs := Lib.hid (show Below p.base w (w.setCell ⟨p.sb, k, none⟩ (.int .i64 1)) from (Below.refl _ _).setCell ok.sb _)
      clear hR hv hd hp hz ok ih hkl h0 hkn hrm hr
      go_enter Tryd.func102, Tryd.ntmps102
      go_wp2_with fail
      clear x1 xs hf y2 yn
      go_loopw [26] (fun t26 wr => ∃ (j : Nat) (st1 : List Int), t26 = .int .i64 j ∧ j ≤ r.xs.length ∧ Hid (Rg wr p st1) ∧ Hid (Vals st1) ∧ Hid (At st st1 p.over k (r.xs.take j)) ∧ Hid (Below p.base w wr)) (fun t26 _ => r.xs.length - (intOf t26).toNat)
      case atStart => exact ⟨0, _, rfl, Nat.zero_le _, HR1.out, HV1.out, HS.out, HBs.out⟩
      case round =>
        clear HR1 HV1 HS HBs
        obtain ⟨j, st1, rfl, hj, HR1, HV1, HA, HB⟩ := hrel
        by_cases hlt : j < r.xs.length
        · obtain ⟨b, o, hrA, hc⟩ := rd_nat (HR1.out.rows r HRM.out) hlt
          have HRA := Lib.hid hrA
          have hx : r.xs[j] < p.n := HRng.out _ (List.getElem_mem hlt)
          have HE := Lib.hid ((HMem.out r.xs[j]).1 (List.getElem_mem hlt))
          have y3 : wr.cell? ⟨p.b3, 0, none⟩ = some (.func (.func 102) #[] #[.pointer (some ⟨p.b1, 0, none⟩), .pointer (some ⟨p.b2, 0, none⟩), .pointer (some ⟨p.b3, 0, none⟩)]) := HR1.out.v3.cell 0 rfl
          rw [HRA.out]
          clear hrA
          go_wp2_with fail
          refine (IH.out st1 r.xs[j] _ (by have := HA.out.zeros HKL.out H0.out; have := HZ.out; omega) HR1.out hx HV1.out HA.out.done (HA.out.path HP.out HE.out)).mono ?_
          rintro e w' ⟨bb, st2, rfl, k1, k2, k3, k4, k5⟩
          have HK1 := Lib.hid k1
          have HK2 := Lib.hid k2
          have HK3 := Lib.hid (HB.out.trans k3)
          have HK4 := Lib.hid k4
          have HK5 := Lib.hid k5
          clear k1 k2 k3 k4 k5 hc y3
          cases bb
          · go_wp2_with fail
            go_roundw
            case rel =>
              refine ⟨j + 1, st2, by go_num, by omega, HK1.out, HK2.out, ?_, HK3.out⟩
              rw [List.take_succ_eq_append_getElem hlt]
              exact HA.out.step (HK5.out (by simp))
            case measure => simp [intOf]; omega
          · go_wp2_with fail
            go_ret
            exact ⟨true, st2, rfl, HK1.out, HK2.out, HK3.out, fun _ => HK4.out (by simp), fun h => by simp at h⟩
        · obtain rfl : j = r.xs.length := by omega
          have z1 := HR1.out.v1.cell 0 rfl
          have z2 : wr.frozen? ⟨p.sb, k, none⟩ = false := HR1.out.stb.free k
          have hk1 : k < st1.length := by rw [HR1.out.ls]; exact hk
          have HK1 := Lib.hid hk1
          have zs : wr.cell? ⟨p.sb, k, none⟩ = some (.int .i64 (get st1 k)) := by
            rw [get_lt hk1]
            exact HR1.out.stb.cell k (by simp [ints, hk1])
          clear hk1
          go_wp2_with fail
          go_ret
          refine ⟨false, _, rfl, HR1.out.set OK.out k 2, vals_set HV1.out HK1.out (by simp), HB.out.trans ((Below.refl _ _).setCell OK.out.sb _), fun h => by simp at h, fun _ => HA.out.stop HKL.out H0.out fun b hb => ?_⟩
          rw [List.take_length]
          exact (HMem.out b).2 hb
    · rw [h1] at xs
      have H1 := Lib.hid h1
      clear hR hv hd hp h1 ok ih
      go_enter Tryd.func102, Tryd.ntmps102
      go_wp2_with fail
      go_ret
      exact ⟨true, st, rfl, HR.out, HV.out, Below.refl _ _, fun _ => ⟨k, HP.out k H1.out⟩, fun h => by simp at h⟩
    · rw [h2] at xs
      have H2 := Lib.hid h2
      clear hR hv hd hp h2 ok ih
      go_enter Tryd.func102, Tryd.ntmps102
      go_wp2_with fail
      go_ret
      exact ⟨false, st, rfl, HR.out, HV.out, Below.refl _ _, fun h => by simp at h, fun _ => ⟨rfl, HD.out, H2.out, fun _ _ => rfl, fun _ h => h⟩⟩
end Go.Proofs.YtipbmpakdcmdoaaDoor.Rings

/- reason.rings: the search of a number that comes back to itself: its inner function. reason.rings: the rows that are searched are made; all numbers are looked at. reason.rings: the walk. -/
import Derived.Test.YthokhiejlogpoaaGreatDoorThy
import Derived.Test.YthokhiejlogpoaaGreatDoorThm
import Derived.Test.YthokhiejlogpoaaGreatDoorNewSol
import Derived.Deep.RegionHeld3
import Derived.Deep.AppendLies
import Derived.Deep.DeepCutAuto
import Derived.StillTailTactics
import Derived.Laws.EntriesVeiled
namespace Go.Proofs.YthokhiejlogpoaaGreatDoor.Rings
open Go.RowKit Mem Thy Nest Day Thm Ring

/-- what a number leads to, and where that lies -/
structure Nx where
  xs : List Nat
  A : Option Addr
  c : Nat
def nxVal (r : Nx) : Value := .slice r.A r.xs.length r.c
structure RgP where
  base : Nat
  b1 : Nat
  b2 : Nat
  b3 : Nat
  sb : Nat
  nb : Nat
  n : Nat
  nx : List Nx
  over : List (Int × Int)
structure RgP.Ok (p : RgP) : Prop where
  n : p.n ≤ 120
  ln : p.nx.length = p.n
  lx : ∀ r ∈ p.nx, r.xs.length ≤ 1200
  mem : ∀ (k : Nat) (h : k < p.nx.length) (b : Nat), b ∈ p.nx[k].xs ↔ E p.over k b
  rng : ∀ r ∈ p.nx, ∀ x ∈ r.xs, x < p.n
  sb : p.base ≤ p.sb
  d1 : p.b1 ≠ p.sb
  d2 : p.b2 ≠ p.sb
  d3 : p.b3 ≠ p.sb
  d4 : p.nb ≠ p.sb
def caps (p : RgP) : Array Value := #[.pointer (some ⟨p.b1, 0, none⟩), .pointer (some ⟨p.b2, 0, none⟩), .pointer (some ⟨p.b3, 0, none⟩)]
structure Rg (w : World) (p : RgP) (st : List Int) : Prop where
  v1 : Blk w p.b1 35 [.slice (some ⟨p.sb, 0, none⟩) p.n p.n]
  v2 : Blk w p.b2 233 [.slice (some ⟨p.nb, 0, none⟩) p.n p.n]
  v3 : Blk w p.b3 74 [.func (.func 154) #[] (caps p)]
  stb : Blk w p.sb 3 (ints st)
  ls : st.length = p.n
  nx : Blk w p.nb 35 (p.nx.map nxVal)
  rows : ∀ r ∈ p.nx, Rd w r.A (ints (r.xs.map Int.ofNat))
  low : ∀ r ∈ p.nx, LowA p.sb r.A (ints (r.xs.map Int.ofNat))
def Vals (st : List Int) : Prop := ∀ j, get st j = 0 ∨ get st j = 1 ∨ get st j = 2
theorem Rg.set {w : World} {p : RgP} {st : List Int} (h : Rg w p st) (ok : p.Ok) (k : Nat) (v : Int) : Rg (w.setCell ⟨p.sb, k, none⟩ (.int .i64 v)) p (st.set k v) := by
  refine ⟨blk_set h.v1 ok.d1 _, blk_set h.v2 ok.d2 _, blk_set h.v3 ok.d3 _, ?_, by simp [h.ls], blk_set h.nx ok.d4 _, fun r hr => rd_set (h.rows r hr) (h.low r hr) (Nat.le_refl _) _, h.low⟩
  have := h.stb.set k (.int .i64 v)
  simpa [ints, List.map_set] using this
def WalkPost (p : RgP) (st : List Int) (k : Nat) (w : World) (e : Ending) (w' : World) : Prop :=
  ∃ (b : Bool) (st' : List Int), e = .returned (.bool b) ∧ Rg w' p st' ∧ Vals st' ∧ Below p.base w w' ∧ (b = true → Cycle p.over) ∧ (b = false → Fine st st' p.over k)
theorem vals_set {st : List Int} {k : Nat} {v : Int} (h : Vals st) (hk : k < st.length) (hv : v = 0 ∨ v = 1 ∨ v = 2) : Vals (st.set k v) := fun j => by
  rw [get_set hk]
  split
  · exact hv
  · exact h j
theorem rd_nat {w : World} {A : Option Addr} {xs : List Nat} (h : Rd w A (ints (xs.map Int.ofNat))) {j : Nat} (hj : j < xs.length) : ∃ b o, A = some ⟨b, o, none⟩ ∧ w.cell? ⟨b, o + j, none⟩ = some (.int .i64 (xs[j] : Nat)) := by
  obtain ⟨b, o, e, hc⟩ := h.int (k := j) (by simpa using hj)
  exact ⟨b, o, e, by simpa using hc⟩
set_option maxRecDepth 100000 in
set_option maxHeartbeats 2000000 in
theorem walk_any (p : RgP) (ok : p.Ok) (m : Nat) : ∀ (st : List Int) (k : Nat) (w : World), zeros st ≤ m → Rg w p st → k < p.n → Vals st → Done p.over st → (∀ j, get st j = 1 → Path p.over j k) →
    Calls Tryz.prog 154 #[.int .i64 k, .pointer (some ⟨p.b1, 0, none⟩), .pointer (some ⟨p.b2, 0, none⟩), .pointer (some ⟨p.b3, 0, none⟩)] w (WalkPost p st k w) := by
  induction m with
  | zero =>
    intro st k w hz hR hk hv hd hp
    have HR := Lib.hid hR
    have HV := Lib.hid hv
    have HD := Lib.hid hd
    have HP := Lib.hid hp
    have hkl : k < st.length := by rw [hR.ls]; exact hk
    have hnn := ok.n
    have x1 := hR.v1.cell 0 rfl
    have xs : w.cell? ⟨p.sb, k, none⟩ = some (.int .i64 (get st k)) := by
      rw [get_lt hkl]
      exact hR.stb.cell k (by simp [ints, hkl])
    rcases hv k with h0 | h1 | h2
    · exfalso
      have := zeros_set (v := 1) hkl h0 (by decide)
      omega
    · rw [h1] at xs
      have H1 := Lib.hid h1
      clear hR hv hd hp h1 ok
      go_enter Tryz.func154, Tryz.ntmps154
      go_wp2_with fail
      go_ret
      exact ⟨true, st, rfl, HR.out, HV.out, Below.refl _ _, fun _ => ⟨k, HP.out k H1.out⟩, fun h => by simp at h⟩
    · rw [h2] at xs
      have H2 := Lib.hid h2
      clear hR hv hd hp h2 ok
      go_enter Tryz.func154, Tryz.ntmps154
      go_wp2_with fail
      go_ret
      exact ⟨false, st, rfl, HR.out, HV.out, Below.refl _ _, fun h => by simp at h, fun _ => ⟨rfl, HD.out, H2.out, fun _ _ => rfl, fun _ h => h⟩⟩
  | succ m ih =>
    intro st k w hz hR hk hv hd hp
    have HR := Lib.hid hR
    have HV := Lib.hid hv
    have HD := Lib.hid hd
    have HP := Lib.hid hp
    have HZ := Lib.hid hz
    have OK := Lib.hid ok
    have IH := Lib.hid ih
    have hkl : k < st.length := by rw [hR.ls]; exact hk
    have HKL := Lib.hid hkl
    have hnn := ok.n
    have x1 := hR.v1.cell 0 rfl
    have xs : w.cell? ⟨p.sb, k, none⟩ = some (.int .i64 (get st k)) := by
      rw [get_lt hkl]
      exact hR.stb.cell k (by simp [ints, hkl])
    rcases hv k with h0 | h1 | h2
    · have H0 := Lib.hid h0
      rw [h0] at xs
      have hf : w.frozen? ⟨p.sb, k, none⟩ = false := hR.stb.free k
      have HR1 := Lib.hid (hR.set ok k 1)
      have HV1 := Lib.hid (vals_set hv hkl (v := 1) (by simp))
      have hkn : k < p.nx.length := by rw [ok.ln]; exact hk
      have HKN := Lib.hid hkn
      obtain ⟨r, hr⟩ : ∃ r, r = p.nx[k] := ⟨_, rfl⟩
      have hrm : r ∈ p.nx := hr ▸ List.getElem_mem hkn
      have hrx := ok.lx r hrm
      have HRM := Lib.hid hrm
      have HMem := Lib.hid (show ∀ b, b ∈ r.xs ↔ E p.over k b from hr ▸ ok.mem k hkn)
      have HRng := Lib.hid (ok.rng r hrm)
      have y2 : (w.setCell ⟨p.sb, k, none⟩ (.int .i64 1)).cell? ⟨p.b2, 0, none⟩ = some (.slice (some ⟨p.nb, 0, none⟩) p.n p.n) := HR1.out.v2.cell 0 rfl
      have yn : (w.setCell ⟨p.sb, k, none⟩ (.int .i64 1)).cell? ⟨p.nb, k, none⟩ = some (.slice r.A r.xs.length r.c) := HR1.out.nx.cell k (by rw [hr, List.getElem?_map, List.getElem?_eq_getElem hkn]; rfl)
      have HS := Lib.hid (At.start hkl h0 hd)
      have HBs := Lib.hid (show Below p.base w (w.setCell ⟨p.sb, k, none⟩ (.int .i64 1)) from (Below.refl _ _).setCell ok.sb _)
      clear hR hv hd hp hz ok ih hkl h0 hkn hrm hr
      go_enter Tryz.func154, Tryz.ntmps154
      go_wp2_with fail
      clear x1 xs hf y2 yn
      go_loopw [26] (fun t26 wr => ∃ (j : Nat) (st1 : List Int), t26 = .int .i64 j ∧ j ≤ r.xs.length ∧ Hid (Rg wr p st1) ∧ Hid (Vals st1) ∧ Hid (At st st1 p.over k (r.xs.take j)) ∧ Hid (Below p.base w wr)) (fun t26 _ => r.xs.length - (intOf t26).toNat)
      case atStart => exact ⟨0, _, rfl, Nat.zero_le _, HR1.out, HV1.out, HS.out, HBs.out⟩
      case round =>
        clear HR1 HV1 HS HBs
        obtain ⟨j, st1, rfl, hj, HR1, HV1, HA, HB⟩ := hrel
        by_cases hlt : j < r.xs.length
        · obtain ⟨b, o, hrA, hc⟩ := rd_nat (HR1.out.rows r HRM.out) hlt
          have HRA := Lib.hid hrA
          have hx : r.xs[j] < p.n := HRng.out _ (List.getElem_mem hlt)
          have HE := Lib.hid ((HMem.out r.xs[j]).1 (List.getElem_mem hlt))
          have y3 : wr.cell? ⟨p.b3, 0, none⟩ = some (.func (.func 154) #[] #[.pointer (some ⟨p.b1, 0, none⟩), .pointer (some ⟨p.b2, 0, none⟩), .pointer (some ⟨p.b3, 0, none⟩)]) := HR1.out.v3.cell 0 rfl
          rw [HRA.out]
          clear hrA
          go_wp2_with fail
          refine (IH.out st1 r.xs[j] _ (by have := HA.out.zeros HKL.out H0.out; have := HZ.out; omega) HR1.out hx HV1.out HA.out.done (HA.out.path HP.out HE.out)).mono ?_
          rintro e w' ⟨bb, st2, rfl, k1, k2, k3, k4, k5⟩
          have HK1 := Lib.hid k1
          have HK2 := Lib.hid k2
          have HK3 := Lib.hid (HB.out.trans k3)
          have HK4 := Lib.hid k4
          have HK5 := Lib.hid k5
          clear k1 k2 k3 k4 k5 hc y3
          cases bb
          · go_wp2_with fail
            go_roundw
            case rel =>
              refine ⟨j + 1, st2, by go_num, by omega, HK1.out, HK2.out, ?_, HK3.out⟩
              rw [List.take_succ_eq_append_getElem hlt]
              exact HA.out.step (HK5.out (by simp))
            case measure => simp [intOf]; omega
          · go_wp2_with fail
            go_ret
            exact ⟨true, st2, rfl, HK1.out, HK2.out, HK3.out, fun _ => HK4.out (by simp), fun h => by simp at h⟩
        · obtain rfl : j = r.xs.length := by omega
          have z1 := HR1.out.v1.cell 0 rfl
          have z2 : wr.frozen? ⟨p.sb, k, none⟩ = false := HR1.out.stb.free k
          have hk1 : k < st1.length := by rw [HR1.out.ls]; exact hk
          have HK1 := Lib.hid hk1
          have zs : wr.cell? ⟨p.sb, k, none⟩ = some (.int .i64 (get st1 k)) := by
            rw [get_lt hk1]
            exact HR1.out.stb.cell k (by simp [ints, hk1])
          clear hk1
          go_wp2_with fail
          go_ret
          refine ⟨false, _, rfl, HR1.out.set OK.out k 2, vals_set HV1.out HK1.out (by simp), HB.out.trans ((Below.refl _ _).setCell OK.out.sb _), fun h => by simp at h, fun _ => HA.out.stop HKL.out H0.out fun b hb => ?_⟩
          rw [List.take_length]
          exact (HMem.out b).2 hb
    · rw [h1] at xs
      have H1 := Lib.hid h1
      clear hR hv hd hp h1 ok ih
      go_enter Tryz.func154, Tryz.ntmps154
      go_wp2_with fail
      go_ret
      exact ⟨true, st, rfl, HR.out, HV.out, Below.refl _ _, fun _ => ⟨k, HP.out k H1.out⟩, fun h => by simp at h⟩
    · rw [h2] at xs
      have H2 := Lib.hid h2
      clear hR hv hd hp h2 ok ih
      go_enter Tryz.func154, Tryz.ntmps154
      go_wp2_with fail
      go_ret
      exact ⟨false, st, rfl, HR.out, HV.out, Below.refl _ _, fun h => by simp at h, fun _ => ⟨rfl, HD.out, H2.out, fun _ _ => rfl, fun _ h => h⟩⟩
end Go.Proofs.YthokhiejlogpoaaGreatDoor.Rings
namespace Go.Proofs.YthokhiejlogpoaaGreatDoor.Rings
open Go.RowKit Mem Thy Nest Day Thm Ring

theorem list_info : (Tryz.prog.info? 35).map (fun i => (i.zero, i.size, i.bytes)) = some (some (.slice none 0 0), 1, 24) := by kernel_rfl
theorem make_lists (n : Nat) (hn : n ≤ 1000000) (w : World) : (Instr.makeSlice 233 (.int .i64 (n : Int)) (.int .i64 (n : Int))).run Tryz.prog w = .ok (.slice (some ⟨w.heap.size, 0, none⟩) n n) (w.alloc (.cells (List.replicate n (.slice none 0 0)).toArray 35)) := by
  obtain ⟨i0, hi, hz0, hz1, hz2⟩ := info_parts list_info
  have h := run_makeSlice (P := Tryz.prog) w 233 35 i0 _ Tryz.underlying233 hi hz0 .i64 .i64 n n (by omega) (by omega) (by rw [hz1]; simp; omega) (by rw [hz2]; omega) (by omega)
  rw [hz1] at h
  simp only [Int.toNat_natCast, Nat.mul_one] at h
  have e : madeCells (Value.slice none 0 0).cells n = (List.replicate n (.slice none 0 0)).toArray := by
    apply Array.ext
    · simp [madeCells]
    · intro j h1 h2
      simp [madeCells, Value.cells, Nat.mod_one]
  rw [e] at h
  exact h
def natInts (xs : List Nat) : List Value := ints (xs.map Int.ofNat)
/-- the rows that are being made -/
structure Bl (w wr : World) (n : Nat) (vs : List Value) (xs : List (List Nat)) (ov : List (Int × Int)) (j : Nat) : Prop where
  below : Below w.heap.size w wr
  blk : Blk wr w.heap.size 35 vs
  var : Blk wr (w.heap.size + 1) 233 [.slice (some ⟨w.heap.size, 0, none⟩) n n]
  lv : vs.length = n
  lx : xs.length = n
  own : ∀ (i : Nat) (h1 : i < vs.length) (h2 : i < xs.length), wr.ownsRow (w.heap.size + 2) 3 1 vs[i] xs[i].length (natInts xs[i])
  apart : ∀ (i k : Nat) (h1 : i < vs.length) (h2 : k < vs.length), i ≠ k → vs[i].ownBlock = none ∨ vs[i].ownBlock ≠ vs[k].ownBlock
  mem : ∀ (i : Nat) (h2 : i < xs.length) (b : Nat), b ∈ xs[i] ↔ E (ov.take j) i b
  tot : ∀ (i : Nat) (h2 : i < xs.length), xs[i].length ≤ j
section
variable {w wr w1 : World} {n j : Nat} {vs : List Value} {xs : List (List Nat)} {ov : List (Int × Int)}
theorem Bl.ext (x : Bl w wr n vs xs ov j) (hb : Below wr.heap.size wr w1) : Bl w w1 n vs xs ov j :=
  ⟨ext_trans x.below hb, Sol.blk_ext x.blk hb, Sol.blk_ext x.var hb, x.lv, x.lx, fun i h1 h2 => own_ext (x.own i h1 h2) hb, x.apart, x.mem, x.tot⟩
theorem Bl.start (w : World) (n : Nat) (ov : List (Int × Int)) : Bl w ((w.alloc (.cells (List.replicate n (.slice none 0 0)).toArray 35)).alloc (.cells #[.slice (some ⟨w.heap.size, 0, none⟩) n n] 233)) n (List.replicate n (.slice none 0 0)) (List.replicate n []) ov 0 := by
  have h1 := ext_alloc w (.cells (List.replicate n (.slice none 0 0)).toArray 35)
  have h2 := ext_alloc (w.alloc (.cells (List.replicate n (.slice none 0 0)).toArray 35)) (.cells #[.slice (some ⟨w.heap.size, 0, none⟩) n n] 233)
  refine ⟨ext_trans h1 h2, Sol.blk_ext (Blk.new w _ _) h2, by simpa using Blk.new (w.alloc (.cells (List.replicate n (.slice none 0 0)).toArray 35)) 233 [.slice (some ⟨w.heap.size, 0, none⟩) n n], by simp, by simp, fun i h1 h2 => ?_, fun i k h1 h2 _ => ?_, fun i h2 b => ?_, fun i h2 => ?_⟩
  · simpa [natInts, ints] using World.ownsRow_nil _ _ _ _
  · simp [Value.ownBlock]
  · simp [E]
  · simp
theorem Bl.put {v0 : Value} {Wd : World} {a b g cap : Nat} {xa : List Nat} (x : Bl w Wd n vs xs ov j) (hj : j < ov.length) (ha : a < n) (h1 : a < vs.length) (h2 : a < xs.length) (hv : v0 = vs[a]) (hxa : xa = xs[a]) (e1 : ov[j] = ((a : Int), (b : Int)))
    (hown : w1.ownsRow (w.heap.size + 2) 3 1 (.slice (some ⟨g, 0, none⟩) (xa.length + 1) cap) (xa.length + 1) (natInts xa ++ [.int .i64 (b : Int)])) (hg : Wd.grownBy w1 v0.ownBlock) (hat : v0.ownBlock = some g ∨ g = Wd.heap.size) :
    Bl w (w1.setCell ⟨w.heap.size, a, none⟩ (.slice (some ⟨g, 0, none⟩) (xa.length + 1) cap)) n (vs.set a (.slice (some ⟨g, 0, none⟩) (xa.length + 1) cap)) (xs.set a (xa ++ [b])) ov (j + 1) := by
  have hrow : ∀ k, v0.ownBlock = some k → w.heap.size + 2 ≤ k := fun k hk => ((x.own a h1 h2).lt k (hv ▸ hk)).1
  have kept : ∀ {B : Nat} {T : TypeId} {cs : List Value}, Blk Wd B T cs → B < w.heap.size + 2 → Blk w1 B T cs := fun {B T cs} h hB => by
    have hl := h.lt
    unfold Blk at h ⊢
    rw [hg.block B hl (fun e => by have := hrow B e.symm; omega)]
    exact h
  have hbel : Below w.heap.size w w1 := x.below.grown hg x.below.size fun k hk => by have := hrow k hk; omega
  refine ⟨hbel.setCell (Nat.le_refl _) _, ?_, blk_set (kept x.var (by omega)) (by simp) _, by simp [x.lv], by simp [x.lx], fun i i1 i2 => ?_, fun i k i1 i2 hik => ?_, fun i i2 c => ?_, fun i i2 => ?_⟩
  · exact (kept x.blk (by omega)).set a _
  · simp only [List.length_set] at i1 i2
    by_cases e : i = a
    · subst e
      have h := ownsRow_setCell_below hown (a := ⟨w.heap.size, i, none⟩) (by simp) (.slice (some ⟨g, 0, none⟩) (xa.length + 1) cap)
      simpa [natInts, ints] using h
    · have h := (x.own i i1 i2).kept hg (by
        rcases x.apart i a i1 h1 e with h | h
        · exact .inl h
        · exact .inr (by rw [hv]; exact h))
      have h := ownsRow_setCell_below h (a := ⟨w.heap.size, a, none⟩) (by simp) (.slice (some ⟨g, 0, none⟩) (xa.length + 1) cap)
      simpa [Ne.symm e, List.getElem_set] using h
  · have i1' : i < vs.length := by simpa using i1
    have i2' : k < vs.length := by simpa using i2
    have far : ∀ (k : Nat) (k1 : k < vs.length), k ≠ a → vs[k].ownBlock = none ∨ vs[k].ownBlock ≠ some g := fun k k1 hk => by
      rcases hat with h | h
      · rcases x.apart k a k1 h1 hk with h' | h'
        · exact .inl h'
        · refine .inr fun e => h' ?_
          rw [e, ← h, hv]
      · cases e : vs[k].ownBlock with
        | none => exact .inl rfl
        | some q =>
          refine .inr fun e' => ?_
          have := ((x.own k k1 (by rw [x.lx, ← x.lv]; exact k1)).lt q e).2
          simp at e'
          omega
    have hn : (Value.slice (some ⟨g, 0, none⟩) (xa.length + 1) cap).ownBlock = some g := rfl
    by_cases ei : i = a
    · subst ei
      have hk : k ≠ i := Ne.symm hik
      rw [List.getElem_set_self, List.getElem_set_ne hik, hn]
      right
      rcases far k i2' hk with h | h
      · rw [h]; simp
      · exact Ne.symm h
    · by_cases ek : k = a
      · subst ek
        rw [List.getElem_set_self, List.getElem_set_ne (Ne.symm ei), hn]
        exact far i i1' ei
      · rw [List.getElem_set_ne (Ne.symm ei), List.getElem_set_ne (Ne.symm ek)]
        exact x.apart i k i1' i2' hik
  · simp only [List.length_set] at i2
    have hm := x.mem i i2 c
    unfold E at hm ⊢
    rw [List.take_succ_eq_append_getElem hj, List.mem_append, e1, List.mem_singleton]
    by_cases e : i = a
    · subst e
      subst hxa
      simp only [List.getElem_set_self, List.mem_append, List.mem_singleton, hm]
      constructor
      · rintro (h | rfl)
        · exact .inl h
        · exact .inr rfl
      · rintro (h | h)
        · exact .inl h
        · right; simp at h; omega
    · rw [List.getElem_set_ne (Ne.symm e), hm]
      constructor
      · exact .inl
      · rintro (h | h)
        · exact h
        · simp at h; omega
  · simp only [List.length_set] at i2
    by_cases e : i = a
    · subst e
      have := x.tot i (by simpa using i2)
      simp [hxa]
      exact this
    · rw [List.getElem_set_ne (Ne.symm e)]
      have := x.tot i (by simpa using i2)
      omega
end
theorem pick {α : Type} {P : Nat → α → Prop} : ∀ (n : Nat), (∀ i, i < n → ∃ r, P i r) → ∃ l : List α, l.length = n ∧ ∀ (i : Nat) (h : i < l.length), P i l[i]
  | 0, _ => ⟨[], rfl, fun i h => by simp at h⟩
  | n + 1, h => by
    obtain ⟨l, hl, hp⟩ := pick n (fun i hi => h i (by omega))
    obtain ⟨r, hr⟩ := h n (by omega)
    refine ⟨l ++ [r], by simp [hl], fun i hi => ?_⟩
    by_cases hi' : i < l.length
    · rw [List.getElem_append_left hi']; exact hp i hi'
    · have : i = n := by simp at hi; omega
      subst this
      rw [List.getElem_append_right (by omega)]
      simpa [hl] using hr
/-- the rows are made: told as the search wants them -/
theorem Bl.done {w wr : World} {n j : Nat} {vs : List Value} {xs : List (List Nat)} {ov : List (Int × Int)} (x : Bl w wr n vs xs ov j) :
    ∃ nx : List Nx, nx.length = n ∧ vs = nx.map nxVal ∧ nx.map Nx.xs = xs ∧ ∀ r ∈ nx, Rd wr r.A (ints (r.xs.map Int.ofNat)) := by
  obtain ⟨nx, hl, hp⟩ := pick (P := fun i (r : Nx) => ∃ (h1 : i < vs.length) (h2 : i < xs.length), vs[i] = nxVal r ∧ r.xs = xs[i] ∧ Rd wr r.A (ints (r.xs.map Int.ofNat))) n (fun i hi => by
    have h1 : i < vs.length := by rw [x.lv]; exact hi
    have h2 : i < xs.length := by rw [x.lx]; exact hi
    have ho := x.own i h1 h2
    obtain ⟨A, c, hv, _⟩ := own_slice ho
    rw [hv] at ho
    exact ⟨⟨xs[i], A, c⟩, h1, h2, hv, rfl, Rd.of_own ho⟩)
  refine ⟨nx, hl, ?_, ?_, fun r hr => ?_⟩
  · apply List.ext_getElem (by simp [x.lv, hl])
    intro i h1 h2
    obtain ⟨_, _, h, _⟩ := hp i (by simpa using h2)
    simpa using h
  · apply List.ext_getElem (by simp [x.lx, hl])
    intro i h1 h2
    obtain ⟨_, _, _, h, _⟩ := hp i (by simpa using h1)
    simpa using h
  · obtain ⟨i, hi, rfl⟩ := List.mem_iff_getElem.1 hr
    obtain ⟨_, _, _, _, h⟩ := hp i hi
    exact h
end Go.Proofs.YthokhiejlogpoaaGreatDoor.Rings
namespace Go.Proofs.YthokhiejlogpoaaGreatDoor.Rings
open Go.RowKit Mem Thy Nest Day Thm Ring

/-- what a cell holds, whatever that is -/
def held (a : Addr) (x : World) : Value := (x.cell? a).getD undef
theorem held_of {a : Addr} {x : World} {u : Value} (h : x.cell? a = some u) : x.cell? a = some (held a x) := by
  unfold held
  rw [h]
  rfl
theorem held_eq {a : Addr} {x : World} {u : Value} (h : x.cell? a = some u) : held a x = u := by
  unfold held
  rw [h]
  rfl
theorem cell_set_same {w : World} {a : Addr} {u : Value} (h : w.cell? a = some u) (v : Value) : (w.setCell a v).cell? a = some v := World.cell?_setCell_same' w a v (by rw [h]; rfl)
theorem int_info : (Tryz.prog.info? 3).map (fun i => (i.zero, i.size, i.bytes)) = some (some (.int .i64 0), 1, 8) := by kernel_rfl
set_option maxRecDepth 100000 in
set_option maxHeartbeats 2000000 in
theorem rings_any (n : Nat) (hn : n ≤ 120) (ov : List (Int × Int)) (hov : ov.length ≤ 1200) (hr : ∀ p ∈ ov, 0 ≤ p.1 ∧ p.1 < n ∧ 0 ≤ p.2 ∧ p.2 < n) (OA : Option Addr) (oc : Nat) (w : World) (hO : Rd w OA (ov.flatMap prCells)) :
    Calls Tryz.prog 119 #[.int .i64 n, .slice OA ov.length oc] w (BoolOf w (¬ Ranked ov)) := by
  have HO := Lib.hid hO
  have HRg := Lib.hid hr
  have hmk1 : ∀ w', (Instr.makeSlice 233 (.int .i64 (n : Int)) (.int .i64 (n : Int))).run Tryz.prog w' = .ok (.slice (some ⟨w'.heap.size, 0, none⟩) n n) (w'.alloc (.cells (List.replicate n (.slice none 0 0)).toArray 35)) := make_lists n (by omega)
  have hmk2 : ∀ w', (Instr.makeSlice 35 (.int .i64 (n : Int)) (.int .i64 (n : Int))).run Tryz.prog w' = .ok (.slice (some ⟨w'.heap.size, 0, none⟩) n n) (w'.alloc (.cells (ints (List.replicate n 0)).toArray 3)) := Sol.make_ints n (by omega)
  have HB0 := Lib.hid (Bl.start w n ov)
  obtain ⟨i0, hi, hz0, hz1, hz2⟩ := info_parts int_info
  have HI := Lib.hid hi
  have HZ0 := Lib.hid hz0
  have HZ1 := Lib.hid hz1
  have HZ2 := Lib.hid hz2
  clear hi hz0 hz1 hz2
  clear hO hr
  go_enter Tryz.func119, Tryz.ntmps119
  go_wp2_with fail
  go_loopw [15] (fun c wr => ∃ (j : Nat) (vs : List Value) (xs : List (List Nat)), c = .int .i64 j ∧ j ≤ ov.length ∧ Hid (Bl w wr n vs xs ov j)) (fun c _ => ov.length - (intOf c).toNat)
  case atStart => exact ⟨0, _, _, rfl, Nat.zero_le _, HB0.out⟩
  case round =>
    clear HB0
    obtain ⟨j, vs, xs, rfl, hj, HB⟩ := hrel
    by_cases hlt : j < ov.length
    · obtain ⟨b, o, rfl, r0, r1⟩ := pair_at (HO.out.ext HB.out.below) hlt
      obtain ⟨pa, pb, ha, hb, hpe⟩ : ∃ pa pb : Nat, pa < n ∧ pb < n ∧ ov[j] = ((pa : Int), (pb : Int)) := by
        obtain ⟨k1, k2, k3, k4⟩ := HRg.out _ (List.getElem_mem hlt)
        exact ⟨ov[j].1.toNat, ov[j].2.toNat, by omega, by omega, Prod.ext (by simp; omega) (by simp; omega)⟩
      rw [hpe] at r0 r1
      simp only at r0 r1
      have HPE := Lib.hid hpe
      clear hpe
      have hva : pa < vs.length := by rw [HB.out.lv]; exact ha
      have hxa : pa < xs.length := by rw [HB.out.lx]; exact ha
      obtain ⟨v0, hv0⟩ : ∃ v0, v0 = vs[pa] := ⟨_, rfl⟩
      obtain ⟨xa, hxa0⟩ : ∃ xa, xa = xs[pa] := ⟨_, rfl⟩
      have hxl : xa.length ≤ 1200 := by have := HB.out.tot pa hxa; rw [← hxa0] at this; omega
      have HVA := Lib.hid hva
      have HXA := Lib.hid hxa
      have HV0 := Lib.hid hv0
      have HX0 := Lib.hid hxa0
      have HWx := Lib.hid (HB.out.ext (ext_alloc wr (.cells #[.int .i64 pa, .int .i64 pb] 169)))
      have v0c : (wr.alloc (.cells #[.int .i64 pa, .int .i64 pb] 169)).cell? ⟨wr.heap.size, 0, none⟩ = some (.int .i64 pa) := by rw [World.cell?_alloc_at _ _ _ _ rfl]; rfl
      have v1c : (wr.alloc (.cells #[.int .i64 pa, .int .i64 pb] 169)).cell? ⟨wr.heap.size, 1, none⟩ = some (.int .i64 pb) := by rw [World.cell?_alloc_at _ _ _ _ rfl]; rfl
      have hsz : wr.heap.size < (wr.alloc (.cells #[.int .i64 pa, .int .i64 pb] 169)).heap.size := by simp
      have hb0 : w.heap.size + 1 < wr.heap.size := HB.out.var.lt
      clear hv0 hxa0
      go_wp2_with fail
      clear r0 r1
      generalize (wr.alloc (.cells #[.int .i64 pa, .int .i64 pb] 169)) = W at *
      have yv := HWx.out.var.cell 0 rfl
      have yn : W.cell? ⟨w.heap.size, pa, none⟩ = some v0 := HWx.out.blk.cell pa (by rw [HV0.out]; exact List.getElem?_eq_getElem HVA.out)
      have hown := HWx.out.own pa HVA.out HXA.out
      rw [← HV0.out, ← HX0.out] at hown
      have HOwn := Lib.hid (hown.alloc (.cells #[.int .i64 pb] 3))
      have hrow : v0.ownBlock ≠ some w.heap.size ∧ v0.ownBlock ≠ some (w.heap.size + 1) ∧ v0.ownBlock ≠ some wr.heap.size := by
        have h1 := hown.lt
        have h2 := (HB.out.own pa HVA.out HXA.out).lt
        rw [← HV0.out] at h2
        exact ⟨fun e => by have := h1 _ e; omega, fun e => by have := h1 _ e; omega, fun e => by have := h2 _ e; omega⟩
      have HRow := Lib.hid hrow
      have HL := Lib.hid (show w.heap.size < W.heap.size ∧ w.heap.size + 1 < W.heap.size from ⟨HWx.out.blk.lt, HWx.out.var.lt⟩)
      have HWs := Lib.hid HWx.out.below.size
      clear hown hrow
      have HKf := Lib.hid (show ∀ w1 : World, (W.alloc (.cells #[.int .i64 (pb : Int)] 3)).drew.grownBy w1 v0.ownBlock → (w1.cell? ⟨w.heap.size + 1, 0, none⟩ = some (.slice (some ⟨w.heap.size, 0, none⟩) n n) ∧ w1.cell? ⟨wr.heap.size, 0, none⟩ = some (.int .i64 pa) ∧ w1.cell? ⟨wr.heap.size, 1, none⟩ = some (.int .i64 pb) ∧ w1.cell? ⟨w.heap.size, pa, none⟩ = some v0) ∧ w1.frozen? ⟨w.heap.size, pa, none⟩ = false from fun w1 hgrow =>
        ⟨⟨hgrow.cell (cell_ext (ext_alloc W _) yv) (Ne.symm HRow.out.2.1), hgrow.cell (cell_ext (ext_alloc W _) v0c) (Ne.symm HRow.out.2.2), hgrow.cell (cell_ext (ext_alloc W _) v1c) (Ne.symm HRow.out.2.2), hgrow.cell (cell_ext (ext_alloc W _) yn) (Ne.symm HRow.out.1)⟩,
          (hgrow.frozen_far ⟨w.heap.size, pa, none⟩ (by have := HL.out; simp; omega) (Ne.symm HRow.out.1)).trans ((HWx.out.ext (ext_alloc W _)).blk.free pa)⟩)
      have yn2 : ∀ ob, (W.alloc ob).cell? ⟨w.heap.size, pa, none⟩ = some v0 := fun ob => cell_ext (ext_alloc _ _) yn
      refine wp_region_held_drew (S := (fun w' => w'.cell? ⟨w.heap.size + 1, 0, none⟩ = some (.slice (some ⟨w.heap.size, 0, none⟩) n n) ∧ w'.cell? ⟨wr.heap.size, 0, none⟩ = some (.int .i64 pa) ∧ w'.cell? ⟨wr.heap.size, 1, none⟩ = some (.int .i64 pb))) (by kernel_rfl) ?_ (fun hHeld => ?_)
      · exact ⟨yv, v0c, v1c⟩
      refine wpAnyH_take (i := 0) (v := ?_) rfl (by kernel_rfl) (by kernel_rfl) (by kernel_rfl) (fun _ _ _ h => h) (Or.inl ⟨by rfl, ?_⟩) (by assumption) ?_
      rotate_left
      · intro w hSw; (try dsimp only at hSw); go_simp; try with_reducible rfl
      (try dsimp only [Act.put, List.setIfInBounds_toArray, List.set_cons_zero, List.set_cons_succ])
      refine wpAnyH_take (i := 1) (v := ?_) rfl (by kernel_rfl) (by kernel_rfl) (by kernel_rfl) (fun _ _ _ h => h) (Or.inl ⟨by rfl, ?_⟩) (by assumption) ?_
      rotate_left
      · intro w hSw; (try dsimp only at hSw); go_simp; try with_reducible rfl
      (try dsimp only [Act.put, List.setIfInBounds_toArray, List.set_cons_zero, List.set_cons_succ])
      refine wpAnyH_take (i := 2) (v := ?_) rfl (by kernel_rfl) (by kernel_rfl) (by kernel_rfl) (fun _ _ _ h => h) (Or.inl ⟨by rfl, ?_⟩) (by assumption) ?_
      rotate_left
      · intro w hSw; (try dsimp only at hSw); go_simp; try with_reducible rfl
      (try dsimp only [Act.put, List.setIfInBounds_toArray, List.set_cons_zero, List.set_cons_succ])
      refine wpAnyH_take (i := 3) (v := ?_) rfl (by kernel_rfl) (by kernel_rfl) (by kernel_rfl) (fun _ _ _ h => h) (Or.inl ⟨by rfl, ?_⟩) (by assumption) ?_
      rotate_left
      · intro w hSw; (try dsimp only at hSw); go_simp; try with_reducible rfl
      (try dsimp only [Act.put, List.setIfInBounds_toArray, List.set_cons_zero, List.set_cons_succ])
      refine wpAnyH_take (i := 4) (v := ?_) rfl (by kernel_rfl) (by kernel_rfl) (by kernel_rfl) (fun _ _ _ h => h) (Or.inl ⟨by rfl, ?_⟩) (by assumption) ?_
      rotate_left
      · intro w hSw; (try dsimp only at hSw); go_simp; try with_reducible rfl
      (try dsimp only [Act.put, List.setIfInBounds_toArray, List.set_cons_zero, List.set_cons_succ])
      refine wpAnyH_take (i := 5) (v := ?_) rfl (by kernel_rfl) (by kernel_rfl) (by kernel_rfl) (fun _ _ _ h => h) (Or.inl ⟨by rfl, ?_⟩) (by assumption) ?_
      rotate_left
      · intro w hSw; (try dsimp only at hSw); go_simp; try with_reducible rfl
      (try dsimp only [Act.put, List.setIfInBounds_toArray, List.set_cons_zero, List.set_cons_succ])
      refine wpAnyH_take (i := 6) (v := ?_) rfl (by kernel_rfl) (by kernel_rfl) (by kernel_rfl) (fun _ _ _ h => h) (Or.inl ⟨by rfl, ?_⟩) (by assumption) ?_
      rotate_left
      · intro w hSw; (try dsimp only at hSw); go_simp; try with_reducible rfl
      (try dsimp only [Act.put, List.setIfInBounds_toArray, List.set_cons_zero, List.set_cons_succ])
      refine wpAnyH_take (i := 8) (v := ?_) rfl (by kernel_rfl) (by kernel_rfl) (by kernel_rfl) (fun _ _ _ h => h) (Or.inl ⟨by rfl, ?_⟩) (by assumption) ?_
      rotate_left
      · intro w hSw; (try dsimp only at hSw); go_simp; try with_reducible rfl
      (try dsimp only [Act.put, List.setIfInBounds_toArray, List.set_cons_zero, List.set_cons_succ])
      refine wpAnyH_take (i := 9) (v := ?_) rfl (by kernel_rfl) (by kernel_rfl) (by kernel_rfl) (fun _ _ _ h => h) (Or.inl ⟨by rfl, ?_⟩) (by assumption) ?_
      rotate_left
      · intro w hSw; (try dsimp only at hSw); go_simp; try with_reducible rfl
      (try dsimp only [Act.put, List.setIfInBounds_toArray, List.set_cons_zero, List.set_cons_succ])
      refine wpAnyH_ready (rs := [7, 10]) (by kernel_rfl) (by simp) ?_
      refine AllReadyH.cons rfl (fun K hK => ?_) ?_
      · go_simp
        refine hK.out _ _ ?_ (fun hHeld => ?_)
        · exact ⟨yv, v0c, v1c⟩
        clear hK K
        (try dsimp only [Act.put, List.setIfInBounds_toArray, List.set_cons_zero, List.set_cons_succ])
        refine wpAnyH_ready (rs := [10]) (by kernel_rfl) (by simp) ?_
        refine AllReadyH.cons rfl (fun K hK => ?_) ?_
        · go_simp
          refine hK.out _ _ ?_ (fun hHeld => ?_)
          · exact ⟨cell_ext (ext_alloc W _) yv, cell_ext (ext_alloc W _) v0c, cell_ext (ext_alloc W _) v1c⟩
          clear hK K
          (try dsimp only [Act.put, List.setIfInBounds_toArray, List.set_cons_zero, List.set_cons_succ])
          refine wpAnyH_ready (rs := [11]) (by kernel_rfl) (by simp) ?_
          refine AllReadyH.cons rfl (fun K hK => ?_) ?_
          · refine step_append_lies _ (by rfl) _ _ _ (by rfl) (w.heap.size + 2) 3 i0 _ 1 8 Tryz.underlying35 HI.out HZ0.out HZ1.out HZ2.out rfl (by omega) v0 xa.length (natInts xa) (by rfl) HOwn.out.drew ⟨W.heap.size, 0, none⟩ 1 1 [.int .i64 pb] (by rfl) (by rfl) (World.news_of_block (cs := #[.int .i64 pb]) (t := 3) (fr := (0, 0)) (heap_alloc_new W _)) (by simp [Value.oneCell']) (by omega) (by unfold maxLen; omega) (by omega) (by have := HL.out; simp; omega) (W.heap.size + 1) (by simp) ?_; intro gg cap w1 hown1 hgrow hat hlt2; have hfr := (HKf.out w1 hgrow).2; have hk1 := (HKf.out w1 hgrow).1.1; have hk2 := (HKf.out w1 hgrow).1.2.1; have hk3 := (HKf.out w1 hgrow).1.2.2.1; have hk4 := (HKf.out w1 hgrow).1.2.2.2; have HO1 := Lib.hid hown1; have HG1 := Lib.hid hgrow; have HAt := Lib.hid hat; clear hown1 hgrow hat
            refine hK.out _ _ ?_ (fun hHeld => ?_)
            · exact ⟨hk1, hk2, hk3⟩
            clear hK K
            (try dsimp only [Act.put, List.setIfInBounds_toArray, List.set_cons_zero, List.set_cons_succ])
            refine wpAnyH_take (i := 12) (v := ?_) rfl (by kernel_rfl) (by kernel_rfl) (by kernel_rfl) (fun _ _ _ h => h) (Or.inl ⟨by rfl, ?_⟩) (by assumption) ?_
            rotate_left
            · intro w hSw; (try dsimp only at hSw); go_simp; try with_reducible rfl
            (try dsimp only [Act.put, List.setIfInBounds_toArray, List.set_cons_zero, List.set_cons_succ])
            refine wpAnyH_ready (rs := [13]) (by kernel_rfl) (by simp) ?_
            refine AllReadyH.cons rfl (fun K hK => ?_) ?_
            · go_simp
              refine hK.out _ _ ?_ (fun hHeld => ?_)
              · exact ⟨cell_set_other hk1 (by simp) _, cell_set_other hk2 (by simp; omega) _, cell_set_other hk3 (by simp; omega) _⟩
              clear hK K
              (try dsimp only [Act.put, List.setIfInBounds_toArray, List.set_cons_zero, List.set_cons_succ])
              refine wpAnyH_done (by kernel_rfl) ?_ _
              go_wp2_with fail
              go_roundw
              case rel => exact ⟨j + 1, _, _, by go_num, by omega, Bl.put (HWx.out.ext (ext_alloc W _) |>.ext (ext_drewN _ 1)) hlt ha HVA.out HXA.out HV0.out HX0.out HPE.out HO1.out HG1.out (by have := HAt.out; simpa using this)⟩
              case measure => simp [intOf]; omega
            exact AllReadyH.nil
          exact AllReadyH.nil
        exact AllReadyH.nil
      refine AllReadyH.cons rfl (fun K hK => ?_) ?_
      · go_simp
        refine hK.out _ _ ?_ (fun hHeld => ?_)
        · exact ⟨cell_ext (ext_alloc W _) yv, cell_ext (ext_alloc W _) v0c, cell_ext (ext_alloc W _) v1c⟩
        clear hK K
        (try dsimp only [Act.put, List.setIfInBounds_toArray, List.set_cons_zero, List.set_cons_succ])
        refine wpAnyH_ready (rs := [7]) (by kernel_rfl) (by simp) ?_
        refine AllReadyH.cons rfl (fun K hK => ?_) ?_
        · go_simp
          refine hK.out _ _ ?_ (fun hHeld => ?_)
          · exact ⟨cell_ext (ext_alloc W _) yv, cell_ext (ext_alloc W _) v0c, cell_ext (ext_alloc W _) v1c⟩
          clear hK K
          (try dsimp only [Act.put, List.setIfInBounds_toArray, List.set_cons_zero, List.set_cons_succ])
          refine wpAnyH_ready (rs := [11]) (by kernel_rfl) (by simp) ?_
          refine AllReadyH.cons rfl (fun K hK => ?_) ?_
          · refine step_append_lies _ (by rfl) _ _ _ (by rfl) (w.heap.size + 2) 3 i0 _ 1 8 Tryz.underlying35 HI.out HZ0.out HZ1.out HZ2.out rfl (by omega) v0 xa.length (natInts xa) (by rfl) HOwn.out.drew ⟨W.heap.size, 0, none⟩ 1 1 [.int .i64 pb] (by rfl) (by rfl) (World.news_of_block (cs := #[.int .i64 pb]) (t := 3) (fr := (0, 0)) (heap_alloc_new W _)) (by simp [Value.oneCell']) (by omega) (by unfold maxLen; omega) (by omega) (by have := HL.out; simp; omega) (W.heap.size + 1) (by simp) ?_; intro gg cap w1 hown1 hgrow hat hlt2; have hfr := (HKf.out w1 hgrow).2; have hk1 := (HKf.out w1 hgrow).1.1; have hk2 := (HKf.out w1 hgrow).1.2.1; have hk3 := (HKf.out w1 hgrow).1.2.2.1; have hk4 := (HKf.out w1 hgrow).1.2.2.2; have HO1 := Lib.hid hown1; have HG1 := Lib.hid hgrow; have HAt := Lib.hid hat; clear hown1 hgrow hat
            refine hK.out _ _ ?_ (fun hHeld => ?_)
            · exact ⟨hk1, hk2, hk3⟩
            clear hK K
            (try dsimp only [Act.put, List.setIfInBounds_toArray, List.set_cons_zero, List.set_cons_succ])
            refine wpAnyH_take (i := 12) (v := ?_) rfl (by kernel_rfl) (by kernel_rfl) (by kernel_rfl) (fun _ _ _ h => h) (Or.inl ⟨by rfl, ?_⟩) (by assumption) ?_
            rotate_left
            · intro w hSw; (try dsimp only at hSw); go_simp; try with_reducible rfl
            (try dsimp only [Act.put, List.setIfInBounds_toArray, List.set_cons_zero, List.set_cons_succ])
            refine wpAnyH_ready (rs := [13]) (by kernel_rfl) (by simp) ?_
            refine AllReadyH.cons rfl (fun K hK => ?_) ?_
            · go_simp
              refine hK.out _ _ ?_ (fun hHeld => ?_)
              · exact ⟨cell_set_other hk1 (by simp) _, cell_set_other hk2 (by simp; omega) _, cell_set_other hk3 (by simp; omega) _⟩
              clear hK K
              (try dsimp only [Act.put, List.setIfInBounds_toArray, List.set_cons_zero, List.set_cons_succ])
              refine wpAnyH_done (by kernel_rfl) ?_ _
              go_wp2_with fail
              go_roundw
              case rel => exact ⟨j + 1, _, _, by go_num, by omega, Bl.put (HWx.out.ext (ext_alloc W _) |>.ext (ext_drewN _ 1)) hlt ha HVA.out HXA.out HV0.out HX0.out HPE.out HO1.out HG1.out (by have := HAt.out; simpa using this)⟩
              case measure => simp [intOf]; omega
            exact AllReadyH.nil
          exact AllReadyH.nil
        exact AllReadyH.nil
      exact AllReadyH.nil
    · obtain rfl : ov.length = j := by omega
      obtain ⟨nx, hnl, hvs, hxs, hrows⟩ := HB.out.done
      obtain ⟨p, hp⟩ : ∃ p : RgP, p = ⟨w.heap.size, wr.heap.size + 1, w.heap.size + 1, wr.heap.size + 2, wr.heap.size, w.heap.size, n, nx, ov⟩ := ⟨_, rfl⟩
      have hb0 : w.heap.size + 1 < wr.heap.size := HB.out.var.lt
      have hmem : ∀ (k : Nat) (h : k < nx.length) (b : Nat), b ∈ nx[k].xs ↔ E ov k b := fun k h b => by
        have h2 : k < xs.length := by rw [HB.out.lx, ← hnl]; exact h
        have := HB.out.mem k h2 b
        rw [List.take_length] at this
        rw [← this]
        simp [← hxs]
      have OK := Lib.hid (show p.Ok by
        subst hp
        refine ⟨hn, hnl, fun r hr => ?_, hmem, fun r hr x hx => ?_, by show w.heap.size ≤ wr.heap.size; omega, by show wr.heap.size + 1 ≠ wr.heap.size; omega, by show w.heap.size + 1 ≠ wr.heap.size; omega, by show wr.heap.size + 2 ≠ wr.heap.size; omega, by show w.heap.size ≠ wr.heap.size; omega⟩
        · obtain ⟨i, hi, rfl⟩ := List.mem_iff_getElem.1 hr
          have h2 : i < xs.length := by rw [HB.out.lx, ← hnl]; exact hi
          have := HB.out.tot i h2
          simp [← hxs] at this
          exact Nat.le_trans this hov
        · obtain ⟨i, hi, rfl⟩ := List.mem_iff_getElem.1 hr
          have h := (hmem i hi x).1 hx
          have h3 : ((i : Int), (x : Int)).2 < (n : Int) := (HRg.out _ h).2.2.2
          simp only at h3
          show x < n
          omega)
      have x1 := ext_alloc wr (.cells (ints (List.replicate n 0)).toArray 3)
      have x2 := ext_alloc (wr.alloc (.cells (ints (List.replicate n 0)).toArray 3)) (.cells #[.slice (some ⟨wr.heap.size, 0, none⟩) n n] 35)
      have x3 := ext_alloc ((wr.alloc (.cells (ints (List.replicate n 0)).toArray 3)).alloc (.cells #[.slice (some ⟨wr.heap.size, 0, none⟩) n n] 35)) (.cells #[.func (.func 154) #[] #[.pointer (some ⟨wr.heap.size + 1, 0, none⟩), .pointer (some ⟨w.heap.size + 1, 0, none⟩), .pointer (some ⟨wr.heap.size + 2, 0, none⟩)]] 74)
      have x123 := ext_trans x1 (ext_trans x2 x3)
      have HR0 := Lib.hid (show Rg (((wr.alloc (.cells (ints (List.replicate n 0)).toArray 3)).alloc (.cells #[.slice (some ⟨wr.heap.size, 0, none⟩) n n] 35)).alloc (.cells #[.func (.func 154) #[] #[.pointer (some ⟨wr.heap.size + 1, 0, none⟩), .pointer (some ⟨w.heap.size + 1, 0, none⟩), .pointer (some ⟨wr.heap.size + 2, 0, none⟩)]] 74)) p (List.replicate n 0) by
        subst hp
        refine ⟨?_, Sol.blk_ext HB.out.var x123, ?_, Sol.blk_ext (Blk.new wr _ _) (ext_trans x2 x3), by simp, ?_, fun r hr => (hrows r hr).ext x123, fun r hr => LowA.of_rd (hrows r hr)⟩
        · exact Sol.blk_ext (by simpa using Blk.new (wr.alloc (.cells (ints (List.replicate n 0)).toArray 3)) 35 [.slice (some ⟨wr.heap.size, 0, none⟩) n n]) x3
        · simpa [caps] using Blk.new ((wr.alloc (.cells (ints (List.replicate n 0)).toArray 3)).alloc (.cells #[.slice (some ⟨wr.heap.size, 0, none⟩) n n] 35)) 74 [.func (.func 154) #[] #[.pointer (some ⟨wr.heap.size + 1, 0, none⟩), .pointer (some ⟨w.heap.size + 1, 0, none⟩), .pointer (some ⟨wr.heap.size + 2, 0, none⟩)]]
        · rw [← hvs]; exact Sol.blk_ext HB.out.blk x123)
      have HBe := Lib.hid (HB.out.below.trans (x123.mono (show w.heap.size ≤ wr.heap.size by omega)))
      have e1 : p.b1 = wr.heap.size + 1 := by rw [hp]
      have e2 : p.b2 = w.heap.size + 1 := by rw [hp]
      have e3 : p.b3 = wr.heap.size + 2 := by rw [hp]
      have e4 : p.n = n := by rw [hp]
      have e5 : p.over = ov := by rw [hp]
      have e6 : p.base = w.heap.size := by rw [hp]
      have HE := Lib.hid (show p.b1 = wr.heap.size + 1 ∧ p.b2 = w.heap.size + 1 ∧ p.b3 = wr.heap.size + 2 ∧ p.n = n ∧ p.over = ov ∧ p.base = w.heap.size from ⟨e1, e2, e3, e4, e5, e6⟩)
      clear x1 x2 x3 x123 e1 e2 e3 e4 e5 e6 hp hmem hrows hvs hxs HB
      go_wp2_with fail
      obtain ⟨wb, hwb⟩ : ∃ wb : Nat, wb = wr.heap.size := ⟨_, rfl⟩
      have HWB := Lib.hid hwb
      clear hwb
      go_loopw [37] (fun t37 wq => ∃ (k : Nat) (st : List Int), t37 = .int .i64 k ∧ k ≤ n ∧ Hid (Rg wq p st) ∧ Hid (Vals st) ∧ Hid (Done ov st) ∧ Hid (∀ j, get st j ≠ 1) ∧ Hid (∀ j, j < k → get st j = 2) ∧ Hid (Below w.heap.size w wq)) (fun t37 _ => n - (intOf t37).toNat)
      case atStart =>
        have z : ∀ j, get (List.replicate n (0 : Int)) j = 0 := fun j => by unfold Ring.get; simp only [List.getD, List.getElem?_replicate]; split <;> rfl
        exact ⟨0, _, rfl, Nat.zero_le _, HR0.out, fun j => .inl (z j), done_start ov n, fun j h => by rw [z j] at h; exact absurd h (by decide), fun j h => absurd h (by omega), HBe.out⟩
      case round =>
        clear HR0 HBe
        obtain ⟨k, st, rfl, hk, HR, HV, HD, H1, H2, HB⟩ := hrel
        by_cases hkn : k < n
        · have y3 : wr.cell? ⟨wb + 2, 0, none⟩ = some (.func (.func 154) #[] #[.pointer (some ⟨wb + 1, 0, none⟩), .pointer (some ⟨w.heap.size + 1, 0, none⟩), .pointer (some ⟨wb + 2, 0, none⟩)]) := by
            have h := HR.out.v3.cell 0 rfl
            unfold caps at h
            rw [HE.out.1, HE.out.2.1, HE.out.2.2.1, ← HWB.out] at h
            exact h
          have HW := Lib.hid (walk_any p OK.out (zeros st) st k wr (Nat.le_refl _) HR.out (by rw [HE.out.2.2.2.1]; exact hkn) HV.out (by rw [HE.out.2.2.2.2.1]; exact HD.out) (fun j h => absurd h (H1.out j)))
          rw [HE.out.1, HE.out.2.1, HE.out.2.2.1] at HW
          rw [HWB.out] at y3
          go_wp2_with fail
          refine HW.out.mono ?_
          rintro e w' ⟨bb, st2, rfl, k1, k2, k3, k4, k5⟩
          rw [HE.out.2.2.2.2.1] at k4 k5
          rw [HE.out.2.2.2.2.2] at k3
          have HK1 := Lib.hid k1
          have HK2 := Lib.hid k2
          have HK3 := Lib.hid (HB.out.trans k3)
          have HK4 := Lib.hid k4
          have HK5 := Lib.hid k5
          clear k1 k2 k3 k4 k5 y3
          cases bb
          · go_wp2_with fail
            have hf := HK5.out (by simp)
            go_roundw
            case rel =>
              refine ⟨k + 1, st2, by go_num, by omega, HK1.out, HK2.out, hf.done, fun j h => H1.out j (hf.one j h), fun j hj => ?_, HK3.out⟩
              by_cases e : j = k
              · subst e; exact hf.two
              · have := H2.out j (by omega)
                rw [hf.keep j (by rw [this]; decide), this]
            case measure => simp [intOf]; omega
          · go_wp2_with fail
            go_ret
            exact ⟨true, rfl, by simpa using cycle_not (HK4.out (by simp)), HK3.out⟩
        · obtain rfl : n = k := by omega
          go_wp2_with fail
          go_ret
          refine ⟨false, rfl, ?_, HB.out⟩
          have hl := HR.out.ls
          rw [HE.out.2.2.2.1] at hl
          have : Ranked ov := ranked_of HD.out (fun j hj => H2.out j (by omega)) (by rw [hl]; exact HRg.out)
          simp [this]
end Go.Proofs.YthokhiejlogpoaaGreatDoor.Rings

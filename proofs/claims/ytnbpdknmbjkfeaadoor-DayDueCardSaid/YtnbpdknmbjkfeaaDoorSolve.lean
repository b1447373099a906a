/- reason.Solve: the walk. -/
import Derived.Test.YtnbpdknmbjkfeaaDoorVal
import Derived.Test.YtnbpdknmbjkfeaaDoorRun
namespace Go.Proofs.YtnbpdknmbjkfeaaDoor.Solve
open Go.RowKit Mem Thy Nest Day Thm Sol Val

def Sent (w : World) (g : Nat) (a : Addr) : Prop := w.cell? ⟨g, 0, none⟩ = some (.iface 230 (.pointer (some a)))
def errV (a : Addr) : Value := .iface 230 (.pointer (some a))
/-- what is right about a theory -/
structure Right (N : Int) (rs : List Rw) (ov : List (Int × Int)) : Prop where
  b : ¬ Bd N rs ov
  k : ¬ Kd rs
  n : ¬ Nm N rs ov
  o : Ranked ov
theorem Right.names {N : Int} {rs : List Rw} {ov : List (Int × Int)} (h : Right N rs ov) : 0 ≤ N ∧ N ≤ 120 := by
  have hb : ¬ Bound0 N rs ov := fun x => h.b (.inl x)
  unfold Bound0 at hb
  omega
theorem tell_none (a b : Bool) (q : Int) (w : World) : Calls Tryd.prog 100 #[.bool a, .bool b, .int .i64 q] w fun e w' => (∃ v, e = .returned v) ∧ w = w' := by
  go_enter Tryd.func100, Tryd.ntmps100
  go_wp2_with fail
  go_end0
  exact ⟨⟨_, rfl⟩, rfl⟩
theorem teller (p : SvP) (base : Nat) : Teller p base 100 #[] (fun _ _ => True) where
  hg := fun _ _ => by kernel_rfl
  ext := fun _ _ _ _ _ => trivial
  say := fun _ _ _ _ _ _ => trivial
  tell := fun w l S H a b q g1 g2 hS _ h1 h2 _ => (tell_none a b q w).mono fun e w' ⟨he, hw⟩ => by
    subst hw
    exact ⟨he, hS, trivial, h1, h2, Below.refl _ _⟩
/-- the solver that has just been made -/
def mkP (w1 : World) (n : Nat) (rs : List Rw) (RA : Option Addr) (rc : Nat) (ov : List (Int × Int)) (OA : Option Addr) (oc sb hb : Nat) : SvP := ⟨w1.heap.size + 2, n, rs, RA, rc, ov, OA, oc, sb, hb, w1.heap.size + 1, ov.length, w1.heap.size + 3⟩
theorem mkP_ok {w1 w' : World} {n : Nat} {rs : List Rw} {RA : Option Addr} {rc : Nat} {ov : List (Int × Int)} {OA : Option Addr} {oc sb hb : Nat} (hV : Right n rs ov) (hR : Rws w1 RA rs) (x : NS w1 w' n rs RA rc ov OA oc sb hb ov.length) : (mkP w1 n rs RA rc ov OA oc sb hb).Ok := by
  have hN := hV.names
  have hbd : ¬ Bound0 n rs ov := fun x => hV.b (.inl x)
  have lit : ∀ q, LitW n q → (mkP w1 n rs RA rc ov OA oc sb hb).th.Lit q := fun q h => (litW_iff (by omega) hN.2).1 h
  refine ⟨by show n ≤ 120; omega, by show rs.length ≤ 120; unfold Bound0 at hbd; omega, fun r hr => ?_, fun r hr q hq => ?_, fun r hr => ?_, by show w1.heap.size + 2 < w1.heap.size + 3; omega, by show w1.heap.size + 1 < w1.heap.size + 3; omega, x.l1, x.l2, x.ne, (LowA.of_rd hR.rows).mono (by show w1.heap.size ≤ w1.heap.size + 3; omega), fun r hr => (LowA.of_rd (hR.bods r hr)).mono (by show w1.heap.size ≤ w1.heap.size + 3; omega)⟩
  · refine lit _ (Classical.byContradiction fun c => hV.n (.inl ⟨r, hr, .inl c⟩))
  · refine lit _ (Classical.byContradiction fun c => hV.n (.inl ⟨r, hr, .inr ⟨q, hq, c⟩⟩))
  · refine Nat.not_lt.1 fun c => hV.b (.inr ⟨r, hr, c⟩)
theorem mkP_sv {w1 w' : World} {n : Nat} {rs : List Rw} {RA : Option Addr} {rc : Nat} {ov : List (Int × Int)} {OA : Option Addr} {oc sb hb : Nat} (hR : Rws w1 RA rs) (x : NS w1 w' n rs RA rc ov OA oc sb hb ov.length) : Sv w' (mkP w1 n rs RA rc ov OA oc sb hb) (List.replicate (2 * n) 0) (List.replicate (2 * n) 0) :=
  ⟨x.sv, hR.ext x.below, x.s, x.h, by have := x.m; rwa [List.take_length] at this, by simp [mkP], by simp [mkP]⟩
def thOf (n : Nat) (rs : List Rw) (ov : List (Int × Int)) : Th := ⟨n, rs.map Rw.rl, ov⟩
/-- what Solve gives -/
def SolvePost (N : Int) (rs : List Rw) (ov : List (Int × Int)) (aB aK aN aO : Addr) (w : World) (e : Ending) (w' : World) : Prop :=
  ∃ kv ev, e = .returned (.tuple #[kv, ev]) ∧ Below w.heap.size w w' ∧
    ((¬ Right N rs ov ∧ VOut N rs ov (errV aB) (errV aK) (errV aN) (errV aO) ev ∧ (∃ a, ev = errV a) ∧ kv = .agg #[.slice none 0 0, .slice none 0 0]) ∨
     (Right N rs ov ∧ ev = .nilIface ∧ ∃ (n sb hb : Nat) (S H : List Int), N = n ∧ kv = .agg #[.slice (some ⟨sb, 0, none⟩) (2 * n) (2 * n), .slice (some ⟨hb, 0, none⟩) (2 * n) (2 * n)] ∧ Blk w' sb 3 (ints S) ∧ Blk w' hb 3 (ints H) ∧ S.length = 2 * n ∧ H.length = 2 * n ∧
       Thy.Good (thOf n rs ov) (stOf S) (stOf H) ∧ Thy.Fin (thOf n rs ov) (stOf S) (stOf H)))
theorem vout_err {N : Int} {rs : List Rw} {ov : List (Int × Int)} {aB aK aN aO : Addr} {v : Value} (h : VOut N rs ov (errV aB) (errV aK) (errV aN) (errV aO) v) : (¬ Right N rs ov ∧ ∃ a, v = errV a) ∨ (Right N rs ov ∧ v = .nilIface) := by
  rcases h with ⟨h, rfl⟩ | ⟨_, h, rfl⟩ | ⟨_, _, h, rfl⟩ | ⟨_, _, _, h, rfl⟩ | ⟨h1, h2, h3, h4, rfl⟩
  · exact .inl ⟨fun r => r.b h, _, rfl⟩
  · exact .inl ⟨fun r => r.k h, _, rfl⟩
  · exact .inl ⟨fun r => r.n h, _, rfl⟩
  · exact .inl ⟨fun r => h r.o, _, rfl⟩
  · exact .inr ⟨⟨h1, h2, h3, h4⟩, rfl⟩
set_option maxRecDepth 100000 in
set_option maxHeartbeats 2000000 in
theorem solve_any (N : Int) (rs : List Rw) (RA : Option Addr) (rc : Nat) (ov : List (Int × Int)) (hov : ov.length ≤ 9223372036854775807) (OA : Option Addr) (oc : Nat) (aB aK aN aO : Addr) (w : World) (hR : Rws w RA rs) (hO : Rd w OA (ov.flatMap prCells)) (hE : ErrR w (errV aB) (errV aK) (errV aN) (errV aO)) :
    Calls Tryd.prog 49 #[.agg #[.int .i64 N, .slice RA rs.length rc, .slice OA ov.length oc]] w (SolvePost N rs ov aB aK aN aO w) := by
  have HR := Lib.hid hR
  have HO := Lib.hid hO
  have x1 := ext_alloc w (.cells (thCells N rs RA rc ov OA oc).toArray 100)
  have x2 := ext_alloc (w.alloc (.cells (thCells N rs RA rc ov OA oc).toArray 100)) (.cells #[.slice none 0 0, .slice none 0 0] 107)
  have HX := Lib.hid (ext_trans x1 x2)
  have HT := Lib.hid (blk_ext (Blk.new w 100 (thCells N rs RA rc ov OA oc)) x2)
  have HK := Lib.hid (show Blk ((w.alloc (.cells (thCells N rs RA rc ov OA oc).toArray 100)).alloc (.cells #[.slice none 0 0, .slice none 0 0] 107)) (w.heap.size + 1) 107 [.slice none 0 0, .slice none 0 0] by simpa using Blk.new (w.alloc (.cells (thCells N rs RA rc ov OA oc).toArray 100)) 107 [.slice none 0 0, .slice none 0 0])
  have HV := Lib.hid (valid_any N rs RA rc ov hov OA oc _ _ _ _ _ (hR.ext (ext_trans x1 x2)) (hO.ext (ext_trans x1 x2)) (hE.ext (ext_trans x1 x2)))
  clear hR hO hE x1 x2
  go_enter Tryd.func49, Tryd.ntmps49
  go_wp2_with fail
  refine HV.out.mono ?_
  rintro e w1 ⟨ev, rfl, hv, hb⟩
  have HVO := Lib.hid hv
  have HB1 := Lib.hid hb
  have HK1 := Lib.hid (blk_ext HK.out hb)
  rcases vout_err hv with ⟨hn, a, rfl⟩ | ⟨hr, rfl⟩
  · have HN := Lib.hid hn
    have k0 := HK1.out.cell 0 rfl
    have k1 := HK1.out.cell 1 rfl
    have f0 := HK1.out.free 0
    have f1 := HK1.out.free 1
    unfold errV
    clear hv hb hn
    go_wp2_with fail
    have s0 : (w1.setCell ⟨w.heap.size + 1, 0, none⟩ (.slice none 0 0)).cell? ⟨w.heap.size + 1, 0, none⟩ = some (.slice none 0 0) := Rings.cell_set_same k0 _
    have s1 : ((w1.setCell ⟨w.heap.size + 1, 0, none⟩ (.slice none 0 0)).setCell ⟨w.heap.size + 1, 1, none⟩ (.slice none 0 0)).cell? ⟨w.heap.size + 1, 1, none⟩ = some (.slice none 0 0) := Rings.cell_set_same (u := .slice none 0 0) (by rw [World.cell?_setCell_other _ _ _ _ (by simp)]; exact k1) _
    refine bodyPost_ret (v := .tuple #[.agg #[.slice none 0 0, .slice none 0 0], .iface 230 (.pointer (some a))]) (by simp [results, Tryd.results49, go_sem, s0, s1]) rfl ⟨_, _, rfl, ?_, .inl ⟨HN.out, HVO.out, ⟨a, rfl⟩, rfl⟩⟩
    exact ((HX.out.trans (HB1.out.mono HX.out.size)).setCell (by simp) _).setCell (by simp) _
  · have HRt := Lib.hid hr
    obtain ⟨n, hn⟩ : ∃ n : Nat, N = n := ⟨N.toNat, by have := hr.names; omega⟩
    subst hn
    have hn2 := hr.names
    have hR1 := HR.out.ext (ext_trans HX.out hb)
    have hO1 := HO.out.ext (ext_trans HX.out hb)
    have HR1 := Lib.hid hR1
    have hpre := rings_pre hr.b hr.n
    have HNew := Lib.hid (newsol_any n (by omega) rs RA rc ov hpre.2.1 (fun x hx => by have := hpre.2.2 x hx; exact ⟨Go.WalkArith.wf_i64 (by omega), Go.WalkArith.wf_i64 (by omega)⟩) OA oc w1 hO1)
    have HT1 := Lib.hid (blk_ext HT.out hb)
    have t0 := HT1.out.cell 0 rfl
    have t1 := HT1.out.cell 1 rfl
    have t2 := HT1.out.cell 2 rfl
    clear hv hb hr hR1 hO1 hpre hn2
    go_wp2_with fail
    refine HNew.out.mono ?_
    rintro e w2 ⟨sb, hb, rfl, hns⟩
    have HNS := Lib.hid hns
    have HP := Lib.hid (mkP_ok HRt.out HR1.out hns)
    have HSv := Lib.hid (mkP_sv HR1.out hns)
    have HRun := Lib.hid (run_any (mkP w1 n rs RA rc ov OA oc sb hb) HP.out w1.heap.size (show w1.heap.size ≤ w1.heap.size + 3 by omega) 100 #[] _ (teller _ _) _ _ w2 hns.below.size ⟨HSv.out, ⟨[], trivial, by rw [stOf_zeros]; exact Told.nil⟩, Below.refl _ _⟩)
    clear hns t0 t1 t2
    go_wp2_with fail
    refine HRun.out.mono ?_
    rintro e w3 ⟨⟨v3, rfl⟩, S, H, hrs, hfin⟩
    have HRS := Lib.hid hrs
    have HFi := Lib.hid hfin
    have y3 : w3.cell? ⟨w1.heap.size + 2, 3, none⟩ = some (.slice (some ⟨sb, 0, none⟩) (2 * n) (2 * n)) := hrs.sv.blk.cell 3 rfl
    have y4 : w3.cell? ⟨w1.heap.size + 2, 4, none⟩ = some (.slice (some ⟨hb, 0, none⟩) (2 * n) (2 * n)) := hrs.sv.blk.cell 4 rfl
    have HK3 := Lib.hid (show Blk w3 (w.heap.size + 1) 107 [.slice none 0 0, .slice none 0 0] from HK1.out.ext ((HNS.out.below.trans hrs.below).mono HK1.out.lt))
    have k0 := HK3.out.cell 0 rfl
    have k1 := HK3.out.cell 1 rfl
    have f0 := HK3.out.free 0
    have f1 := HK3.out.free 1
    clear hrs hfin
    go_wp2_with fail
    have s0 : (w3.setCell ⟨w.heap.size + 1, 0, none⟩ (.slice (some ⟨sb, 0, none⟩) (2 * n) (2 * n))).cell? ⟨w.heap.size + 1, 0, none⟩ = some (.slice (some ⟨sb, 0, none⟩) (2 * n) (2 * n)) := Rings.cell_set_same k0 _
    have s1 : ((w3.setCell ⟨w.heap.size + 1, 0, none⟩ (.slice (some ⟨sb, 0, none⟩) (2 * n) (2 * n))).setCell ⟨w.heap.size + 1, 1, none⟩ (.slice (some ⟨hb, 0, none⟩) (2 * n) (2 * n))).cell? ⟨w.heap.size + 1, 1, none⟩ = some (.slice (some ⟨hb, 0, none⟩) (2 * n) (2 * n)) := Rings.cell_set_same (u := .slice none 0 0) (by rw [World.cell?_setCell_other _ _ _ _ (by simp)]; exact k1) _
    refine bodyPost_ret (v := .tuple #[.agg #[.slice (some ⟨sb, 0, none⟩) (2 * n) (2 * n), .slice (some ⟨hb, 0, none⟩) (2 * n) (2 * n)], .nilIface]) (by simp [results, Tryd.results49, go_sem, s0, s1]) rfl ⟨_, _, rfl, ?_, .inr ⟨HRt.out, rfl, n, sb, hb, S, H, rfl, rfl, ?_, ?_, HRS.out.sv.ls, HRS.out.sv.lh, ?_, HFi.out⟩⟩
    · have hl := HX.out.size
      have h1 := (HX.out.trans (HB1.out.mono HX.out.size)).trans ((HNS.out.below.trans HRS.out.below).mono (Nat.le_trans HX.out.size HB1.out.size))
      exact (h1.setCell (by simp) _).setCell (by simp) _
    · have hne : sb ≠ w.heap.size + 1 := by have := HNS.out.l1; have := HK1.out.lt; omega
      exact blk_set (a := ⟨w.heap.size + 1, 1, none⟩) (blk_set (a := ⟨w.heap.size + 1, 0, none⟩) HRS.out.sv.sure hne _) hne _
    · have hne : hb ≠ w.heap.size + 1 := by have := HNS.out.l2; have := HK1.out.lt; omega
      exact blk_set (a := ⟨w.heap.size + 1, 1, none⟩) (blk_set (a := ⟨w.heap.size + 1, 0, none⟩) HRS.out.sv.holds hne _) hne _
    · obtain ⟨l, _, ht⟩ := HRS.out.told
      exact ht.good
end Go.Proofs.YtnbpdknmbjkfeaaDoor.Solve

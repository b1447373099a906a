/- A theory's solver is made. -/
import Derived.Test.YtjnkcpeicocjhaaDoorSol6
import Derived.Deep.RegionHeld3
import Derived.Laws.MakeOwn
import Derived.StillTailTactics
import Derived.RegionTactic
import Derived.Deep.DeepCutAuto
namespace Go.Proofs.YtjnkcpeicocjhaaDoor.Sol
open Go.RowKit Mem Thy Nest Day Thm MapSet

theorem int_info : (Tryd.prog.info? 3).map (fun i => (i.zero, i.size, i.bytes)) = some (some (.int .i64 0), 1, 8) := by kernel_rfl
theorem make_ints (n : Nat) (hn : n ≤ 1000000) (w : World) : (Instr.makeSlice 100 (.int .i64 (n : Int)) (.int .i64 (n : Int))).run Tryd.prog w = .ok (.slice (some ⟨w.heap.size, 0, none⟩) n n) (w.alloc (.cells (ints (List.replicate n 0)).toArray 3)) := by
  obtain ⟨i0, hi, hz0, hz1, hz2⟩ := info_parts int_info
  have h := run_makeSlice (P := Tryd.prog) w 100 3 i0 _ Tryd.underlying100 hi hz0 .i64 .i64 n n (by omega) (by omega) (by rw [hz1]; simp; omega) (by rw [hz2]; omega) (by omega)
  rw [hz1] at h
  simp only [Int.toNat_natCast, Nat.mul_one] at h
  have e : madeCells (Value.int .i64 0).cells n = (ints (List.replicate n 0)).toArray := by
    apply Array.ext
    · simp [madeCells, ints]
    · intro j h1 h2
      simp [madeCells, ints, Value.cells, Nat.mod_one]
  rw [e] at h
  exact h
theorem alloc5 (w : World) (a b c d e : Obj) : ∃ W, W = (((((w.alloc a).alloc b).alloc c).alloc d).alloc e) ∧ W.heap[w.heap.size]? = some a ∧ W.heap[w.heap.size + 2]? = some c ∧ W.heap[w.heap.size + 3]? = some d ∧ W.heap[w.heap.size + 4]? = some e ∧ Below w.heap.size w W ∧ Below (w.heap.size + 2) ((w.alloc a).alloc b) W := by
  have x1 := ext_alloc w a
  have x2 := ext_alloc (w.alloc a) b
  have x3 := ext_alloc ((w.alloc a).alloc b) c
  have x4 := ext_alloc (((w.alloc a).alloc b).alloc c) d
  have x5 := ext_alloc ((((w.alloc a).alloc b).alloc c).alloc d) e
  have y45 := ext_trans x4 x5
  have y35 := ext_trans x3 y45
  have s1 : (w.alloc a).heap.size = w.heap.size + 1 := by simp
  have s2 : ((w.alloc a).alloc b).heap.size = w.heap.size + 2 := by simp
  have s3 : (((w.alloc a).alloc b).alloc c).heap.size = w.heap.size + 3 := by simp
  have s4 : ((((w.alloc a).alloc b).alloc c).alloc d).heap.size = w.heap.size + 4 := by simp
  refine ⟨_, rfl, ?_, ?_, ?_, ?_, ext_trans x1 (ext_trans x2 y35), s2 ▸ y35⟩
  · rw [(ext_trans x2 y35).block _ (by omega)]; exact heap_alloc_new w a
  · have h := heap_alloc_new ((w.alloc a).alloc b) c
    rw [s2] at h
    rw [y45.block _ (by omega)]; exact h
  · have h := heap_alloc_new (((w.alloc a).alloc b).alloc c) d
    rw [s3] at h
    rw [x5.block _ (by omega)]; exact h
  · have h := heap_alloc_new ((((w.alloc a).alloc b).alloc c).alloc d) e
    rw [s4] at h
    exact h
def solCells (N : Nat) (rs : List Rw) (RA : Option Addr) (rc : Nat) (ov : List (Int × Int)) (OA : Option Addr) (oc mb sb hb : Nat) : List Value := [.int .i64 N, .slice RA rs.length rc, .slice OA ov.length oc, .slice (some ⟨sb, 0, none⟩) (2 * N) (2 * N), .slice (some ⟨hb, 0, none⟩) (2 * N) (2 * N), .map (some mb)]
/-- the solver that is being made, and the pairs that are in its map -/
structure NS (w wr : World) (N : Nat) (rs : List Rw) (RA : Option Addr) (rc : Nat) (ov : List (Int × Int)) (OA : Option Addr) (oc sb hb j : Nat) : Prop where
  below : Below w.heap.size w wr
  th : Blk wr w.heap.size 71 [.int .i64 N, .slice RA rs.length rc, .slice OA ov.length oc]
  sv : Blk wr (w.heap.size + 2) 170 (solCells N rs RA rc ov OA oc (w.heap.size + 1) sb hb)
  s : Blk wr sb 3 (ints (List.replicate (2 * N) 0))
  h : Blk wr hb 3 (ints (List.replicate (2 * N) 0))
  m : SetM Tryd.prog 145 4 wr (w.heap.size + 1) j (fun v => ∃ x ∈ ov.take j, v = pairVal x)
  l1 : w.heap.size + 3 ≤ sb
  l2 : w.heap.size + 3 ≤ hb
  ne : sb ≠ hb
section
variable {w wr w1 : World} {N : Nat} {rs : List Rw} {RA : Option Addr} {rc : Nat} {ov : List (Int × Int)} {OA : Option Addr} {oc sb hb j : Nat}
theorem NS.ext (x : NS w wr N rs RA rc ov OA oc sb hb j) (hb' : Below wr.heap.size wr w1) : NS w w1 N rs RA rc ov OA oc sb hb j :=
  ⟨ext_trans x.below hb', blk_ext x.th hb', blk_ext x.sv hb', blk_ext x.s hb', blk_ext x.h hb', x.m.ext hb', x.l1, x.l2, x.ne⟩
theorem blk_grown {B row : Nat} {T : TypeId} {cs : List Value} (h : Blk wr B T cs) (hg : wr.grownBy w1 (some row)) (hne : B ≠ row) : Blk w1 B T cs := by
  have hl := h.lt
  unfold Blk at h ⊢
  rw [hg.block B hl (by simpa using hne)]
  exact h
theorem NS.put (x : NS w wr N rs RA rc ov OA oc sb hb j) (hj : j < ov.length) (hs : SetM Tryd.prog 145 4 w1 (w.heap.size + 1) (j + 1) (fun v => v = pairVal ov[j] ∨ ∃ x ∈ ov.take j, v = pairVal x)) (hg : wr.grownBy w1 (some (w.heap.size + 1))) :
    NS w w1 N rs RA rc ov OA oc sb hb (j + 1) := by
  have l1 := x.l1
  have l2 := x.l2
  refine ⟨x.below.trans (grown_keep hg (by omega) x.below.size), blk_grown x.th hg (by omega), blk_grown x.sv hg (by omega), blk_grown x.s hg (by omega), blk_grown x.h hg (by omega), hs.congr fun v => ?_, l1, l2, x.ne⟩
  rw [List.take_succ_eq_append_getElem hj]
  constructor
  · rintro (rfl | ⟨y, hy, rfl⟩)
    · exact ⟨ov[j], List.mem_append_right _ (List.mem_singleton.2 rfl), rfl⟩
    · exact ⟨y, List.mem_append_left _ hy, rfl⟩
  · rintro ⟨y, hy, rfl⟩
    rcases List.mem_append.1 hy with hy | hy
    · exact .inr ⟨y, hy, rfl⟩
    · simp at hy
      subst hy
      exact .inl rfl
end
def NewPost (N : Nat) (rs : List Rw) (RA : Option Addr) (rc : Nat) (ov : List (Int × Int)) (OA : Option Addr) (oc : Nat) (w : World) (e : Ending) (w' : World) : Prop :=
  ∃ sb hb, e = .returned (.pointer (some ⟨w.heap.size + 2, 0, none⟩)) ∧ NS w w' N rs RA rc ov OA oc sb hb ov.length
set_option maxRecDepth 100000 in
set_option maxHeartbeats 2000000 in
theorem newsol_any (N : Nat) (hN : N ≤ 120) (rs : List Rw) (RA : Option Addr) (rc : Nat) (ov : List (Int × Int)) (hov : ov.length ≤ 1200) (hwf : ∀ x ∈ ov, (Lit.int .i64 x.1).wf = true ∧ (Lit.int .i64 x.2).wf = true) (OA : Option Addr) (oc : Nat) (w : World) (hO : Rd w OA (ov.flatMap prCells)) :
    Calls Tryd.prog 50 #[.agg #[.int .i64 N, .slice RA rs.length rc, .slice OA ov.length oc]] w (NewPost N rs RA rc ov OA oc w) := by
  have HO := Lib.hid hO
  have HWF := Lib.hid hwf
  obtain ⟨M, hM⟩ : ∃ M : Nat, M = 2 * N := ⟨_, rfl⟩
  have hw2 : IntKind.i64.wrap (2 * (N : Int)) = (M : Int) := by rw [IntWalk.i64_in _ (by omega)]; omega
  have hM' : M ≤ 240 := by omega
  have hmk : ∀ w', (Instr.makeSlice 100 (.int .i64 (M : Int)) (.int .i64 (M : Int))).run Tryd.prog w' = .ok (.slice (some ⟨w'.heap.size, 0, none⟩) M M) (w'.alloc (.cells (ints (List.replicate M 0)).toArray 3)) := make_ints M (by omega)
  have hcell0 : (w.alloc (.cells #[.int .i64 N, .slice RA rs.length rc, .slice OA ov.length oc] 71)).cell? ⟨w.heap.size, 0, none⟩ = some (.int .i64 N) := by rw [World.cell?_alloc_at _ _ _ _ rfl]; rfl
  have HM := Lib.hid hM
  have HMC := Lib.hid (SetM.made (P := Tryd.prog) (k := 145) (e := 4) (w.alloc (.cells #[.int .i64 N, .slice RA rs.length rc, .slice OA ov.length oc] 71)))
  clear hM hO hwf
  have hmm := @run_makeMap Tryd.prog
  go_enter Tryd.func50, Tryd.ntmps50
  go_upto_region 2 with fail
  go_cut [] (fun wx => ∃ sb hb, Hid (NS w wx N rs RA rc ov OA oc sb hb 0))
  case first =>
    go_region_held3 (fun w' => w'.cell? ⟨w.heap.size, 0, none⟩ = some (.int .i64 N)) ((simp only [World.cell?_drew]; repeat (first | exact hcell0 | refine cell_ext (ext_alloc _ _) ?_))) (fail)
    all_goals
      go_wp2_with fail
      go_meet
      have hm := HM.out
      subst hm
    · obtain ⟨W, hW, h1, h2, h3, h4, h5, h6⟩ := alloc5 w (.cells #[.int .i64 N, .slice RA rs.length rc, .slice OA ov.length oc] 71) (.map #[] 0) (.cells (solCells N rs RA rc ov OA oc (w.heap.size + 1) (w.heap.size + 3) (w.heap.size + 4)).toArray 170) (.cells (ints (List.replicate (2 * N) 0)).toArray 3) (.cells (ints (List.replicate (2 * N) 0)).toArray 3)
      refine ⟨w.heap.size + 3, w.heap.size + 4, ?_⟩
      have hs := SetM.keep (b := w.heap.size + 1) (by simpa using HMC.out) (show w.heap.size + 1 < w.heap.size + 2 by omega) h6
      subst hW
      exact ⟨below_drewN h5 1, h1, h2, h3, h4, hs.congr fun v => by simp, by omega, by omega, by omega⟩
    · obtain ⟨W, hW, h1, h2, h3, h4, h5, h6⟩ := alloc5 w (.cells #[.int .i64 N, .slice RA rs.length rc, .slice OA ov.length oc] 71) (.map #[] 0) (.cells (solCells N rs RA rc ov OA oc (w.heap.size + 1) (w.heap.size + 4) (w.heap.size + 3)).toArray 170) (.cells (ints (List.replicate (2 * N) 0)).toArray 3) (.cells (ints (List.replicate (2 * N) 0)).toArray 3)
      refine ⟨w.heap.size + 4, w.heap.size + 3, ?_⟩
      have hs := SetM.keep (b := w.heap.size + 1) (by simpa using HMC.out) (show w.heap.size + 1 < w.heap.size + 2 by omega) h6
      subst hW
      exact ⟨below_drewN h5 1, h1, h2, h4, h3, hs.congr fun v => by simp, by omega, by omega, by omega⟩
  case rest =>
    obtain ⟨sb, hb, HN⟩ := hcut
    have x2 := HN.out.th.cell 2 rfl
    clear hcell0 hmk hw2 hmm HMC
    go_wp2_with fail
    clear x2
    go_loopw [25] (fun c wr => ∃ j : Nat, j ≤ ov.length ∧ c = .int .i64 j ∧ Hid (NS w wr N rs RA rc ov OA oc sb hb j)) (fun c _ => ov.length - (intOf c).toNat)
    case atStart => exact ⟨0, Nat.zero_le _, rfl, HN⟩
    case round =>
      clear HN
      obtain ⟨j, hj, rfl, HN⟩ := hrel
      by_cases hlt : j < ov.length
      · obtain ⟨b, o, rfl, r0, r1⟩ := pair_at (HO.out.ext HN.out.below) hlt
        have hwx := HWF.out _ (List.getElem_mem hlt)
        obtain ⟨kl, hkl⟩ := pair_key ov[j].1 ov[j].2 hwx.1 hwx.2
        have HKL := Lib.hid hkl
        have HWx := Lib.hid (HN.out.ext (ext_alloc wr (.cells #[.int .i64 ov[j].1, .int .i64 ov[j].2] 145)))
        have v0 : (wr.alloc (.cells #[.int .i64 ov[j].1, .int .i64 ov[j].2] 145)).cell? ⟨wr.heap.size, 0, none⟩ = some (.int .i64 ov[j].1) := by rw [World.cell?_alloc_at _ _ _ _ rfl]; rfl
        have v1 : (wr.alloc (.cells #[.int .i64 ov[j].1, .int .i64 ov[j].2] 145)).cell? ⟨wr.heap.size, 1, none⟩ = some (.int .i64 ov[j].2) := by rw [World.cell?_alloc_at _ _ _ _ rfl]; rfl
        have hsz : wr.heap.size < (wr.alloc (.cells #[.int .i64 ov[j].1, .int .i64 ov[j].2] 145)).heap.size := by simp
        have hb0 : w.heap.size + 2 < wr.heap.size := HN.out.sv.lt
        clear hwx hkl
        go_wp2_with fail
        clear r0 r1
        generalize (wr.alloc (.cells #[.int .i64 ov[j].1, .int .i64 ov[j].2] 145)) = W at *
        have y := HWx.out.sv.cell 5 rfl
        have hb1 := HWx.out.sv.lt
        have HWd := Lib.hid (show NS w W.drew N rs RA rc ov _ oc sb hb j from HWx.out.ext (ext_drewN W 1))
        obtain ⟨w1, hrun, hs, hg⟩ := HWd.out.m.update pair_law Tryd.underlying166 Tryd.underlying4 (by unfold maxLen; omega) HKL.out
        have hrun : (Instr.mapUpdate 166 (.map (some (w.heap.size + 1))) (.agg #[.int .i64 ov[j].1, .int .i64 ov[j].2]) (.bool true)).run Tryd.prog W.drew = .ok () w1 := hrun
        have HP := Lib.hid (HWd.out.put hlt hs hg)
        have HK := Lib.hid (show w1.cell? ⟨w.heap.size + 2, 5, none⟩ = some (.map (some (w.heap.size + 1))) ∧ w1.cell? ⟨wr.heap.size, 0, none⟩ = some (.int .i64 ov[j].1) ∧ w1.cell? ⟨wr.heap.size, 1, none⟩ = some (.int .i64 ov[j].2) from
          ⟨hg.cell (show W.drew.cell? ⟨w.heap.size + 2, 5, none⟩ = _ from y) (by simp), hg.cell (show W.drew.cell? ⟨wr.heap.size, 0, none⟩ = _ from v0) (by simp; omega), hg.cell (show W.drew.cell? ⟨wr.heap.size, 1, none⟩ = _ from v1) (by simp; omega)⟩)
        clear hs hg
        go_region_held3 (fun w' => w'.cell? ⟨w.heap.size + 2, 5, none⟩ = some (.map (some (w.heap.size + 1))) ∧ w'.cell? ⟨wr.heap.size, 0, none⟩ = some (.int .i64 ov[j].1) ∧ w'.cell? ⟨wr.heap.size, 1, none⟩ = some (.int .i64 ov[j].2))
          ((first | exact ⟨y, v0, v1⟩ | exact HK.out))
          (fail)
        go_wp2_with fail
        go_roundw
        case rel => exact ⟨j + 1, by omega, by go_num, HP⟩
        case measure => simp [intOf]; omega
      · obtain rfl : ov.length = j := by omega
        go_wp2_with fail
        go_ret
        exact ⟨sb, hb, rfl, HN.out⟩
end Go.Proofs.YtjnkcpeicocjhaaDoor.Sol

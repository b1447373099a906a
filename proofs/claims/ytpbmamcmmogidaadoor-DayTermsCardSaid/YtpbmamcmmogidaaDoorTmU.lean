/- Terms' texts: both sides' text of any term. -/
import Derived.Test.YtpbmamcmmogidaaDoorTmT
namespace Go.Proofs.YtpbmamcmmogidaaDoor.Tm
open Go.RowKit Mem Nest Cn Err Flt Rd Tabs

set_option maxHeartbeats 1000000 in
theorem ptt_no (n u r : Int) (hv : ¬ Vt n u r) (A : Nat → Addr) (w : World) (hE : Errs w A) :
    Calls Tryd.prog 22 #[.agg #[.int .i64 n, .int .i64 u, .int .i64 r]] w (StrPost [] w) := by
  have hb := ext_alloc w (.cells (List.toArray [.int .i64 n, .int .i64 u, .int .i64 r]) 46)
  have b := Blk.new w 46 [.int .i64 n, .int .i64 u, .int .i64 r]
  obtain ⟨W, hW⟩ : ∃ W, W = w.alloc (.cells (List.toArray [.int .i64 n, .int .i64 u, .int .i64 r]) 46) := ⟨_, rfl⟩
  rw [← hW] at hb b
  have HE := Lib.hid (hE.below hb)
  have HB := Lib.hid hb
  have HV := Lib.hid hv
  have c0 := b.cell 0 rfl
  have c1 := b.cell 1 rfl
  have c2 := b.cell 2 rfl
  clear hb b hE hv
  go_enter Tryd.func22, Tryd.ntmps22
  go_wp2_with fail
  rw [show w.alloc (.cells #[.int .i64 n, .int .i64 u, .int .i64 r] 46) = W from hW.symm]
  clear hW
  refine (valid_any n u r A _ HE.out).mono ?_
  rintro e w1 ⟨v, rfl, hv, hb1⟩
  obtain ⟨a, rfl⟩ : ∃ a, v = sentV a := by
    rcases hv with ⟨h, _⟩ | ⟨_, h⟩
    · exact absurd h HV.out
    · exact h
  have HB1 := Lib.hid (ext_trans HB.out hb1)
  clear hv hb1
  unfold sentV
  go_wp2_with fail
  go_ret
  exact ⟨rfl, HB1.out⟩
theorem ptt_any (n u r : Int) (A : Nat → Addr) (w : World) (hE : Errs w A) (hp : Pow w) :
    Calls Tryd.prog 22 #[.agg #[.int .i64 n, .int .i64 u, .int .i64 r]] w (StrPost (tT n u r) w) := by
  by_cases hv : Vt n u r
  · rw [tT_yes hv]
    obtain ⟨⟨h1, h2⟩, ⟨h3, h4⟩, h5, h6⟩ := hv
    have h := ptt_yes n.toNat u.toNat r (by omega) (by omega) (by omega) A w hE hp
    rwa [Int.toNat_of_nonneg h1, Int.toNat_of_nonneg h3] at h
  · rw [tT_no hv]
    exact ptt_no n u r hv A w hE
set_option maxHeartbeats 4000000 in
theorem rtt_no (n u r : Int) (hv : ¬ Vt n u r) (w : World) :
    Calls Tryd.prog 23 #[.agg #[.int .i64 n, .int .i64 u, .int .i64 r]] w (StrPost [] w) := by
  have hx := Blk.new w 45 [.int .i64 n, .int .i64 u, .int .i64 r]
  have hb := ext_alloc w (.cells #[.int .i64 n, .int .i64 u, .int .i64 r] 45)
  have c0 := hx.cell 0 rfl
  have c1 := hx.cell 1 rfl
  have c2 := hx.cell 2 rfl
  have HB := Lib.hid hb
  clear hx hb
  by_cases h1 : n < 0
  · clear hv
    go_enter Tryd.func23, Tryd.ntmps23
    go_wp2_with fail
    go_ret
    exact ⟨rfl, HB.out⟩
  by_cases h2 : 100000 < n
  · clear hv
    go_enter Tryd.func23, Tryd.ntmps23
    go_wp2_with fail
    go_ret
    exact ⟨rfl, HB.out⟩
  by_cases h3 : u < 0
  · clear hv
    go_enter Tryd.func23, Tryd.ntmps23
    go_wp2_with fail
    go_ret
    exact ⟨rfl, HB.out⟩
  by_cases h4 : 4 < u
  · clear hv
    go_enter Tryd.func23, Tryd.ntmps23
    go_wp2_with fail
    go_ret
    exact ⟨rfl, HB.out⟩
  by_cases h5 : r < 0
  · clear hv
    go_enter Tryd.func23, Tryd.ntmps23
    go_wp2_with fail
    go_ret
    exact ⟨rfl, HB.out⟩
  by_cases h6 : 2 < r
  · clear hv
    go_enter Tryd.func23, Tryd.ntmps23
    go_wp2_with fail
    go_ret
    exact ⟨rfl, HB.out⟩
  exact absurd (show Vt n u r by unfold Vt; omega) hv
theorem tt_app1 (l m : List UInt8) : (ByteArray.mk l.toArray ++ ⟨#[32]⟩ ++ ⟨m.toArray⟩ : ByteArray) = ⟨(l ++ [32] ++ m).toArray⟩ := by
  apply ByteArray.ext
  simp
set_option maxHeartbeats 4000000 in
theorem rtt_yes (n u : Nat) (r : Int) (hn : n ≤ 100000) (hu : u ≤ 4) (hr : r = 0 ∨ r = 1 ∨ r = 2) (w : World) :
    Calls Tryd.prog 23 #[.agg #[.int .i64 (n : Int), .int .i64 (u : Int), .int .i64 r]] w (StrPost (Lib.decDigits n ++ [32] ++ wd u ++ sufW r) w) := by
  have hx1 := ext_alloc w (.cells (List.toArray [.int .i64 (n : Int), .int .i64 (u : Int), .int .i64 r]) 45)
  have bT := Blk.new w 45 [.int .i64 (n : Int), .int .i64 (u : Int), .int .i64 r]
  obtain ⟨W1, hW1⟩ : ∃ W1, W1 = w.alloc (.cells (List.toArray [.int .i64 (n : Int), .int .i64 (u : Int), .int .i64 r]) 45) := ⟨_, rfl⟩
  rw [← hW1] at hx1 bT
  have z0 := bT.cell 0 rfl
  have z1 := bT.cell 1 rfl
  have z2 := bT.cell 2 rfl
  have hx2 := ext_alloc W1 (.cells (List.toArray [strV (wd 0), strV (wd 1), strV (wd 2), strV (wd 3), strV (wd 4)]) 9)
  have bU := units_at (Blk.new W1 9 [strV (wd 0), strV (wd 1), strV (wd 2), strV (wd 3), strV (wd 4)])
  have hT := bT.ext (hx2.mono (show w.heap.size + 1 ≤ _ from bT.lt))
  have hsz1 : W1.heap.size = w.heap.size + 1 := by rw [hW1]; simp
  have hX := ext_trans hx1 hx2
  obtain ⟨W2, hW2⟩ : ∃ W2, W2 = W1.alloc (.cells (List.toArray [strV (wd 0), strV (wd 1), strV (wd 2), strV (wd 3), strV (wd 4)]) 9) := ⟨_, rfl⟩
  rw [← hW2] at bU hT hX
  rw [hsz1] at bU
  have r0 := bU u (by omega)
  unfold strV at r0
  have d0 := hT.cell 0 rfl
  have d1 := hT.cell 1 rfl
  have d2 := hT.cell 2 rfl
  have HB := Lib.hid hX
  clear hx1 bT hx2 bU hT hX hsz1
  have hd := digs_len hn
  have HI := Lib.hid (fun w => decimal_any n (by omega) w)
  obtain ⟨l, hl⟩ : ∃ l, l = Lib.decDigits n := ⟨_, rfl⟩
  rw [← hl] at HI hd ⊢
  clear hl
  have hwl := wdl u
  have hn0 : ¬ (n : Int) < 0 := by omega
  have hn5 : ¬ (100000 : Int) < (n : Int) := by omega
  have hu0 : (0 : Int) ≤ (u : Int) := by omega
  have hu4 : ¬ (4 : Int) < (u : Int) := by omega
  have hu5 : (u : Int) < 5 := by omega
  have hx1 : ¬ 9223372036854775807 < l.length + 1 := by omega
  have hx2 : ¬ 9223372036854775807 < l.length + 1 + (wd u).length := by omega
  have hx3 : ¬ 9223372036854775807 < l.length + 1 + (wd u).length + 6 := by omega
  have hx4 : ¬ 9223372036854775807 < l.length + 1 + (wd u).length + 8 := by omega
  rcases hr with rfl | rfl | rfl
  · go_enter Tryd.func23, Tryd.ntmps23
    go_upto_region 4 with fail
    rw [show w.alloc (.cells #[.int .i64 (n : Int), .int .i64 (u : Int), .int .i64 0] 45) = W1 from hW1.symm]
    rw [show W1.alloc (.cells #[.string ⟨#[100, 97, 121, 115]⟩, .string ⟨#[119, 111, 114, 107, 105, 110, 103, 32, 100, 97, 121, 115]⟩, .string ⟨#[119, 101, 101, 107, 115]⟩, .string ⟨#[109, 111, 110, 116, 104, 115]⟩, .string ⟨#[121, 101, 97, 114, 115]⟩] 9) = W2 from hW2.symm]
    clear hW1 hW2
    go_region_held3 (fun w' => w'.cell? ⟨w.heap.size, 0, none⟩ = some (.int .i64 (n : Int)) ∧ w'.cell? ⟨w.heap.size, 1, none⟩ = some (.int .i64 (u : Int)) ∧ w'.cell? ⟨w.heap.size + 1, u, none⟩ = some (.string ⟨(wd u).toArray⟩))
      ((first | exact ⟨cell_ext HB2.out d0, cell_ext HB2.out d1, cell_ext HB2.out r0⟩ | exact ⟨cell_ext (show Below W2.heap.size W2 W2.drew from ext_drewN W2 1) d0, cell_ext (show Below W2.heap.size W2 W2.drew from ext_drewN W2 1) d1, cell_ext (show Below W2.heap.size W2 W2.drew from ext_drewN W2 1) r0⟩))
      ((go_at_call 86; refine (HI.out _).mono ?_; rintro e w2 ⟨rfl, hb2⟩; have HB2 := Lib.hid (ext_trans (show Below W2.heap.size W2 W2.drew from ext_drewN W2 1) hb2); clear hb2))
    have e2 := cell_ext HB2.out d2
    go_wp2_with fail
    go_ret
    exact ⟨congrArg (fun x => Ending.returned (.string x)) (by rw [show sufW 0 = [] from rfl, List.append_nil]; exact tt_app1 l (wd u)), ext_trans HB.out HB2.out⟩
  · go_enter Tryd.func23, Tryd.ntmps23
    go_upto_region 4 with fail
    rw [show w.alloc (.cells #[.int .i64 (n : Int), .int .i64 (u : Int), .int .i64 1] 45) = W1 from hW1.symm]
    rw [show W1.alloc (.cells #[.string ⟨#[100, 97, 121, 115]⟩, .string ⟨#[119, 111, 114, 107, 105, 110, 103, 32, 100, 97, 121, 115]⟩, .string ⟨#[119, 101, 101, 107, 115]⟩, .string ⟨#[109, 111, 110, 116, 104, 115]⟩, .string ⟨#[121, 101, 97, 114, 115]⟩] 9) = W2 from hW2.symm]
    clear hW1 hW2
    go_region_held3 (fun w' => w'.cell? ⟨w.heap.size, 0, none⟩ = some (.int .i64 (n : Int)) ∧ w'.cell? ⟨w.heap.size, 1, none⟩ = some (.int .i64 (u : Int)) ∧ w'.cell? ⟨w.heap.size + 1, u, none⟩ = some (.string ⟨(wd u).toArray⟩))
      ((first | exact ⟨cell_ext HB2.out d0, cell_ext HB2.out d1, cell_ext HB2.out r0⟩ | exact ⟨cell_ext (show Below W2.heap.size W2 W2.drew from ext_drewN W2 1) d0, cell_ext (show Below W2.heap.size W2 W2.drew from ext_drewN W2 1) d1, cell_ext (show Below W2.heap.size W2 W2.drew from ext_drewN W2 1) r0⟩))
      ((go_at_call 86; refine (HI.out _).mono ?_; rintro e w2 ⟨rfl, hb2⟩; have HB2 := Lib.hid (ext_trans (show Below W2.heap.size W2 W2.drew from ext_drewN W2 1) hb2); clear hb2))
    have e2 := cell_ext HB2.out d2
    go_wp2_with fail
    go_ret
    exact ⟨congrArg (fun x => Ending.returned (.string x)) (tt_app l (wd u) 1 ⟨#[44, 32, 110, 101, 120, 116]⟩ rfl), ext_trans HB.out HB2.out⟩
  · go_enter Tryd.func23, Tryd.ntmps23
    go_upto_region 4 with fail
    rw [show w.alloc (.cells #[.int .i64 (n : Int), .int .i64 (u : Int), .int .i64 2] 45) = W1 from hW1.symm]
    rw [show W1.alloc (.cells #[.string ⟨#[100, 97, 121, 115]⟩, .string ⟨#[119, 111, 114, 107, 105, 110, 103, 32, 100, 97, 121, 115]⟩, .string ⟨#[119, 101, 101, 107, 115]⟩, .string ⟨#[109, 111, 110, 116, 104, 115]⟩, .string ⟨#[121, 101, 97, 114, 115]⟩] 9) = W2 from hW2.symm]
    clear hW1 hW2
    go_region_held3 (fun w' => w'.cell? ⟨w.heap.size, 0, none⟩ = some (.int .i64 (n : Int)) ∧ w'.cell? ⟨w.heap.size, 1, none⟩ = some (.int .i64 (u : Int)) ∧ w'.cell? ⟨w.heap.size + 1, u, none⟩ = some (.string ⟨(wd u).toArray⟩))
      ((first | exact ⟨cell_ext HB2.out d0, cell_ext HB2.out d1, cell_ext HB2.out r0⟩ | exact ⟨cell_ext (show Below W2.heap.size W2 W2.drew from ext_drewN W2 1) d0, cell_ext (show Below W2.heap.size W2 W2.drew from ext_drewN W2 1) d1, cell_ext (show Below W2.heap.size W2 W2.drew from ext_drewN W2 1) r0⟩))
      ((go_at_call 86; refine (HI.out _).mono ?_; rintro e w2 ⟨rfl, hb2⟩; have HB2 := Lib.hid (ext_trans (show Below W2.heap.size W2 W2.drew from ext_drewN W2 1) hb2); clear hb2))
    have e2 := cell_ext HB2.out d2
    go_wp2_with fail
    go_ret
    exact ⟨congrArg (fun x => Ending.returned (.string x)) (tt_app l (wd u) 2 ⟨#[44, 32, 98, 101, 102, 111, 114, 101]⟩ rfl), ext_trans HB.out HB2.out⟩
theorem rtt_any (n u r : Int) (w : World) :
    Calls Tryd.prog 23 #[.agg #[.int .i64 n, .int .i64 u, .int .i64 r]] w (StrPost (tT n u r) w) := by
  by_cases hv : Vt n u r
  · rw [tT_yes hv]
    obtain ⟨⟨h1, h2⟩, ⟨h3, h4⟩, h5, h6⟩ := hv
    have h := rtt_yes n.toNat u.toNat r (by omega) (by omega) (by omega) w
    rwa [Int.toNat_of_nonneg h1, Int.toNat_of_nonneg h3] at h
  · rw [tT_no hv]
    exact rtt_no n u r hv w
end Go.Proofs.YtpbmamcmmogidaaDoor.Tm

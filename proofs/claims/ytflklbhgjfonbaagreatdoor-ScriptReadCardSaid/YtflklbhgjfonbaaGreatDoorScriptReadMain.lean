/- The law ScriptRead, walked. -/
import Derived.Test.YtflklbhgjfonbaaGreatDoorScH
namespace Go.Proofs.YtflklbhgjfonbaaGreatDoor.ScriptRead
open Go.RowKit Mem Nest Fk Err Lk Gp Flt Sc

set_option maxRecDepth 100000 in
set_option maxHeartbeats 2000000 in
theorem sr_walk (s : List UInt8) (hs : s.length ≤ 9223372036854775807) (E : Nat → Addr) (mx : Int) (w : World) (hE : Errs w E) (hm : w.cell? ⟨14, 0, none⟩ = some (.int .i64 mx)) :
    Calls Tryz.prog 3 #[.string ⟨s.toArray⟩] w (RetG true w) := by
  have HE := Lib.hid hE
  have HM := Lib.hid hm
  have HL := Lib.hid (live_any E mx w hE hm)
  clear hE hm
  go_enter Tryz.func3, Tryz.ntmps3
  go_wp2_with fail
  refine HL.out.mono ?_
  rintro e w1 ⟨rfl, hb1⟩
  have HB1 := Lib.hid hb1
  clear hb1
  have hsI : (0 : Int) ≤ (s.length : Int) := by omega
  by_cases g1 : 3000 < s.length ∧ s.length ≤ 30000
  · have g1' : (3000 : Int) < (s.length : Int) := by omega
    have g2' : (s.length : Int) ≤ 30000 := by omega
    clear g1
    go_wp2_with fail
    go_ret
    exact ⟨rfl, HB1.out⟩
  · have HR := Lib.hid (pread2 E s hs mx w1 (HE.out.below HB1.out) (cell_ext HB1.out HM.out))
    obtain ⟨t, ht⟩ : ∃ t, t = (outF s).1 := ⟨_, rfl⟩
    obtain ⟨c, hc⟩ : ∃ c, c = (outF s).2.1 := ⟨_, rfl⟩
    obtain ⟨a, ha⟩ : ∃ a, a = (outF s).2.2 := ⟨_, rfl⟩
    have HD := Lib.hid (fun w => rread2 s hs w)
    unfold PRead at HR
    unfold RRead at HD
    rw [← ht, ← hc, ← ha] at HR HD
    clear ht hc ha
    have hcs : (¬ (3000 : Int) < (s.length : Int)) ∨ ((3000 : Int) < (s.length : Int) ∧ ¬ (s.length : Int) ≤ 30000) := by omega
    clear hsI g1
    rcases hcs with h1 | ⟨h1, h2⟩
    all_goals
      go_wp2_with fail
      refine HR.out.mono ?_
      rintro e w2 ⟨LA, KA, lc, kc, v, rfl, hT, hP, _, hb2⟩
      have HT := Lib.hid hT
      have HP := Lib.hid hP
      have HB2 := Lib.hid (ext_trans HB1.out hb2)
      clear hT hP hb2
      unfold itC
      go_wp2_with fail
      refine (HD.out _).mono ?_
      rintro e w3 ⟨LA2, KA2, lc2, kc2, rfl, hT2, hb3⟩
      have HT2 := Lib.hid hT2
      have xa := ext_alloc w2 (.cells #[.string ⟨t.label.toArray⟩, .string ⟨t.head.toArray⟩, .slice LA t.lines.length lc, .slice KA t.kids.length kc] 26)
      have ba := blk_ext2 (Blk.new w2 26 [.string ⟨t.label.toArray⟩, .string ⟨t.head.toArray⟩, .slice LA t.lines.length lc, .slice KA t.kids.length kc]) hb3
      have HB3 := Lib.hid (ext_trans HB2.out (ext_trans xa hb3))
      have HT3 := Lib.hid (HT.out.mono (R' := fun _ => True) fun b _ hl => ⟨(ext_trans xa hb3).block b hl, trivial⟩)
      have HP3 := Lib.hid (HP.out.ext (ext_trans xa hb3))
      obtain ⟨W4, hW4⟩ : ∃ W, W = (w3.alloc (.cells #[.string ⟨t.label.toArray⟩, .string ⟨t.head.toArray⟩, .slice LA2 t.lines.length lc2, .slice KA2 t.kids.length kc2] 26)).alloc (.cells #[.int .i64 c, .int .i64 a] 32) := ⟨_, rfl⟩
      have xc := ext_alloc w3 (.cells #[.string ⟨t.label.toArray⟩, .string ⟨t.head.toArray⟩, .slice LA2 t.lines.length lc2, .slice KA2 t.kids.length kc2] 26)
      have xd : Below w3.heap.size w3 W4 := by rw [hW4]; exact ext_trans xc (ext_alloc _ _)
      have bc : Blk W4 w3.heap.size 26 [.string ⟨t.label.toArray⟩, .string ⟨t.head.toArray⟩, .slice LA2 t.lines.length lc2, .slice KA2 t.kids.length kc2] := by rw [hW4]; exact blk_ext2 (Blk.new w3 _ _) (ext_alloc _ _)
      have HXd := Lib.hid xd
      have HBa := Lib.hid (blk_ext2 ba xd)
      have HBc := Lib.hid bc
      clear hT2 hb3 xa ba xc xd bc
      unfold itC
      go_wp2_with fail
      rw [← hW4]
      clear hW4
      refine (faulted_same (HP3.out.ext HXd.out) (HE.out.below (ext_trans HB3.out HXd.out)) (fun _ => rfl)).mono ?_
      rintro e w5 ⟨rfl, hb5⟩
      have p1 := blk_ext2 HBa.out hb5
      have p2 := blk_ext2 HBc.out hb5
      have a0 := p1.cell 0 rfl
      have a1 := p1.cell 1 rfl
      have a2 := p1.cell 2 rfl
      have a3 := p1.cell 3 rfl
      have d0 := p2.cell 0 rfl
      have d1 := p2.cell 1 rfl
      have d2 := p2.cell 2 rfl
      have d3 := p2.cell 3 rfl
      have HB5 := Lib.hid (ext_trans HB3.out (ext_trans HXd.out hb5))
      have HT5 := Lib.hid (HT3.out.mono (R' := fun _ => True) fun b _ hl => ⟨(ext_trans HXd.out hb5).block b hl, trivial⟩)
      have HT6 := Lib.hid (HT2.out.mono (R' := fun _ => True) fun b _ hl => ⟨(ext_trans HXd.out hb5).block b hl, trivial⟩)
      clear hb5 p1 p2
      go_wp2_with fail
      refine (same_items 10 t (fun _ => True) (fun _ => True) LA KA LA2 KA2 lc kc lc2 kc2 w5 HT5.out HT6.out).mono ?_
      rintro e w6 ⟨rfl, hb6⟩
      have HB6 := Lib.hid (ext_trans HB5.out hb6)
      clear hb6
      go_wp2_with fail
      go_ret
      exact ⟨rfl, HB6.out⟩
end Go.Proofs.YtflklbhgjfonbaaGreatDoor.ScriptRead

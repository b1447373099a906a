/- How a duty stands on a day. -/
import Derived.Test.YtjnkcpeicocjhaaDoorDuW
namespace Go.Proofs.YtjnkcpeicocjhaaDoor.Dut
open Go.RowKit Mem Nest Sol App

set_option maxRecDepth 100000 in
set_option maxHeartbeats 8000000 in
theorem state_any (nm wh : List UInt8) (fr tl : Int) (el : List UInt8) (tn tu tr : Int) (on : Int) (es : List Ev) (hl : es.length ≤ 1000) (LA : Option Addr) (lc : Nat) (w : World) (h : Rd w LA (es.flatMap evCells)) :
    Calls Tryd.prog 69 #[.agg #[.string ⟨nm.toArray⟩, .string ⟨wh.toArray⟩, .int .i64 fr, .int .i64 tl, .string ⟨el.toArray⟩, .int .i64 tn, .int .i64 tu, .int .i64 tr], .slice LA es.length lc, .int .i64 on] w fun e w' => e = .returned (.agg #[.string ⟨nm.toArray⟩, .string ⟨wh.toArray⟩, .int .i64 fr, .int .i64 tl, .string ⟨el.toArray⟩, .int .i64 tn, .int .i64 tu, .int .i64 tr, .int .i64 (stP ⟨nm, wh, fr, tl, el, tn, tu, tr⟩ es on).1, .int .i64 (stP ⟨nm, wh, fr, tl, el, tn, tu, tr⟩ es on).2, .int .i64 (-1)]) ∧ Below w.heap.size w w' := by
  have H := Lib.hid h
  have hx1 := ext_alloc w (.cells #[.string ⟨nm.toArray⟩, .string ⟨wh.toArray⟩, .int .i64 fr, .int .i64 tl, .string ⟨el.toArray⟩, .int .i64 tn, .int .i64 tu, .int .i64 tr] 38)
  have hx2 := ext_alloc (w.alloc (.cells #[.string ⟨nm.toArray⟩, .string ⟨wh.toArray⟩, .int .i64 fr, .int .i64 tl, .string ⟨el.toArray⟩, .int .i64 tn, .int .i64 tu, .int .i64 tr] 38)) (.cells #[.string ⟨#[]⟩, .string ⟨#[]⟩, .int .i64 0, .int .i64 0, .string ⟨#[]⟩, .int .i64 0, .int .i64 0, .int .i64 0, .int .i64 0, .int .i64 0, .int .i64 0] 40)
  have HX := Lib.hid (ext_trans hx1 hx2)
  have HK := Lib.hid (Sol.blk_ext (Blk.new w 38 [.string ⟨nm.toArray⟩, .string ⟨wh.toArray⟩, .int .i64 fr, .int .i64 tl, .string ⟨el.toArray⟩, .int .i64 tn, .int .i64 tu, .int .i64 tr]) hx2)
  have HS := Lib.hid (show Blk ((w.alloc (.cells #[.string ⟨nm.toArray⟩, .string ⟨wh.toArray⟩, .int .i64 fr, .int .i64 tl, .string ⟨el.toArray⟩, .int .i64 tn, .int .i64 tu, .int .i64 tr] 38)).alloc (.cells #[.string ⟨#[]⟩, .string ⟨#[]⟩, .int .i64 0, .int .i64 0, .string ⟨#[]⟩, .int .i64 0, .int .i64 0, .int .i64 0, .int .i64 0, .int .i64 0, .int .i64 0] 40)) (w.heap.size + 1) 40 [.string ⟨#[]⟩, .string ⟨#[]⟩, .int .i64 0, .int .i64 0, .string ⟨#[]⟩, .int .i64 0, .int .i64 0, .int .i64 0, .int .i64 0, .int .i64 0, .int .i64 0] by simpa using Blk.new (w.alloc (.cells #[.string ⟨nm.toArray⟩, .string ⟨wh.toArray⟩, .int .i64 fr, .int .i64 tl, .string ⟨el.toArray⟩, .int .i64 tn, .int .i64 tu, .int .i64 tr] 38)) 40 [.string ⟨#[]⟩, .string ⟨#[]⟩, .int .i64 0, .int .i64 0, .string ⟨#[]⟩, .int .i64 0, .int .i64 0, .int .i64 0, .int .i64 0, .int .i64 0, .int .i64 0])
  obtain ⟨w2, hw2⟩ : ∃ w2, w2 = (w.alloc (.cells #[.string ⟨nm.toArray⟩, .string ⟨wh.toArray⟩, .int .i64 fr, .int .i64 tl, .string ⟨el.toArray⟩, .int .i64 tn, .int .i64 tu, .int .i64 tr] 38)).alloc (.cells #[.string ⟨#[]⟩, .string ⟨#[]⟩, .int .i64 0, .int .i64 0, .string ⟨#[]⟩, .int .i64 0, .int .i64 0, .int .i64 0, .int .i64 0, .int .i64 0, .int .i64 0] 40) := ⟨_, rfl⟩
  rw [← hw2] at HX HK HS
  obtain ⟨X, hX⟩ : ∃ X : Dt, X = ⟨nm, wh, fr, tl, el, tn, tu, tr⟩ := ⟨_, rfl⟩
  rw [← hX]
  have hXf : X.fr = fr ∧ X.till = tl := by rw [hX]; exact ⟨rfl, rfl⟩
  obtain ⟨sp, hsp⟩ : ∃ sp, sp = stP X es on := ⟨_, rfl⟩
  rw [← hsp]
  unfold stP at hsp
  rw [hXf.1, hXf.2] at hsp
  have HSP := Lib.hid hsp
  clear hsp
  have x0 := HK.out.cell 0 rfl
  have x1 := HK.out.cell 1 rfl
  have x2 := HK.out.cell 2 rfl
  have x3 := HK.out.cell 3 rfl
  have x4 := HK.out.cell 4 rfl
  have x5 := HK.out.cell 5 rfl
  have x6 := HK.out.cell 6 rfl
  have x7 := HK.out.cell 7 rfl
  have HC1 := Lib.hid (fun (wq : World) (hq : Below w2.heap.size w2 wq) => first_any nm wh fr tl el tn tu tr false on es hl LA lc wq (H.out.ext (ext_trans HX.out hq)))
  have HC2 := Lib.hid (fun (wq : World) (hq : Below w2.heap.size w2 wq) => first_any nm wh fr tl el tn tu tr true on es hl LA lc wq (H.out.ext (ext_trans HX.out hq)))
  rw [← hX] at HC1 HC2
  have hdr := ext_drewN w2 1
  clear h hx1 hx2 hX hXf
  go_enter Tryd.func69, Tryd.ntmps69
  go_wp2_with fail
  rw [← hw2]
  clear hw2
  go_region_held3 (fun w' => w'.cell? ⟨w.heap.size, 0, none⟩ = some (.string ⟨nm.toArray⟩) ∧ w'.cell? ⟨w.heap.size, 1, none⟩ = some (.string ⟨wh.toArray⟩) ∧ w'.cell? ⟨w.heap.size, 2, none⟩ = some (.int .i64 fr) ∧ w'.cell? ⟨w.heap.size, 3, none⟩ = some (.int .i64 tl) ∧ w'.cell? ⟨w.heap.size, 4, none⟩ = some (.string ⟨el.toArray⟩) ∧ w'.cell? ⟨w.heap.size, 5, none⟩ = some (.int .i64 tn) ∧ w'.cell? ⟨w.heap.size, 6, none⟩ = some (.int .i64 tu) ∧ w'.cell? ⟨w.heap.size, 7, none⟩ = some (.int .i64 tr))
    ((first | exact ⟨cell_ext hdr x0, cell_ext hdr x1, cell_ext hdr x2, cell_ext hdr x3, cell_ext hdr x4, cell_ext hdr x5, cell_ext hdr x6, cell_ext hdr x7⟩ | exact ⟨cell_ext HBa.out x0, cell_ext HBa.out x1, cell_ext HBa.out x2, cell_ext HBa.out x3, cell_ext HBa.out x4, cell_ext HBa.out x5, cell_ext HBa.out x6, cell_ext HBa.out x7⟩ | exact ⟨cell_ext HBb.out x0, cell_ext HBb.out x1, cell_ext HBb.out x2, cell_ext HBb.out x3, cell_ext HBb.out x4, cell_ext HBb.out x5, cell_ext HBb.out x6, cell_ext HBb.out x7⟩))
    ((first
      | (go_at_call 99; have hba := HBa.out; refine (HC2.out _ hba).mono ?_; rintro e w4 ⟨rfl, hb⟩; have HBb := Lib.hid (ext_trans hba hb); clear hb hba)
      | (go_at_call 99; refine (HC1.out _ hdr).mono ?_; rintro e w3 ⟨rfl, hb⟩; have HBa := Lib.hid (ext_trans hdr hb); clear hb)))
  have HB4 := Lib.hid (ext_trans HX.out HBb.out)
  have HK4 := Lib.hid (Sol.blk_ext HK.out HBb.out)
  have HS4 := Lib.hid (Sol.blk_ext HS.out HBb.out)
  clear HC1 HC2 x0 x1 x2 x3 x4 x5 x6 x7
  have x0 := HK4.out.cell 0 rfl
  have x1 := HK4.out.cell 1 rfl
  have x2 := HK4.out.cell 2 rfl
  have x3 := HK4.out.cell 3 rfl
  have x4 := HK4.out.cell 4 rfl
  have x5 := HK4.out.cell 5 rfl
  have x6 := HK4.out.cell 6 rfl
  have x7 := HK4.out.cell 7 rfl
  have z0 := HS4.out.cell 0 rfl
  have z1 := HS4.out.cell 1 rfl
  have z2 := HS4.out.cell 2 rfl
  have z3 := HS4.out.cell 3 rfl
  have z4 := HS4.out.cell 4 rfl
  have z5 := HS4.out.cell 5 rfl
  have z6 := HS4.out.cell 6 rfl
  have z7 := HS4.out.cell 7 rfl
  have z8 := HS4.out.cell 8 rfl
  have z9 := HS4.out.cell 9 rfl
  have z10 := HS4.out.cell 10 rfl
  have f0 := HS4.out.free 0
  have f1 := HS4.out.free 1
  have f2 := HS4.out.free 2
  have f3 := HS4.out.free 3
  have f4 := HS4.out.free 4
  have f5 := HS4.out.free 5
  have f6 := HS4.out.free 6
  have f7 := HS4.out.free 7
  have f8 := HS4.out.free 8
  have f9 := HS4.out.free 9
  have f10 := HS4.out.free 10
  generalize firstP X true on es = o at *
  generalize firstP X false on es = f at *
  by_cases c1 : 0 < o
  · by_cases c2 : f = 0
    · have q2 : (f == 0) = true := by rw [c2]; rfl
      have hc : 0 < o ∧ (f = 0 ∨ o ≤ f) := ⟨c1, .inl c2⟩
      have hv := HSP.out
      rw [if_pos hc] at hv
      have HV := Lib.hid hv
      clear hv
      go_wp2_with fail
      have hE := (((((((((((HS4.out.set 0 (.string ⟨nm.toArray⟩)).set 1 (.string ⟨wh.toArray⟩)).set 2 (.int .i64 fr)).set 3 (.int .i64 tl)).set 4 (.string ⟨el.toArray⟩)).set 5 (.int .i64 tn)).set 6 (.int .i64 tu)).set 7 (.int .i64 tr)).set 8 (.int .i64 4)).set 9 (.int .i64 o)).set 10 (.int .i64 (-1)))
      have s0 := hE.cell 0 rfl
      have s1 := hE.cell 1 rfl
      have s2 := hE.cell 2 rfl
      have s3 := hE.cell 3 rfl
      have s4 := hE.cell 4 rfl
      have s5 := hE.cell 5 rfl
      have s6 := hE.cell 6 rfl
      have s7 := hE.cell 7 rfl
      have s8 := hE.cell 8 rfl
      have s9 := hE.cell 9 rfl
      have s10 := hE.cell 10 rfl
      refine bodyPost_ret (v := .agg #[.string ⟨nm.toArray⟩, .string ⟨wh.toArray⟩, .int .i64 fr, .int .i64 tl, .string ⟨el.toArray⟩, .int .i64 tn, .int .i64 tu, .int .i64 tr, .int .i64 4, .int .i64 o, .int .i64 (-1)]) (by simp [results, Tryd.results69, go_sem, s0, s1, s2, s3, s4, s5, s6, s7, s8, s9, s10]) rfl ⟨by rw [HV.out], ?_⟩
      exact (((((((((((HB4.out.setCell (by simp) _).setCell (by simp) _).setCell (by simp) _).setCell (by simp) _).setCell (by simp) _).setCell (by simp) _).setCell (by simp) _).setCell (by simp) _).setCell (by simp) _).setCell (by simp) _).setCell (by simp) _)
    · have q2 : (f == 0) = false := by rw [beq_eq_false_iff_ne]; exact c2
      by_cases c3 : o ≤ f
      · have hc : 0 < o ∧ (f = 0 ∨ o ≤ f) := ⟨c1, .inr c3⟩
        have hv := HSP.out
        rw [if_pos hc] at hv
        have HV := Lib.hid hv
        clear hv
        go_wp2_with fail
        have hE := (((((((((((HS4.out.set 0 (.string ⟨nm.toArray⟩)).set 1 (.string ⟨wh.toArray⟩)).set 2 (.int .i64 fr)).set 3 (.int .i64 tl)).set 4 (.string ⟨el.toArray⟩)).set 5 (.int .i64 tn)).set 6 (.int .i64 tu)).set 7 (.int .i64 tr)).set 8 (.int .i64 4)).set 9 (.int .i64 o)).set 10 (.int .i64 (-1)))
        have s0 := hE.cell 0 rfl
        have s1 := hE.cell 1 rfl
        have s2 := hE.cell 2 rfl
        have s3 := hE.cell 3 rfl
        have s4 := hE.cell 4 rfl
        have s5 := hE.cell 5 rfl
        have s6 := hE.cell 6 rfl
        have s7 := hE.cell 7 rfl
        have s8 := hE.cell 8 rfl
        have s9 := hE.cell 9 rfl
        have s10 := hE.cell 10 rfl
        refine bodyPost_ret (v := .agg #[.string ⟨nm.toArray⟩, .string ⟨wh.toArray⟩, .int .i64 fr, .int .i64 tl, .string ⟨el.toArray⟩, .int .i64 tn, .int .i64 tu, .int .i64 tr, .int .i64 4, .int .i64 o, .int .i64 (-1)]) (by simp [results, Tryd.results69, go_sem, s0, s1, s2, s3, s4, s5, s6, s7, s8, s9, s10]) rfl ⟨by rw [HV.out], ?_⟩
        exact (((((((((((HB4.out.setCell (by simp) _).setCell (by simp) _).setCell (by simp) _).setCell (by simp) _).setCell (by simp) _).setCell (by simp) _).setCell (by simp) _).setCell (by simp) _).setCell (by simp) _).setCell (by simp) _).setCell (by simp) _)
      · have hc : ¬ (0 < o ∧ (f = 0 ∨ o ≤ f)) := fun h => h.2.elim c2 c3
        by_cases d1 : 0 < f
        · by_cases d2 : f ≤ tl
          · skip
            have hv := HSP.out
            rw [if_neg hc] at hv
            rw [if_pos ⟨d1, d2⟩] at hv
            have HV := Lib.hid hv
            clear hv
            go_wp2_with fail
            have hE := (((((((((((HS4.out.set 0 (.string ⟨nm.toArray⟩)).set 1 (.string ⟨wh.toArray⟩)).set 2 (.int .i64 fr)).set 3 (.int .i64 tl)).set 4 (.string ⟨el.toArray⟩)).set 5 (.int .i64 tn)).set 6 (.int .i64 tu)).set 7 (.int .i64 tr)).set 8 (.int .i64 1)).set 9 (.int .i64 f)).set 10 (.int .i64 (-1)))
            have s0 := hE.cell 0 rfl
            have s1 := hE.cell 1 rfl
            have s2 := hE.cell 2 rfl
            have s3 := hE.cell 3 rfl
            have s4 := hE.cell 4 rfl
            have s5 := hE.cell 5 rfl
            have s6 := hE.cell 6 rfl
            have s7 := hE.cell 7 rfl
            have s8 := hE.cell 8 rfl
            have s9 := hE.cell 9 rfl
            have s10 := hE.cell 10 rfl
            refine bodyPost_ret (v := .agg #[.string ⟨nm.toArray⟩, .string ⟨wh.toArray⟩, .int .i64 fr, .int .i64 tl, .string ⟨el.toArray⟩, .int .i64 tn, .int .i64 tu, .int .i64 tr, .int .i64 1, .int .i64 f, .int .i64 (-1)]) (by simp [results, Tryd.results69, go_sem, s0, s1, s2, s3, s4, s5, s6, s7, s8, s9, s10]) rfl ⟨by rw [HV.out], ?_⟩
            exact (((((((((((HB4.out.setCell (by simp) _).setCell (by simp) _).setCell (by simp) _).setCell (by simp) _).setCell (by simp) _).setCell (by simp) _).setCell (by simp) _).setCell (by simp) _).setCell (by simp) _).setCell (by simp) _).setCell (by simp) _)
          · skip
            have hv := HSP.out
            rw [if_neg hc] at hv
            rw [if_neg (fun h => d2 h.2)] at hv
            rw [if_pos d1] at hv
            have HV := Lib.hid hv
            clear hv
            go_wp2_with fail
            have hE := (((((((((((HS4.out.set 0 (.string ⟨nm.toArray⟩)).set 1 (.string ⟨wh.toArray⟩)).set 2 (.int .i64 fr)).set 3 (.int .i64 tl)).set 4 (.string ⟨el.toArray⟩)).set 5 (.int .i64 tn)).set 6 (.int .i64 tu)).set 7 (.int .i64 tr)).set 8 (.int .i64 2)).set 9 (.int .i64 f)).set 10 (.int .i64 (-1)))
            have s0 := hE.cell 0 rfl
            have s1 := hE.cell 1 rfl
            have s2 := hE.cell 2 rfl
            have s3 := hE.cell 3 rfl
            have s4 := hE.cell 4 rfl
            have s5 := hE.cell 5 rfl
            have s6 := hE.cell 6 rfl
            have s7 := hE.cell 7 rfl
            have s8 := hE.cell 8 rfl
            have s9 := hE.cell 9 rfl
            have s10 := hE.cell 10 rfl
            refine bodyPost_ret (v := .agg #[.string ⟨nm.toArray⟩, .string ⟨wh.toArray⟩, .int .i64 fr, .int .i64 tl, .string ⟨el.toArray⟩, .int .i64 tn, .int .i64 tu, .int .i64 tr, .int .i64 2, .int .i64 f, .int .i64 (-1)]) (by simp [results, Tryd.results69, go_sem, s0, s1, s2, s3, s4, s5, s6, s7, s8, s9, s10]) rfl ⟨by rw [HV.out], ?_⟩
            exact (((((((((((HB4.out.setCell (by simp) _).setCell (by simp) _).setCell (by simp) _).setCell (by simp) _).setCell (by simp) _).setCell (by simp) _).setCell (by simp) _).setCell (by simp) _).setCell (by simp) _).setCell (by simp) _).setCell (by simp) _)
        · by_cases d3 : tl < on
          · skip
            have hv := HSP.out
            rw [if_neg hc] at hv
            rw [if_neg (fun h => d1 h.1)] at hv
            rw [if_neg d1] at hv
            rw [if_pos d3] at hv
            have HV := Lib.hid hv
            clear hv
            go_wp2_with fail
            have hE := (((((((((((HS4.out.set 0 (.string ⟨nm.toArray⟩)).set 1 (.string ⟨wh.toArray⟩)).set 2 (.int .i64 fr)).set 3 (.int .i64 tl)).set 4 (.string ⟨el.toArray⟩)).set 5 (.int .i64 tn)).set 6 (.int .i64 tu)).set 7 (.int .i64 tr)).set 8 (.int .i64 3)).set 9 (.int .i64 (wrap64 (tl + 1)))).set 10 (.int .i64 (-1)))
            have s0 := hE.cell 0 rfl
            have s1 := hE.cell 1 rfl
            have s2 := hE.cell 2 rfl
            have s3 := hE.cell 3 rfl
            have s4 := hE.cell 4 rfl
            have s5 := hE.cell 5 rfl
            have s6 := hE.cell 6 rfl
            have s7 := hE.cell 7 rfl
            have s8 := hE.cell 8 rfl
            have s9 := hE.cell 9 rfl
            have s10 := hE.cell 10 rfl
            refine bodyPost_ret (v := .agg #[.string ⟨nm.toArray⟩, .string ⟨wh.toArray⟩, .int .i64 fr, .int .i64 tl, .string ⟨el.toArray⟩, .int .i64 tn, .int .i64 tu, .int .i64 tr, .int .i64 3, .int .i64 (wrap64 (tl + 1)), .int .i64 (-1)]) (by simp [results, Tryd.results69, go_sem, s0, s1, s2, s3, s4, s5, s6, s7, s8, s9, s10]) rfl ⟨by rw [HV.out], ?_⟩
            exact (((((((((((HB4.out.setCell (by simp) _).setCell (by simp) _).setCell (by simp) _).setCell (by simp) _).setCell (by simp) _).setCell (by simp) _).setCell (by simp) _).setCell (by simp) _).setCell (by simp) _).setCell (by simp) _).setCell (by simp) _)
          · skip
            have hv := HSP.out
            rw [if_neg hc] at hv
            rw [if_neg (fun h => d1 h.1)] at hv
            rw [if_neg d1] at hv
            rw [if_neg d3] at hv
            have HV := Lib.hid hv
            clear hv
            go_wp2_with fail
            have hE := (((((((((((HS4.out.set 0 (.string ⟨nm.toArray⟩)).set 1 (.string ⟨wh.toArray⟩)).set 2 (.int .i64 fr)).set 3 (.int .i64 tl)).set 4 (.string ⟨el.toArray⟩)).set 5 (.int .i64 tn)).set 6 (.int .i64 tu)).set 7 (.int .i64 tr)).set 8 (.int .i64 0)).set 9 (.int .i64 fr)).set 10 (.int .i64 (-1)))
            have s0 := hE.cell 0 rfl
            have s1 := hE.cell 1 rfl
            have s2 := hE.cell 2 rfl
            have s3 := hE.cell 3 rfl
            have s4 := hE.cell 4 rfl
            have s5 := hE.cell 5 rfl
            have s6 := hE.cell 6 rfl
            have s7 := hE.cell 7 rfl
            have s8 := hE.cell 8 rfl
            have s9 := hE.cell 9 rfl
            have s10 := hE.cell 10 rfl
            refine bodyPost_ret (v := .agg #[.string ⟨nm.toArray⟩, .string ⟨wh.toArray⟩, .int .i64 fr, .int .i64 tl, .string ⟨el.toArray⟩, .int .i64 tn, .int .i64 tu, .int .i64 tr, .int .i64 0, .int .i64 fr, .int .i64 (-1)]) (by simp [results, Tryd.results69, go_sem, s0, s1, s2, s3, s4, s5, s6, s7, s8, s9, s10]) rfl ⟨by rw [HV.out], ?_⟩
            exact (((((((((((HB4.out.setCell (by simp) _).setCell (by simp) _).setCell (by simp) _).setCell (by simp) _).setCell (by simp) _).setCell (by simp) _).setCell (by simp) _).setCell (by simp) _).setCell (by simp) _).setCell (by simp) _).setCell (by simp) _)
  · have hc : ¬ (0 < o ∧ (f = 0 ∨ o ≤ f)) := fun h => c1 h.1
    by_cases d1 : 0 < f
    · by_cases d2 : f ≤ tl
      · skip
        have hv := HSP.out
        rw [if_neg hc] at hv
        rw [if_pos ⟨d1, d2⟩] at hv
        have HV := Lib.hid hv
        clear hv
        go_wp2_with fail
        have hE := (((((((((((HS4.out.set 0 (.string ⟨nm.toArray⟩)).set 1 (.string ⟨wh.toArray⟩)).set 2 (.int .i64 fr)).set 3 (.int .i64 tl)).set 4 (.string ⟨el.toArray⟩)).set 5 (.int .i64 tn)).set 6 (.int .i64 tu)).set 7 (.int .i64 tr)).set 8 (.int .i64 1)).set 9 (.int .i64 f)).set 10 (.int .i64 (-1)))
        have s0 := hE.cell 0 rfl
        have s1 := hE.cell 1 rfl
        have s2 := hE.cell 2 rfl
        have s3 := hE.cell 3 rfl
        have s4 := hE.cell 4 rfl
        have s5 := hE.cell 5 rfl
        have s6 := hE.cell 6 rfl
        have s7 := hE.cell 7 rfl
        have s8 := hE.cell 8 rfl
        have s9 := hE.cell 9 rfl
        have s10 := hE.cell 10 rfl
        refine bodyPost_ret (v := .agg #[.string ⟨nm.toArray⟩, .string ⟨wh.toArray⟩, .int .i64 fr, .int .i64 tl, .string ⟨el.toArray⟩, .int .i64 tn, .int .i64 tu, .int .i64 tr, .int .i64 1, .int .i64 f, .int .i64 (-1)]) (by simp [results, Tryd.results69, go_sem, s0, s1, s2, s3, s4, s5, s6, s7, s8, s9, s10]) rfl ⟨by rw [HV.out], ?_⟩
        exact (((((((((((HB4.out.setCell (by simp) _).setCell (by simp) _).setCell (by simp) _).setCell (by simp) _).setCell (by simp) _).setCell (by simp) _).setCell (by simp) _).setCell (by simp) _).setCell (by simp) _).setCell (by simp) _).setCell (by simp) _)
      · skip
        have hv := HSP.out
        rw [if_neg hc] at hv
        rw [if_neg (fun h => d2 h.2)] at hv
        rw [if_pos d1] at hv
        have HV := Lib.hid hv
        clear hv
        go_wp2_with fail
        have hE := (((((((((((HS4.out.set 0 (.string ⟨nm.toArray⟩)).set 1 (.string ⟨wh.toArray⟩)).set 2 (.int .i64 fr)).set 3 (.int .i64 tl)).set 4 (.string ⟨el.toArray⟩)).set 5 (.int .i64 tn)).set 6 (.int .i64 tu)).set 7 (.int .i64 tr)).set 8 (.int .i64 2)).set 9 (.int .i64 f)).set 10 (.int .i64 (-1)))
        have s0 := hE.cell 0 rfl
        have s1 := hE.cell 1 rfl
        have s2 := hE.cell 2 rfl
        have s3 := hE.cell 3 rfl
        have s4 := hE.cell 4 rfl
        have s5 := hE.cell 5 rfl
        have s6 := hE.cell 6 rfl
        have s7 := hE.cell 7 rfl
        have s8 := hE.cell 8 rfl
        have s9 := hE.cell 9 rfl
        have s10 := hE.cell 10 rfl
        refine bodyPost_ret (v := .agg #[.string ⟨nm.toArray⟩, .string ⟨wh.toArray⟩, .int .i64 fr, .int .i64 tl, .string ⟨el.toArray⟩, .int .i64 tn, .int .i64 tu, .int .i64 tr, .int .i64 2, .int .i64 f, .int .i64 (-1)]) (by simp [results, Tryd.results69, go_sem, s0, s1, s2, s3, s4, s5, s6, s7, s8, s9, s10]) rfl ⟨by rw [HV.out], ?_⟩
        exact (((((((((((HB4.out.setCell (by simp) _).setCell (by simp) _).setCell (by simp) _).setCell (by simp) _).setCell (by simp) _).setCell (by simp) _).setCell (by simp) _).setCell (by simp) _).setCell (by simp) _).setCell (by simp) _).setCell (by simp) _)
    · by_cases d3 : tl < on
      · skip
        have hv := HSP.out
        rw [if_neg hc] at hv
        rw [if_neg (fun h => d1 h.1)] at hv
        rw [if_neg d1] at hv
        rw [if_pos d3] at hv
        have HV := Lib.hid hv
        clear hv
        go_wp2_with fail
        have hE := (((((((((((HS4.out.set 0 (.string ⟨nm.toArray⟩)).set 1 (.string ⟨wh.toArray⟩)).set 2 (.int .i64 fr)).set 3 (.int .i64 tl)).set 4 (.string ⟨el.toArray⟩)).set 5 (.int .i64 tn)).set 6 (.int .i64 tu)).set 7 (.int .i64 tr)).set 8 (.int .i64 3)).set 9 (.int .i64 (wrap64 (tl + 1)))).set 10 (.int .i64 (-1)))
        have s0 := hE.cell 0 rfl
        have s1 := hE.cell 1 rfl
        have s2 := hE.cell 2 rfl
        have s3 := hE.cell 3 rfl
        have s4 := hE.cell 4 rfl
        have s5 := hE.cell 5 rfl
        have s6 := hE.cell 6 rfl
        have s7 := hE.cell 7 rfl
        have s8 := hE.cell 8 rfl
        have s9 := hE.cell 9 rfl
        have s10 := hE.cell 10 rfl
        refine bodyPost_ret (v := .agg #[.string ⟨nm.toArray⟩, .string ⟨wh.toArray⟩, .int .i64 fr, .int .i64 tl, .string ⟨el.toArray⟩, .int .i64 tn, .int .i64 tu, .int .i64 tr, .int .i64 3, .int .i64 (wrap64 (tl + 1)), .int .i64 (-1)]) (by simp [results, Tryd.results69, go_sem, s0, s1, s2, s3, s4, s5, s6, s7, s8, s9, s10]) rfl ⟨by rw [HV.out], ?_⟩
        exact (((((((((((HB4.out.setCell (by simp) _).setCell (by simp) _).setCell (by simp) _).setCell (by simp) _).setCell (by simp) _).setCell (by simp) _).setCell (by simp) _).setCell (by simp) _).setCell (by simp) _).setCell (by simp) _).setCell (by simp) _)
      · skip
        have hv := HSP.out
        rw [if_neg hc] at hv
        rw [if_neg (fun h => d1 h.1)] at hv
        rw [if_neg d1] at hv
        rw [if_neg d3] at hv
        have HV := Lib.hid hv
        clear hv
        go_wp2_with fail
        have hE := (((((((((((HS4.out.set 0 (.string ⟨nm.toArray⟩)).set 1 (.string ⟨wh.toArray⟩)).set 2 (.int .i64 fr)).set 3 (.int .i64 tl)).set 4 (.string ⟨el.toArray⟩)).set 5 (.int .i64 tn)).set 6 (.int .i64 tu)).set 7 (.int .i64 tr)).set 8 (.int .i64 0)).set 9 (.int .i64 fr)).set 10 (.int .i64 (-1)))
        have s0 := hE.cell 0 rfl
        have s1 := hE.cell 1 rfl
        have s2 := hE.cell 2 rfl
        have s3 := hE.cell 3 rfl
        have s4 := hE.cell 4 rfl
        have s5 := hE.cell 5 rfl
        have s6 := hE.cell 6 rfl
        have s7 := hE.cell 7 rfl
        have s8 := hE.cell 8 rfl
        have s9 := hE.cell 9 rfl
        have s10 := hE.cell 10 rfl
        refine bodyPost_ret (v := .agg #[.string ⟨nm.toArray⟩, .string ⟨wh.toArray⟩, .int .i64 fr, .int .i64 tl, .string ⟨el.toArray⟩, .int .i64 tn, .int .i64 tu, .int .i64 tr, .int .i64 0, .int .i64 fr, .int .i64 (-1)]) (by simp [results, Tryd.results69, go_sem, s0, s1, s2, s3, s4, s5, s6, s7, s8, s9, s10]) rfl ⟨by rw [HV.out], ?_⟩
        exact (((((((((((HB4.out.setCell (by simp) _).setCell (by simp) _).setCell (by simp) _).setCell (by simp) _).setCell (by simp) _).setCell (by simp) _).setCell (by simp) _).setCell (by simp) _).setCell (by simp) _).setCell (by simp) _).setCell (by simp) _)
end Go.Proofs.YtjnkcpeicocjhaaDoor.Dut

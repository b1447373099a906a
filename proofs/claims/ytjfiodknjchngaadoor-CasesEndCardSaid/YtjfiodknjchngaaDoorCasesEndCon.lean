/- The law CasesEnd: from the arguments as they read to the walk. -/
import Derived.Test.YtjfiodknjchngaaDoorCasesEndMain
import Derived.Test.YtjfiodknjchngaaDoorOpenPl
import Derived.Test.YtjfiodknjchngaaDoorRows
import Derived.Test.YtjfiodknjchngaaDoorLaid
namespace Go.Proofs.YtjfiodknjchngaaDoor.CasesEnd
open Go.ChangeShapes Go.WideShapes Go.ChangeAt Go.RowKit Mem Nest CdM Err Ce
theorem laidOut : laidOutB Tryd.prog = true := by kernel_rfl
theorem e6_of {W : World} (h : laidMetH Tryd.prog Rows.casesEndRow.laid W) : ∃ A, E6 W A := by
  obtain ⟨h1, _⟩ := laidMetH_iff.1 h
  rw [show (Rows.casesEndRow.laid.filter fun x => x.2.handleName?.isNone) = Rows.casesEndRow.laid from by kernel_rfl] at h1
  unfold Rows.casesEndRow at h1
  simp only at h1
  obtain ⟨a1, s1⟩ := sent_of_laid (b := bErrBound) h1 (by repeat (first | exact List.Mem.head _ | apply List.Mem.tail)) gErrBound tErrBound
  obtain ⟨a3, s3⟩ := sent_of_laid (b := bErrDay) h1 (by repeat (first | exact List.Mem.head _ | apply List.Mem.tail)) gErrDay tErrDay
  obtain ⟨a6, s6⟩ := sent_of_laid (b := bErrName) h1 (by repeat (first | exact List.Mem.head _ | apply List.Mem.tail)) gErrName tErrName
  obtain ⟨a7, s7⟩ := sent_of_laid (b := bErrOrder) h1 (by repeat (first | exact List.Mem.head _ | apply List.Mem.tail)) gErrOrder tErrOrder
  obtain ⟨a8, s8⟩ := sent_of_laid (b := bErrKind) h1 (by repeat (first | exact List.Mem.head _ | apply List.Mem.tail)) gErrKind tErrKind
  obtain ⟨a10, s10⟩ := sent_of_laid (b := bErrStage) h1 (by repeat (first | exact List.Mem.head _ | apply List.Mem.tail)) gErrStage tErrStage
  exact ⟨fun k => match k with | 1 => a1 | 3 => a3 | 6 => a6 | 7 => a7 | 8 => a8 | _ => a10, s1.v, s3.v, s6.v, s7.v, s8.v, s10.v⟩
theorem all_sh {st : List UInt8} {fin : List (List UInt8)} {ms : List Cf.Mv} (h1 : st.length ≤ 9223372036854775807) (h2 : ∀ s ∈ fin, s.length ≤ 9223372036854775807) (h3 : ∀ m ∈ ms, OpenPl.MvSh m) : ∀ s ∈ Cf.stagesF st fin ms, s.length ≤ 9223372036854775807 := fun s hs => by
  have h := all_mem.1 hs
  unfold Cf.allF at h
  rcases List.mem_append.1 h with h | h
  · rcases List.mem_cons.1 h with e | h
    · exact e ▸ h1
    · exact h2 s h
  · obtain ⟨m, hm, h⟩ := List.mem_flatMap.1 h
    simp only [List.mem_cons, List.not_mem_nil, or_false] at h
    rcases h with rfl | rfl
    · exact (h3 m hm).2.1
    · exact (h3 m hm).2.2.1
set_option maxRecDepth 100000 in
theorem contract (H : Type) (enc : TypeId × Value → H) (W : World) (base : Nat) (args : Array Value) (ds gs : List (DataW H)) (before : List MemPlace)
    (hval : ∀ (j : Nat) t v, Tryd.f4.params[j]? = some t → args[j]? = some v → Value.okWide Tryd.prog W .any base t v)
    (hW : DataW.Whole enc Tryd.prog Tryd.f4.params.toList Rows.casesEndSpec.vars false W args.toList ds gs before) (hL : laidMetH Tryd.prog Rows.casesEndRow.laid W) :
    Calls Tryd.prog 4 args W fun e W' => ∃ v, e = .returned v ∧ Rows.casesEndSpec.post enc Tryd.prog Tryd.f4 false true false false W args v W' := by
  have hW' := hW
  obtain ⟨p, q, hA0, hV, rfl, hfz, hnd⟩ := hW
  have hA : DataW.TrodAll enc Tryd.prog W 0 (fun _ => true) true Tryd.f4.params.toList args.toList ds p := hA0
  rw [Tryd.params4] at hA hval
  obtain ⟨v0, vs0, d0, ds0, p0, q0, hargs, rfl, rfl, h0, r0⟩ := trodAll_cons hA
  obtain ⟨v1, vs1, d1, ds1, p1, q1, rfl, rfl, rfl, h1, r1⟩ := trodAll_cons r0
  obtain ⟨v2, vs2, d2, ds2, p2, q2, rfl, rfl, rfl, h2, r2⟩ := trodAll_cons r1
  obtain ⟨rfl, rfl, rfl⟩ := trodAll_nil r2
  obtain rfl : args = #[v0, v1, v2] := by cases args; simp_all
  obtain ⟨rfl, rfl⟩ := trodVars_none hV
  obtain ⟨A2, n2, c2, rfl⟩ := okWide_slice Tryd.underlying50 (hval 2 50 v2 rfl rfl)
  have k0 := h0
  have k2 := h2
  have lt0 : ∀ x ∈ p0, x.block < W.heap.size := by obtain ⟨m, hm⟩ := k0; exact DataW.trod_lt m _ _ _ hm
  have lt2 : ∀ x ∈ p2, x.block < W.heap.size := by obtain ⟨m, hm⟩ := k2; exact DataW.trod_lt m _ _ _ hm
  obtain ⟨fuel2, hf2⟩ := h2
  obtain ⟨names, rfl, hnl, hNm, _, _⟩ := OpenPl.strs_of hf2
  obtain ⟨a1, rfl, rfl, rfl, w1⟩ := open_int Tryd.underlying3 (hval 1 3 v1 rfl rfl) h1
  obtain ⟨A, hE⟩ := e6_of hL
  have hcall : Calls Tryd.prog 4 #[v0, .int .i64 a1, .slice A2 names.length c2] W fun e w' => e = .returned (.bool true) ∧ Below W.heap.size W w' := by
    rcases OpenPl.plan_at (hval 0 49 v0 rfl rfl) h0 with rfl | ⟨b, o, st, fin, ms, FA, fc, MA, mc, rfl, hP, s1, s2, s3⟩
    · exact ce_nil a1 names A2 c2 W
    · exact ce_walk b o st fin ms FA fc MA mc a1 names A2 c2 W A hnl (all_sh s1 s2 s3) (fun m hm => ⟨(s3 m hm).1, (s3 m hm).2.2.2⟩) hP hNm hE
  clear hA0
  simp only [List.append_nil] at hW'
  refine hcall.mono fun e W' ⟨he, bel⟩ => ?_
  subst he
  exact ⟨_, rfl, _, _, _, [], _, [], hW', trodAll_mk1 (shut_bool Tryd.underlying4 _), (trodAll_cons_mk (Below.trod laidOut (by kernel_rfl) (of_decide_eq_true (by kernel_rfl)) k0 bel lt0) (trodAll_cons_mk (shut_int Tryd.underlying3 w1) (trodAll_cons_mk (Below.trod laidOut (by kernel_rfl) (of_decide_eq_true (by kernel_rfl)) k2 bel lt2) trodAll_mk0))), rfl, bel.frame _, fun h => by cases h⟩
-- WITNESS args: .pointer none, .int .i64 0, .slice none 0 0
-- WITNESS data: .nil, .lit (.int .i64 0), .nil
-- PARAM types: 49, 3, 50
end Go.Proofs.YtjfiodknjchngaaDoor.CasesEnd

/- What a row's list of laid variables gives the walks: each listed sentinel's cell, its text's place, and that the places are apart. What a longer list of laid variables gives: the errors. -/
import Derived.Test.YtflklbhgjfonbaaGreatDoorErr
import Derived.Test.YtflklbhgjfonbaaGreatDoorRows
import Derived.LaidLaws
import Derived.LaidHandle
import Derived.LaidSub
import Derived.Lib.LaidTab
namespace Go.Proofs.YtflklbhgjfonbaaGreatDoor.Err
open Go.RowKit Go.ChangeShapes

theorem star : "*" ++ "errors.errorString" = "*errors.errorString" := by decide
theorem typeNameE (u : TypeId) (h : Tryz.prog.typeName? 3 u = some "*errors.errorString") : u = 195 :=
  typeName_ptr_named (nm := "errors.errorString") (by rw [star]; kernel_rfl) (by kernel_rfl) (by decide) u (by rw [star]; exact h)
theorem cellsES : Tryz.prog.cellsOf 197 = 1 := by kernel_rfl
theorem cellsStr : Tryz.prog.cellsOf 9 = 1 := by kernel_rfl

/-- a sentinel's datum -/
def sentD (b : List UInt8) : DataW Unit := .iface "*errors.errorString" (.ptr (.agg [.lit (.string b)]))
/-- sentinel number g of the program's variables lies laid with its text at a -/
structure SentAt (w : World) (g : Nat) (a : Addr) (b : List UInt8) : Prop where
  v : w.cell? ⟨g, 0, none⟩ = some (sentV a)
  blk : ∃ c t, w.heap[a.block]? = some (.cells c t (0, 0))
  txt : ∃ s, w.cell? a = some (.string s) ∧ s.data.toList = b
theorem SentAt.ne {w : World} {g g' : Nat} {a a' : Addr} {b b' : List UInt8} (h : SentAt w g a b) (h' : SentAt w g' a' b') (hb : b ≠ b') : a ≠ a' := by
  obtain ⟨s, h1, h2⟩ := h.txt
  obtain ⟨s', h1', h2'⟩ := h'.txt
  rintro rfl
  rw [h1] at h1'
  simp only [Option.some.injEq, Value.string.injEq] at h1'
  subst h1'
  exact hb (h2.symm.trans h2')
theorem SentAt.below {w w' : World} {g : Nat} {a : Addr} {b : List UInt8} (h : SentAt w g a b) (hb : Below w.heap.size w w') : SentAt w' g a b where
  v := cell_below hb h.v
  blk := by
    obtain ⟨c, t, hc⟩ := h.blk
    exact ⟨c, t, by rw [hb.block _ (lt_of_block hc)]; exact hc⟩
  txt := by
    obtain ⟨s, h1, h2⟩ := h.txt
    exact ⟨s, cell_below hb h1, h2⟩

theorem laidVars_mem {P : Program} {w : World} : ∀ {l : List (String × DataW Unit)} {ps : List MemPlace}, DataW.LaidVars P w l ps → ∀ {n : String} {d : DataW Unit}, (n, d) ∈ l →
    ∃ g t cs fuel p, P.globalNamed n = some g ∧ (P.globals[g]?).map (·.type) = some t ∧ w.var? P n = some cs ∧ DataW.trod (fun _ => ()) P w 0 (fun _ => true) false fuel t cs.toList = some (d, p) ∧
      (∀ x ∈ MemPlace.row ⟨g, 0, none⟩ cs.size, x ∈ ps) ∧ ∀ x ∈ p, x ∈ ps
  | [], _, _, _, _, hm => by cases hm
  | (n', d') :: r, ps, h, n, d, hm => by
    obtain ⟨g, t, cs, fuel, p, q, h1, h2, h3, h4, h5, rfl⟩ := h
    rcases List.mem_cons.1 hm with e | e
    · cases e
      exact ⟨g, t, cs, fuel, p, h1, h2, h3, h4, fun x hx => by simp [hx], fun x hx => by simp [hx]⟩
    · obtain ⟨g', t', cs', fuel', p', a1, a2, a3, a4, a5, a6⟩ := laidVars_mem h5 e
      exact ⟨g', t', cs', fuel', p', a1, a2, a3, a4, fun x hx => by simp [a5 x hx], fun x hx => by simp [a6 x hx]⟩

set_option maxRecDepth 100000 in
theorem sent_of_laid {W : World} {l : List (String × DataW Unit)} (h : laidMet Tryz.prog l W) {n : String} {b : List UInt8} {g : Nat} (hm : (n, sentD b) ∈ l)
    (hg : Tryz.prog.globalNamed n = some g) (ht : (Tryz.prog.globals[g]?).map (·.type) = some 28) : ∃ a, SentAt W g a b := by
  obtain ⟨ps, hv, _, hrows⟩ := h
  obtain ⟨g', t', cs, fuel, p, a1, a2, a3, a4, a5, a6⟩ := laidVars_mem hv hm
  obtain rfl := Option.some.inj (hg.symm.trans a1)
  obtain rfl := Option.some.inj (ht.symm.trans a2)
  obtain ⟨l0⟩ := cs
  have ok0 : ∀ u v, l0 = [.iface u v] → Value.okWide Tryz.prog W .any 0 u v := fun u v e => by
    subst e
    exact (hrows g 0 (a5 _ (by simp [MemPlace.row]))).2 u v (by simpa using World.var?_cell hg a3 0)
  obtain ⟨a, s, rfl, hc0, hs0, _, rfl⟩ := errorString_of_trod Tryz.underlying28 typeNameE Tryz.underlying195 Tryz.underlying197 rfl rfl Tryz.underlying9 cellsES cellsStr a4 ok0
  exact ⟨a, by simpa [sentV] using World.var?_cell hg a3 0, (hrows a.block a.off (a6 _ (by simp [MemPlace.row]))).1, ⟨s, hc0, hs0⟩⟩

theorem rt : (Tryz.prog.cutTypes.find? (·.1 == "internal/reflectlite.rtype")).map (·.2) = some 153 := by kernel_rfl
set_option maxRecDepth 100000 in
theorem oneRow : ((List.range 238).filter fun t => Tryz.prog.rowNamed t [101, 114, 114, 111, 114]) = [28] := by kernel_rfl
theorem ntypes : Tryz.prog.types.size = 238 := by kernel_rfl
theorem gType : Tryz.prog.globalNamed "errors.errorType" = some 11 := by kernel_rfl
set_option maxRecDepth 100000 in
/-- what the list gives of the errors package's own variable -/
theorem handle_of {W : World} {hs : List (String × DataW Unit)} (h : handlesMet Tryz.prog hs W) (hm : ("errors.errorType", (.iface "internal/reflectlite.rtype" (.agg [.ptr (.lit (.string [101, 114, 114, 111, 114]))]) : DataW Unit)) ∈ hs) :
    W.cell? ⟨11, 0, none⟩ = some (.iface 153 (.agg #[.pointer (some ⟨20, 28, none⟩)])) := by
  obtain ⟨name, u, ty, e1, e2, e3, e4, e5⟩ := h _ hm
  have en : name = [101, 114, 114, 111, 114] := (Option.some.inj e1).symm
  subst en
  obtain rfl := Option.some.inj (rt.symm.trans e2)
  have hm : ty ∈ (List.range 238).filter fun t => Tryz.prog.rowNamed t [101, 114, 114, 111, 114] := List.mem_filter.2 ⟨List.mem_range.2 (by rw [← ntypes]; exact e3), e4⟩
  rw [oneRow] at hm
  obtain rfl := List.mem_singleton.1 hm
  have hh : typeHandle Tryz.prog 28 = .pointer (some ⟨20, 28, none⟩) := by kernel_rfl
  rw [hh] at e5
  simpa using World.var?_cell gType e5 0
theorem gErrText : Tryz.prog.globalNamed "statute/api.ErrText" = some 1 := by kernel_rfl
theorem tErrText : (Tryz.prog.globals[1]?).map (·.type) = some 28 := by kernel_rfl
theorem gErrBound : Tryz.prog.globalNamed "statute/api.ErrBound" = some 0 := by kernel_rfl
theorem tErrBound : (Tryz.prog.globals[0]?).map (·.type) = some 28 := by kernel_rfl
theorem gErrCoin : Tryz.prog.globalNamed "statute/api.ErrCoin" = some 3 := by kernel_rfl
theorem tErrCoin : (Tryz.prog.globals[3]?).map (·.type) = some 28 := by kernel_rfl
theorem gErrDay : Tryz.prog.globalNamed "statute/api.ErrDay" = some 4 := by kernel_rfl
theorem tErrDay : (Tryz.prog.globals[4]?).map (·.type) = some 28 := by kernel_rfl
theorem gErrPath : Tryz.prog.globalNamed "statute/api.ErrPath" = some 5 := by kernel_rfl
theorem tErrPath : (Tryz.prog.globals[5]?).map (·.type) = some 28 := by kernel_rfl
theorem gErrWords : Tryz.prog.globalNamed "statute/api.ErrWords" = some 6 := by kernel_rfl
theorem tErrWords : (Tryz.prog.globals[6]?).map (·.type) = some 28 := by kernel_rfl
theorem gErrName : Tryz.prog.globalNamed "statute/api.ErrName" = some 2 := by kernel_rfl
theorem tErrName : (Tryz.prog.globals[2]?).map (·.type) = some 28 := by kernel_rfl
theorem gErrOrder : Tryz.prog.globalNamed "statute/api.ErrOrder" = some 7 := by kernel_rfl
theorem tErrOrder : (Tryz.prog.globals[7]?).map (·.type) = some 28 := by kernel_rfl
theorem gErrKind : Tryz.prog.globalNamed "statute/api.ErrKind" = some 8 := by kernel_rfl
theorem tErrKind : (Tryz.prog.globals[8]?).map (·.type) = some 28 := by kernel_rfl
theorem gErrProof : Tryz.prog.globalNamed "statute/api.ErrProof" = some 9 := by kernel_rfl
theorem tErrProof : (Tryz.prog.globals[9]?).map (·.type) = some 28 := by kernel_rfl
theorem gErrStage : Tryz.prog.globalNamed "statute/api.ErrStage" = some 10 := by kernel_rfl
theorem tErrStage : (Tryz.prog.globals[10]?).map (·.type) = some 28 := by kernel_rfl
def bErrText : List UInt8 := [115, 116, 97, 116, 117, 116, 101, 58, 32, 116, 101, 120, 116]
def bErrBound : List UInt8 := [115, 116, 97, 116, 117, 116, 101, 58, 32, 98, 111, 117, 110, 100]
def bErrCoin : List UInt8 := [115, 116, 97, 116, 117, 116, 101, 58, 32, 97, 109, 111, 117, 110, 116]
def bErrDay : List UInt8 := [115, 116, 97, 116, 117, 116, 101, 58, 32, 100, 97, 121]
def bErrPath : List UInt8 := [115, 116, 97, 116, 117, 116, 101, 58, 32, 112, 97, 116, 104]
def bErrWords : List UInt8 := [115, 116, 97, 116, 117, 116, 101, 58, 32, 119, 111, 114, 100, 115]
def bErrName : List UInt8 := [115, 116, 97, 116, 117, 116, 101, 58, 32, 110, 97, 109, 101]
def bErrOrder : List UInt8 := [115, 116, 97, 116, 117, 116, 101, 58, 32, 111, 114, 100, 101, 114]
def bErrKind : List UInt8 := [115, 116, 97, 116, 117, 116, 101, 58, 32, 107, 105, 110, 100]
def bErrProof : List UInt8 := [115, 116, 97, 116, 117, 116, 101, 58, 32, 101, 120, 112, 108, 97, 110, 97, 116, 105, 111, 110]
def bErrStage : List UInt8 := [115, 116, 97, 116, 117, 116, 101, 58, 32, 115, 116, 97, 103, 101]
/-- all twelve variables -/
def allL : List (String × DataW Unit) := [("errors.errorType", Rows.laid_errors_errorType), ("statute/api.ErrText", Rows.laid_statute_api_ErrText), ("statute/api.ErrBound", Rows.laid_statute_api_ErrBound), ("statute/api.ErrCoin", Rows.laid_statute_api_ErrCoin), ("statute/api.ErrDay", Rows.laid_statute_api_ErrDay), ("statute/api.ErrPath", Rows.laid_statute_api_ErrPath), ("statute/api.ErrWords", Rows.laid_statute_api_ErrWords), ("statute/api.ErrName", Rows.laid_statute_api_ErrName), ("statute/api.ErrOrder", Rows.laid_statute_api_ErrOrder), ("statute/api.ErrKind", Rows.laid_statute_api_ErrKind), ("statute/api.ErrProof", Rows.laid_statute_api_ErrProof), ("statute/api.ErrStage", Rows.laid_statute_api_ErrStage)]
def sentL : List (String × DataW Unit) := [("statute/api.ErrText", Rows.laid_statute_api_ErrText), ("statute/api.ErrBound", Rows.laid_statute_api_ErrBound), ("statute/api.ErrCoin", Rows.laid_statute_api_ErrCoin), ("statute/api.ErrDay", Rows.laid_statute_api_ErrDay), ("statute/api.ErrPath", Rows.laid_statute_api_ErrPath), ("statute/api.ErrWords", Rows.laid_statute_api_ErrWords), ("statute/api.ErrName", Rows.laid_statute_api_ErrName), ("statute/api.ErrOrder", Rows.laid_statute_api_ErrOrder), ("statute/api.ErrKind", Rows.laid_statute_api_ErrKind), ("statute/api.ErrProof", Rows.laid_statute_api_ErrProof), ("statute/api.ErrStage", Rows.laid_statute_api_ErrStage)]
theorem errs_of_laid {W : World} (h : laidMetH Tryz.prog allL W) : ∃ A, Errs W A := by
  obtain ⟨h1, h2⟩ := laidMetH_iff.1 h
  rw [show (allL.filter fun x => x.2.handleName?.isNone) = sentL from by kernel_rfl] at h1
  rw [show (allL.filter fun x => x.2.handleName?.isSome) = [("errors.errorType", Rows.laid_errors_errorType)] from by kernel_rfl] at h2
  obtain ⟨a0, s0⟩ := sent_of_laid (b := bErrText) h1 (by repeat (first | exact List.Mem.head _ | apply List.Mem.tail)) gErrText tErrText
  obtain ⟨a1, s1⟩ := sent_of_laid (b := bErrBound) h1 (by repeat (first | exact List.Mem.head _ | apply List.Mem.tail)) gErrBound tErrBound
  obtain ⟨a2, s2⟩ := sent_of_laid (b := bErrCoin) h1 (by repeat (first | exact List.Mem.head _ | apply List.Mem.tail)) gErrCoin tErrCoin
  obtain ⟨a3, s3⟩ := sent_of_laid (b := bErrDay) h1 (by repeat (first | exact List.Mem.head _ | apply List.Mem.tail)) gErrDay tErrDay
  obtain ⟨a4, s4⟩ := sent_of_laid (b := bErrPath) h1 (by repeat (first | exact List.Mem.head _ | apply List.Mem.tail)) gErrPath tErrPath
  obtain ⟨a5, s5⟩ := sent_of_laid (b := bErrWords) h1 (by repeat (first | exact List.Mem.head _ | apply List.Mem.tail)) gErrWords tErrWords
  obtain ⟨a6, s6⟩ := sent_of_laid (b := bErrName) h1 (by repeat (first | exact List.Mem.head _ | apply List.Mem.tail)) gErrName tErrName
  obtain ⟨a7, s7⟩ := sent_of_laid (b := bErrOrder) h1 (by repeat (first | exact List.Mem.head _ | apply List.Mem.tail)) gErrOrder tErrOrder
  obtain ⟨a8, s8⟩ := sent_of_laid (b := bErrKind) h1 (by repeat (first | exact List.Mem.head _ | apply List.Mem.tail)) gErrKind tErrKind
  obtain ⟨a9, s9⟩ := sent_of_laid (b := bErrProof) h1 (by repeat (first | exact List.Mem.head _ | apply List.Mem.tail)) gErrProof tErrProof
  obtain ⟨a10, s10⟩ := sent_of_laid (b := bErrStage) h1 (by repeat (first | exact List.Mem.head _ | apply List.Mem.tail)) gErrStage tErrStage
  refine ⟨fun k => match k with | 0 => a0 | 1 => a1 | 2 => a2 | 3 => a3 | 4 => a4 | 5 => a5 | 6 => a6 | 7 => a7 | 8 => a8 | 9 => a9 | _ => a10, s0.v, s1.v, s2.v, s3.v, s4.v, s5.v, s6.v, s7.v, s8.v, s9.v, s10.v, ?_, ?_, handle_of h2 (List.Mem.head _)⟩
  · intro k hk
    have : k = 0 ∨ k = 1 ∨ k = 2 ∨ k = 3 ∨ k = 4 ∨ k = 5 ∨ k = 6 ∨ k = 7 ∨ k = 8 ∨ k = 9 ∨ k = 10 := by omega
    rcases this with rfl | rfl | rfl | rfl | rfl | rfl | rfl | rfl | rfl | rfl | rfl
    · exact s0.blk
    · exact s1.blk
    · exact s2.blk
    · exact s3.blk
    · exact s4.blk
    · exact s5.blk
    · exact s6.blk
    · exact s7.blk
    · exact s8.blk
    · exact s9.blk
    · exact s10.blk
  · intro i j hi hj hij
    have hi' : i = 0 ∨ i = 1 ∨ i = 2 ∨ i = 3 ∨ i = 4 ∨ i = 5 ∨ i = 6 ∨ i = 7 ∨ i = 8 ∨ i = 9 ∨ i = 10 := by omega
    have hj' : j = 0 ∨ j = 1 ∨ j = 2 ∨ j = 3 ∨ j = 4 ∨ j = 5 ∨ j = 6 ∨ j = 7 ∨ j = 8 ∨ j = 9 ∨ j = 10 := by omega
    rcases hi' with rfl | rfl | rfl | rfl | rfl | rfl | rfl | rfl | rfl | rfl | rfl <;> rcases hj' with rfl | rfl | rfl | rfl | rfl | rfl | rfl | rfl | rfl | rfl | rfl <;>
      first | exact absurd rfl hij | (refine SentAt.ne (by assumption) (by assumption) ?_; decide)
end Go.Proofs.YtflklbhgjfonbaaGreatDoor.Err
namespace Go.Proofs.YtflklbhgjfonbaaGreatDoor.Laid5
open Go.RowKit Go.ChangeShapes Err

def errNames : List String := ["errors.errorType", "statute/api.ErrText", "statute/api.ErrBound", "statute/api.ErrCoin", "statute/api.ErrDay", "statute/api.ErrPath", "statute/api.ErrWords", "statute/api.ErrName", "statute/api.ErrOrder", "statute/api.ErrKind", "statute/api.ErrProof", "statute/api.ErrStage"]
theorem errs_of {W : World} {L : List (String × DataW Unit)} (h : laidMetH Tryz.prog L W) (hf : (L.filter fun x => errNames.contains x.1) = allL) : ∃ A, Errs W A :=
  errs_of_laid (hf ▸ h.filter fun x => errNames.contains x.1)
end Go.Proofs.YtflklbhgjfonbaaGreatDoor.Laid5

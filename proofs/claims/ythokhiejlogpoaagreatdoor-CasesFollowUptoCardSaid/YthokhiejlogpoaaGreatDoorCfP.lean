/- A theory with rulings, in plain lists; the theory that is built, in memory. Copies of ints and of pairs. -/
import Derived.Test.YthokhiejlogpoaaGreatDoorLawT
import Derived.Test.YthokhiejlogpoaaGreatDoorApp
import Derived.Lib.OwnKind
namespace Go.Proofs.YthokhiejlogpoaaGreatDoor.Cf
open Go.RowKit Mem Thy Nest Day Thm Solve Val LawT App

/-- a ruling: its head, its body, its rank, and where the body lies -/
structure Ru where
  head : Int
  body : List Int
  rank : Int
  A : Option Addr
  c : Nat
def ruCells (r : Ru) : List Value := [.int .i64 r.head, .slice r.A r.body.length r.c, .int .i64 r.rank]
theorem ruCells_len (r : Ru) : (ruCells r).length = 3 := rfl
structure Rus (w : World) (A : Option Addr) (ls : List Ru) : Prop where
  rows : Rd w A (ls.flatMap ruCells)
  bods : ∀ r ∈ ls, Rd w r.A (ints r.body)
  lens : ∀ r ∈ ls, r.body.length ≤ r.c ∧ r.c ≤ maxLen
theorem Rus.ext {w w' : World} {A : Option Addr} {ls : List Ru} (h : Rus w A ls) (hb : Below w.heap.size w w') : Rus w' A ls :=
  ⟨h.rows.ext hb, fun r hr => (h.bods r hr).ext hb, h.lens⟩
theorem ru_at {w : World} {A : Option Addr} {ls : List Ru} (h : Rd w A (ls.flatMap ruCells)) {k : Nat} (hk : k < ls.length) :
    ∃ b o, A = some ⟨b, o, none⟩ ∧ w.cell? ⟨b, o + k * 3, none⟩ = some (.int .i64 ls[k].head) ∧ w.cell? ⟨b, o + k * 3 + 1, none⟩ = some (.slice ls[k].A ls[k].body.length ls[k].c) ∧ w.cell? ⟨b, o + k * 3 + 2, none⟩ = some (.int .i64 ls[k].rank) := by
  obtain ⟨b, o, e, hc⟩ := h.row ruCells_len hk (by omega)
  exact ⟨b, o, e, by simpa using hc 0 _ rfl, by simpa [Nat.add_assoc] using hc 1 _ rfl, by simpa [Nat.add_assoc] using hc 2 _ rfl⟩
/-! ### which rule is above which -/
def negW (h : Int) : Int := wrap64 (-h)
def onR (n i : Nat) (h : Int) (r : Rl) (k : Nat) : List (Int × Int) := if r.head = negW h then [(((n + i : Nat) : Int), (k : Int))] else []
/-- a ruling is above another one -/
def Abo (x y : Ru) (i k : Nat) : Prop := y.head = negW x.head ∧ (y.rank < x.rank ∨ (y.rank = x.rank ∧ k < i))
instance (x y : Ru) (i k : Nat) : Decidable (Abo x y i k) := by unfold Abo; exact inferInstance
def onL (n i : Nat) (x y : Ru) (k : Nat) : List (Int × Int) := if Abo x y i k then [(((n + i : Nat) : Int), ((n + k : Nat) : Int))] else []
def addR (n i : Nat) (h : Int) (rs : List Rl) : List (Int × Int) := rs.zipIdx.flatMap fun p => onR n i h p.1 p.2
def addL (n i : Nat) (x : Ru) (ls : List Ru) : List (Int × Int) := ls.zipIdx.flatMap fun p => onL n i x p.1 p.2
def adds (rs : List Rl) (all ls : List Ru) : List (Int × Int) := ls.zipIdx.flatMap fun p => addR rs.length p.2 p.1.head rs ++ addL rs.length p.2 p.1 all
theorem zip_take {α β : Type} (f : α × Nat → List β) (l : List α) {k : Nat} (h : k < l.length) : (l.take (k + 1)).zipIdx.flatMap f = (l.take k).zipIdx.flatMap f ++ f (l[k], k) := by
  rw [List.take_succ_eq_append_getElem h, List.zipIdx_append, List.flatMap_append]
  congr 1
  simp [List.length_take, Nat.min_eq_left (Nat.le_of_lt h)]
theorem zip_len {α β : Type} (f : α × Nat → List β) (m : Nat) (hf : ∀ p, (f p).length ≤ m) (l : List α) : ∀ k, k ≤ l.length → ((l.take k).zipIdx.flatMap f).length ≤ m * k
  | 0, _ => by simp
  | k + 1, h => by
    rw [zip_take f l (by omega), List.length_append]
    have h1 := zip_len f m hf l k (by omega)
    have h2 := hf (l[k]'(by omega), k)
    rw [Nat.mul_succ]
    omega
theorem addR_take {n i : Nat} {h : Int} {rs : List Rl} {k : Nat} (hk : k < rs.length) : addR n i h (rs.take (k + 1)) = addR n i h (rs.take k) ++ onR n i h rs[k] k := zip_take _ rs hk
theorem addL_take {n i : Nat} {x : Ru} {ls : List Ru} {k : Nat} (hk : k < ls.length) : addL n i x (ls.take (k + 1)) = addL n i x (ls.take k) ++ onL n i x ls[k] k := zip_take _ ls hk
theorem adds_take {rs : List Rl} {all ls : List Ru} {k : Nat} (hk : k < ls.length) : adds rs all (ls.take (k + 1)) = adds rs all (ls.take k) ++ (addR rs.length k ls[k].head rs ++ addL rs.length k ls[k] all) := zip_take _ ls hk
theorem addR_len (n i : Nat) (h : Int) (rs : List Rl) {k : Nat} (hk : k ≤ rs.length) : (addR n i h (rs.take k)).length ≤ k := by
  have := zip_len (fun p => onR n i h p.1 p.2) 1 (fun p => by unfold onR; split <;> simp) rs k hk
  unfold addR
  omega
theorem addL_len (n i : Nat) (x : Ru) (ls : List Ru) {k : Nat} (hk : k ≤ ls.length) : (addL n i x (ls.take k)).length ≤ k := by
  have := zip_len (fun p => onL n i x p.1 p.2) 1 (fun p => by unfold onL; split <;> simp) ls k hk
  unfold addL
  omega
theorem addR_full (n i : Nat) (h : Int) (rs : List Rl) : (addR n i h rs).length ≤ rs.length := by
  have := addR_len n i h rs (Nat.le_refl _)
  rwa [List.take_length] at this
theorem addL_full (n i : Nat) (x : Ru) (ls : List Ru) : (addL n i x ls).length ≤ ls.length := by
  have := addL_len n i x ls (Nat.le_refl _)
  rwa [List.take_length] at this
theorem adds_len (rs : List Rl) (all ls : List Ru) {k : Nat} (hk : k ≤ ls.length) : (adds rs all (ls.take k)).length ≤ (rs.length + all.length) * k :=
  zip_len _ (rs.length + all.length) (fun p => by
    rw [List.length_append]
    have := addR_full rs.length p.2 p.1.head rs
    have := addL_full rs.length p.2 p.1 all
    omega) ls k hk
/-- the rules of the rulings -/
def newR (ls : List Ru) : List Rl := ls.map fun r => ⟨1, r.head, r.body⟩
theorem newR_take {ls : List Ru} {k : Nat} (hk : k < ls.length) : newR (ls.take (k + 1)) = newR (ls.take k) ++ [⟨1, ls[k].head, ls[k].body⟩] := by
  unfold newR
  rw [List.take_succ_eq_append_getElem hk, List.map_append]
  rfl
/-! ### the theory that is built -/
theorem own_set_other {w : World} {base : Nat} {e : TypeId} {size n : Nat} {v : Value} {xs : List Value} (h : w.ownsRow base e size v n xs) {a : Addr} (ha : v.ownBlock ≠ some a.block) (u : Value) : (w.setCell a u).ownsRow base e size v n xs := by
  refine ⟨h.1, ?_⟩
  rcases h.2 with h | ⟨g, cap, cur, hv, hg, hb, hr⟩
  · exact .inl h
  · refine .inr ⟨g, cap, cur, hv, hg, ?_, hr⟩
    have hne : a.block ≠ g := fun e => ha (by rw [hv, e]; rfl)
    rw [← hb]
    simp [World.setCell, Array.getElem?_modify, hne]
theorem own_kind_ne {w : World} {base : Nat} {e T : TypeId} {size n G : Nat} {v : Value} {xs cs : List Value} (h : w.ownsRow base e size v n xs) (hb : Blk w G T cs) (hT : T ≠ e) : v.ownBlock ≠ some G := fun hk => by
  obtain ⟨c, fz, h3⟩ := Lib.ownsRow_kind h G hk
  unfold Blk at hb
  rw [hb] at h3
  simp only [Option.some.injEq, Obj.cells.injEq] at h3
  exact hT h3.2.1
/-- two rows of a call's own, of two kinds, lie apart -/
theorem own_two_ne {w : World} {base base' : Nat} {e e' : TypeId} {size size' n n' : Nat} {v v' : Value} {xs xs' : List Value} (h : w.ownsRow base e size v n xs) (h' : w.ownsRow base' e' size' v' n' xs') (he : e ≠ e') (k : Nat) (hk : v.ownBlock = some k) : v'.ownBlock ≠ some k := fun hk' => by
  obtain ⟨c, fz, h3⟩ := Lib.ownsRow_kind h k hk
  obtain ⟨c', fz', h4⟩ := Lib.ownsRow_kind h' k hk'
  rw [h3] at h4
  simp only [Option.some.injEq, Obj.cells.injEq] at h4
  exact he h4.2.1
/-- the types of a theory and of its rules: apart, and apart from the other rows' -/
structure Typs (TT TR : TypeId) : Prop where
  h1 : TT ≠ TR
  h2 : TT ≠ 169
  h3 : TT ≠ 3
  h4 : TR ≠ 169
  h5 : TR ≠ 3
/-- behind some rounds: block G holds the theory that is built; a rule's body is the call's own, or (where ar says so) lies in the elder memory -/
structure Fo (ar : Prop) (TT TR : TypeId) (w0 w : World) (G : Nat) (N : Int) (vR vO : Value) (rs : List Rw) (ov : List (Int × Int)) : Prop where
  ty : Typs TT TR
  below : Below w0.heap.size w0 w
  bs : w0.heap.size ≤ w.heap.size
  blk : Blk w G TT [.int .i64 N, vR, vO]
  bG : w0.heap.size ≤ G
  own : w.ownsRow w0.heap.size TR 3 vR rs.length (rs.flatMap rwCells)
  over : w.ownsRow w0.heap.size 169 2 vO ov.length (ov.flatMap prCells)
  bods : ∀ r ∈ rs, (RdK w 3 r.A (ints r.body) ∨ (ar ∧ Rd w0 r.A (ints r.body))) ∧ r.body.length ≤ r.c ∧ r.c ≤ maxLen
theorem or_imp_left {p q r : Prop} (h : p ∨ r) (f : p → q) : q ∨ r := h.elim (fun x => .inl (f x)) .inr
section
variable {ar : Prop} {TT TR : TypeId}
theorem Fo.ext {w0 w w' : World} {G : Nat} {N : Int} {vR vO : Value} {rs : List Rw} {ov : List (Int × Int)} (h : Fo ar TT TR w0 w G N vR vO rs ov) (hb : Below w.heap.size w w') : Fo ar TT TR w0 w' G N vR vO rs ov :=
  ⟨h.ty, h.below.trans (hb.mono h.bs), Nat.le_trans h.bs hb.size, Sol.blk_ext h.blk hb, h.bG, own_ext h.own hb, own_ext h.over hb, fun r hr => ⟨or_imp_left (h.bods r hr).1 fun x => x.ext hb, (h.bods r hr).2⟩⟩
theorem Fo.start {w0 w : World} {N : Int} {vO : Value} {ov : List (Int × Int)} (ty : Typs TT TR) (hb : Below w0.heap.size w0 w) (ho : w.ownsRow w0.heap.size 169 2 vO ov.length (ov.flatMap prCells)) :
    Fo ar TT TR w0 (w.alloc (.cells (List.toArray [.int .i64 N, .slice none 0 0, vO]) TT)) w.heap.size N (.slice none 0 0) vO [] ov :=
  ⟨ty, hb.trans ((ext_alloc w _).mono hb.size), Nat.le_trans hb.size (ext_alloc w (.cells (List.toArray [.int .i64 N, .slice none 0 0, vO]) TT)).size, Blk.new w _ _, hb.size, World.ownsRow_nil _ _ _ _, own_ext ho (ext_alloc w _), fun r hr => by cases hr⟩
theorem Fo.putRs {w0 w w0' w1 : World} {G : Nat} {N : Int} {vR vO v1 : Value} {rs rs2 : List Rw} {ov : List (Int × Int)} (h : Fo ar TT TR w0 w G N vR vO rs ov) (ha : Below w.heap.size w w0') (hg : w0'.grownBy w1 vR.ownBlock) (ho : w1.ownsRow w0.heap.size TR 3 v1 (rs.length + rs2.length) (rs.flatMap rwCells ++ rs2.flatMap rwCells)) (hr : ∀ r ∈ rs2, (RdK w 3 r.A (ints r.body) ∨ (ar ∧ Rd w0 r.A (ints r.body))) ∧ r.body.length ≤ r.c ∧ r.c ≤ maxLen) :
    Fo ar TT TR w0 (w1.setCell ⟨G, 1, none⟩ v1) G N v1 vO (rs ++ rs2) ov ∧ Blk w1 G TT [.int .i64 N, vR, vO] := by
  have hB : Below w0.heap.size w w0' := ha.mono h.bs
  have hsz : w0.heap.size ≤ w0'.heap.size := Nat.le_trans h.bs ha.size
  have hlt := fun g hg => (h.own.lt g hg).1
  have hB1 : Below w0.heap.size w w1 := hB.grown hg hsz hlt
  have hs1 : w0.heap.size ≤ w1.heap.size := Nat.le_trans hsz hg.size
  have hG1 : Blk w1 G TT [.int .i64 N, vR, vO] := by
    have h2 := Sol.blk_ext h.blk ha
    have hne := own_kind_ne h.own h.blk h.ty.h1
    unfold Blk at h2 ⊢
    rw [hg.block G (Array.getElem?_eq_some_iff.1 h2).1 (fun e => hne e.symm)]
    exact h2
  have hkind := Lib.ownsRow_kind (own_ext h.own ha)
  have hset : ∀ {A : Option Addr} {cs : List Value}, RdK w1 3 A cs → RdK (w1.setCell ⟨G, 1, none⟩ v1) 3 A cs := fun {A cs} hh => rdk_set hh (fun c fz => by
    unfold Blk at hG1
    rw [hG1]
    simp [h.ty.h3]) _
  have hmove : ∀ {A : Option Addr} {cs : List Value}, RdK w 3 A cs → RdK (w1.setCell ⟨G, 1, none⟩ v1) 3 A cs := fun hh => hset ((hh.ext ha).grown hg hkind h.ty.h5)
  refine ⟨⟨h.ty, (h.below.trans hB1).setCell h.bG _, by simpa using hs1, hG1.set 1 _, h.bG, ?_, ?_, ?_⟩, hG1⟩
  · have := own_set_other ho (a := ⟨G, 1, none⟩) (own_kind_ne ho hG1 h.ty.h1) v1
    rw [List.length_append, List.flatMap_append]
    exact this
  · have h1 : w1.ownsRow w0.heap.size 169 2 vO ov.length (ov.flatMap prCells) := by
      refine (own_ext h.over ha).kept hg ?_
      cases hb : vO.ownBlock with
      | none => exact .inl rfl
      | some k => exact .inr (fun e => own_two_ne h.over h.own (Ne.symm h.ty.h4) k hb e.symm)
    exact own_set_other h1 (a := ⟨G, 1, none⟩) (own_kind_ne h1 hG1 h.ty.h2) v1
  · intro x hx
    rcases List.mem_append.1 hx with hx | hx
    · exact ⟨or_imp_left (h.bods x hx).1 hmove, (h.bods x hx).2⟩
    · exact ⟨or_imp_left (hr x hx).1 hmove, (hr x hx).2⟩
theorem Fo.putR {w0 w w1 : World} {G : Nat} {N : Int} {vR vO v1 : Value} {rs : List Rw} {ov : List (Int × Int)} {r : Rw} {o : Obj} (h : Fo ar TT TR w0 w G N vR vO rs ov) (hg : (w.alloc o).grownBy w1 vR.ownBlock) (ho : w1.ownsRow w0.heap.size TR 3 v1 (rs.length + 1) (rs.flatMap rwCells ++ rwCells r)) (hr : (RdK w 3 r.A (ints r.body) ∨ (ar ∧ Rd w0 r.A (ints r.body))) ∧ r.body.length ≤ r.c ∧ r.c ≤ maxLen) :
    Fo ar TT TR w0 (w1.setCell ⟨G, 1, none⟩ v1) G N v1 vO (rs ++ [r]) ov ∧ Blk w1 G TT [.int .i64 N, vR, vO] :=
  h.putRs (rs2 := [r]) (ext_alloc w o) hg (by simpa using ho) fun x hx => by
    rw [List.mem_singleton] at hx
    subst hx
    exact hr
theorem Fo.putOs {w0 w w0' w1 : World} {G : Nat} {N : Int} {vR vO v1 : Value} {rs : List Rw} {ov ps : List (Int × Int)} (h : Fo ar TT TR w0 w G N vR vO rs ov) (ha : Below w.heap.size w w0') (hg : w0'.grownBy w1 vO.ownBlock) (ho : w1.ownsRow w0.heap.size 169 2 v1 (ov.length + ps.length) (ov.flatMap prCells ++ ps.flatMap prCells)) :
    Fo ar TT TR w0 (w1.setCell ⟨G, 2, none⟩ v1) G N vR v1 rs (ov ++ ps) ∧ Blk w1 G TT [.int .i64 N, vR, vO] := by
  have hB : Below w0.heap.size w w0' := ha.mono h.bs
  have hsz : w0.heap.size ≤ w0'.heap.size := Nat.le_trans h.bs ha.size
  have hlt := fun g hg => (h.over.lt g hg).1
  have hB1 : Below w0.heap.size w w1 := hB.grown hg hsz hlt
  have hs1 : w0.heap.size ≤ w1.heap.size := Nat.le_trans hsz hg.size
  have hG1 : Blk w1 G TT [.int .i64 N, vR, vO] := by
    have h2 := Sol.blk_ext h.blk ha
    have hne := own_kind_ne h.over h.blk h.ty.h2
    unfold Blk at h2 ⊢
    rw [hg.block G (Array.getElem?_eq_some_iff.1 h2).1 (fun e => hne e.symm)]
    exact h2
  have hkind := Lib.ownsRow_kind (own_ext h.over ha)
  have hset : ∀ {A : Option Addr} {cs : List Value}, RdK w1 3 A cs → RdK (w1.setCell ⟨G, 2, none⟩ v1) 3 A cs := fun {A cs} hh => rdk_set hh (fun c fz => by
    unfold Blk at hG1
    rw [hG1]
    simp [h.ty.h3]) _
  have hmove : ∀ {A : Option Addr} {cs : List Value}, RdK w 3 A cs → RdK (w1.setCell ⟨G, 2, none⟩ v1) 3 A cs := fun hh => hset ((hh.ext ha).grown hg hkind (by decide))
  refine ⟨⟨h.ty, (h.below.trans hB1).setCell h.bG _, by simpa using hs1, hG1.set 2 _, h.bG, ?_, ?_, ?_⟩, hG1⟩
  · have h1 : w1.ownsRow w0.heap.size TR 3 vR rs.length (rs.flatMap rwCells) := by
      refine (own_ext h.own ha).kept hg ?_
      cases hb : vR.ownBlock with
      | none => exact .inl rfl
      | some k => exact .inr (fun e => own_two_ne h.own h.over h.ty.h4 k hb e.symm)
    exact own_set_other h1 (a := ⟨G, 2, none⟩) (own_kind_ne h1 hG1 h.ty.h1) v1
  · have := own_set_other ho (a := ⟨G, 2, none⟩) (own_kind_ne ho hG1 h.ty.h2) v1
    rw [List.length_append, List.flatMap_append]
    exact this
  · intro x hx
    exact ⟨or_imp_left (h.bods x hx).1 hmove, (h.bods x hx).2⟩
theorem Fo.putO {w0 w w1 : World} {G : Nat} {N : Int} {vR vO v1 : Value} {rs : List Rw} {ov : List (Int × Int)} {p : Int × Int} {o : Obj} (h : Fo ar TT TR w0 w G N vR vO rs ov) (hg : (w.alloc o).grownBy w1 vO.ownBlock) (ho : w1.ownsRow w0.heap.size 169 2 v1 (ov.length + 1) (ov.flatMap prCells ++ prCells p)) :
    Fo ar TT TR w0 (w1.setCell ⟨G, 2, none⟩ v1) G N vR v1 rs (ov ++ [p]) ∧ Blk w1 G TT [.int .i64 N, vR, vO] :=
  h.putOs (ps := [p]) (ext_alloc w o) hg (by simpa using ho)
theorem own_sl {w : World} {base : Nat} {e : TypeId} {size n : Nat} {v : Value} {xs : List Value} (h : w.ownsRow base e size v n xs) : ∃ A c, v = .slice A n c ∧ n ≤ c ∧ c ≤ maxLen ∧ (A = none → c = 0) := by
  rcases h.2 with h2 | ⟨g, cap, cur, hv, hg, hb, hr⟩
  · obtain ⟨A, c, e, h1, h3⟩ := own_slice h
    refine ⟨A, c, e, h1, h3, fun _ => ?_⟩
    have := h2.1
    rw [e] at this
    cases this
    rfl
  · obtain ⟨A, c, e, h1, h3⟩ := own_slice h
    refine ⟨A, c, e, h1, h3, fun hn => ?_⟩
    rw [e, hn] at hv
    cases hv
theorem Fo.rws {w0 w : World} {G : Nat} {N : Int} {vO : Value} {rs : List Rw} {ov : List (Int × Int)} {A : Option Addr} {n c : Nat} (h : Fo ar TT TR w0 w G N (.slice A n c) vO rs ov) : Rws w A rs := by
  obtain ⟨A', c', e, h1, h2, _⟩ := own_sl h.own
  cases e
  refine ⟨Rd.of_own h.own, fun r hr => ?_, fun r hr => (h.bods r hr).2, Nat.le_trans h1 h2⟩
  rcases (h.bods r hr).1 with x | x
  · exact x.rd
  · exact x.2.ext h.below
theorem Fo.rdo {w0 w : World} {G : Nat} {N : Int} {vR : Value} {rs : List Rw} {ov : List (Int × Int)} {A : Option Addr} {n c : Nat} (h : Fo ar TT TR w0 w G N vR (.slice A n c) rs ov) : Rd w A (ov.flatMap prCells) := by
  obtain ⟨A', c', e, h1, h2, _⟩ := own_sl h.over
  cases e
  exact Rd.of_own h.over
end
end Go.Proofs.YthokhiejlogpoaaGreatDoor.Cf
namespace Go.Proofs.YthokhiejlogpoaaGreatDoor.Cf
open Go.RowKit Mem Nest Thm LawT Val App

theorem cloneI_any (zs : List Int) (hl : zs.length ≤ 1048576) (A : Option Addr) (c : Nat) (w : World) (hr : Rd w A (ints zs)) :
    Calls Tryz.prog 60 #[.slice A zs.length c] w fun e w' => (∃ v, e = .returned v ∧ w'.ownsRow w.heap.size 3 1 v zs.length (ints zs)) ∧ Below w.heap.size w w' := by
  have HR := Lib.hid hr
  clear hr
  obtain ⟨i0, hi, hz0, hz1, hz2⟩ := info_parts int_info
  have HI := Lib.hid hi
  have HZ0 := Lib.hid hz0
  have HZ1 := Lib.hid hz1
  have HZ2 := Lib.hid hz2
  clear hi hz0 hz1 hz2
  have HNil : A = none → zs = [] := fun h => by
    subst h
    cases zs with
    | nil => rfl
    | cons e es => obtain ⟨_, _, h, _⟩ := HR.out 0 _ rfl; cases h
  have q : ∀ (w : World) (a : Option Addr) (n c n' c' : Nat), (binOp .eql 35 (.slice a n c) (.slice none n' c')).run Tryz.prog w = .ok (.bool a.isNone) w := fun w a n c n' c' => Lib.run_eql_slice_nil w _ _ a n c n' c' Tryz.underlying35
  cases A with
  | none =>
    obtain rfl := HNil rfl
    clear HNil
    go_enter Tryz.func60, Tryz.ntmps60
    go_wp2_with fail
    go_ret
    exact ⟨⟨_, rfl, World.ownsRow_nil _ _ _ _⟩, Below.refl _ _⟩
  | some a =>
    clear HNil
    go_enter Tryz.func60, Tryz.ntmps60
    go_wp2_with (at_builtin; refine wpList_append_own _ rfl _ _ 35 rfl w.heap.size 3 i0 _ 1 8 Tryz.underlying35 HI.out HZ0.out HZ1.out HZ2.out rfl (by omega) _ _ _ rfl (World.ownsRow_made w #[] 0 (Nat.le_refl _) (Nat.zero_le _) (by simp)) a zs.length c (ints zs) rfl ?qc1 ?qc2 ?qc3 ?qc4 ?qc5 ?qc6 ?_)
    case qc1 => simp [ints]
    case qc2 =>
      intro j u hj
      obtain ⟨b, o, e, hc⟩ := HR.out j u hj
      obtain rfl := Option.some.inj e
      rw [show (⟨b, o, none⟩ : Addr).add j = ⟨b, o + j, none⟩ from Addr.add_lit _ _ _]
      exact Lib.cell?_alloc_some _ hc
    case qc3 => exact ints_one zs
    case qc4 => rw [Nat.zero_add]; simp only [maxLen]; omega
    case qc5 => rw [Nat.zero_add]; omega
    case qc6 => simp
    intro v' w1 hown hgrow hnil
    have HO := Lib.hid hown
    have HB := Lib.hid (((Below.refl _ w).alloc (Nat.le_refl _) _).grown hgrow (by simp) (by intro k hk; simp [Value.ownBlock] at hk; omega))
    clear hown hgrow hnil
    go_wp2_with fail
    go_ret
    exact ⟨⟨_, rfl, by have h := HO.out; simpa using h⟩, HB.out⟩
theorem cloneP_any (zs : List (Int × Int)) (hl : zs.length ≤ 1048576) (A : Option Addr) (c : Nat) (w : World) (hr : Rd w A (zs.flatMap prCells)) :
    Calls Tryz.prog 85 #[.slice A zs.length c] w fun e w' => (∃ v, e = .returned v ∧ w'.ownsRow w.heap.size 169 2 v zs.length (zs.flatMap prCells)) ∧ Below w.heap.size w w' := by
  have HR := Lib.hid hr
  clear hr
  obtain ⟨i0, hi, hz0, hz1, hz2⟩ := info_parts pair_info
  have HI := Lib.hid hi
  have HZ0 := Lib.hid hz0
  have HZ1 := Lib.hid hz1
  have HZ2 := Lib.hid hz2
  clear hi hz0 hz1 hz2
  have HNil : A = none → zs = [] := fun h => by
    subst h
    cases zs with
    | nil => rfl
    | cons e es => obtain ⟨_, _, h, _⟩ := HR.out 0 _ rfl; cases h
  have q : ∀ (w : World) (a : Option Addr) (n c n' c' : Nat), (binOp .eql 98 (.slice a n c) (.slice none n' c')).run Tryz.prog w = .ok (.bool a.isNone) w := fun w a n c n' c' => Lib.run_eql_slice_nil w _ _ a n c n' c' Tryz.underlying98
  cases A with
  | none =>
    obtain rfl := HNil rfl
    clear HNil
    go_enter Tryz.func85, Tryz.ntmps85
    go_wp2_with fail
    go_ret
    exact ⟨⟨_, rfl, World.ownsRow_nil _ _ _ _⟩, Below.refl _ _⟩
  | some a =>
    clear HNil
    go_enter Tryz.func85, Tryz.ntmps85
    go_wp2_with (at_builtin; refine wpList_append_own _ rfl _ _ 98 rfl w.heap.size 169 i0 _ 2 16 Tryz.underlying98 HI.out HZ0.out HZ1.out HZ2.out rfl (by omega) _ _ _ rfl (World.ownsRow_made w #[] 0 (Nat.le_refl _) (Nat.zero_le _) (by simp)) a zs.length c (zs.flatMap prCells) rfl ?qc1 ?qc2 ?qc3 ?qc4 ?qc5 ?qc6 ?_)
    case qc1 => exact flat_len prCells_len zs
    case qc2 =>
      intro j u hj
      obtain ⟨b, o, e, hc⟩ := HR.out j u hj
      obtain rfl := Option.some.inj e
      rw [show (⟨b, o, none⟩ : Addr).add j = ⟨b, o + j, none⟩ from Addr.add_lit _ _ _]
      exact Lib.cell?_alloc_some _ hc
    case qc3 => exact prs_one zs
    case qc4 => rw [Nat.zero_add]; simp only [maxLen]; omega
    case qc5 => rw [Nat.zero_add]; omega
    case qc6 => simp
    intro v' w1 hown hgrow hnil
    have HO := Lib.hid hown
    have HB := Lib.hid (((Below.refl _ w).alloc (Nat.le_refl _) _).grown hgrow (by simp) (by intro k hk; simp [Value.ownBlock] at hk; omega))
    clear hown hgrow hnil
    go_wp2_with fail
    go_ret
    exact ⟨⟨_, rfl, by have h := HO.out; simpa using h⟩, HB.out⟩
end Go.Proofs.YthokhiejlogpoaaGreatDoor.Cf

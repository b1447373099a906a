/- A theory with rulings, in plain lists; the theory that is built, in memory. Copies of ints and of pairs. -/
import Derived.Test.YtjfiodknjchngaaGreatDoorLawT
import Derived.Test.YtjfiodknjchngaaGreatDoorApp
import Derived.Lib.OwnKind
namespace Go.Proofs.YtjfiodknjchngaaGreatDoor.Cf
open Go.RowKit Mem Thy Nest Day Thm Solve Val LawT App

/-- a ruling: its head, its body, its rank, and where the body lies -/
structure Ru where
  head : Int
  body : List Int
  rank : Int
  A : Option Addr
  c : Nat
def ruCells (r : Ru) : List Value := [.int .i64 r.head, .slice r.A r.body.length r.c, .int .i64 r.rank]
theorem ruCells_len (r : Ru) : (ruCells r).length = 3 := rfl
structure Rus (w : World) (A : Option Addr) (ls : List Ru) : Prop where
  rows : Rd w A (ls.flatMap ruCells)
  bods : ∀ r ∈ ls, Rd w r.A (ints r.body)
  lens : ∀ r ∈ ls, r.body.length ≤ r.c ∧ r.c ≤ maxLen
theorem Rus.ext {w w' : World} {A : Option Addr} {ls : List Ru} (h : Rus w A ls) (hb : Below w.heap.size w w') : Rus w' A ls :=
  ⟨h.rows.ext hb, fun r hr => (h.bods r hr).ext hb, h.lens⟩
theorem ru_at {w : World} {A : Option Addr} {ls : List Ru} (h : Rd w A (ls.flatMap ruCells)) {k : Nat} (hk : k < ls.length) :
    ∃ b o, A = some ⟨b, o, none⟩ ∧ w.cell? ⟨b, o + k * 3, none⟩ = some (.int .i64 ls[k].head) ∧ w.cell? ⟨b, o + k * 3 + 1, none⟩ = some (.slice ls[k].A ls[k].body.length ls[k].c) ∧ w.cell? ⟨b, o + k * 3 + 2, none⟩ = some (.int .i64 ls[k].rank) := by
  obtain ⟨b, o, e, hc⟩ := h.row ruCells_len hk (by omega)
  exact ⟨b, o, e, by simpa using hc 0 _ rfl, by simpa [Nat.add_assoc] using hc 1 _ rfl, by simpa [Nat.add_assoc] using hc 2 _ rfl⟩
/-! ### which rule is above which -/
def negW (h : Int) : Int := wrap64 (-h)
def onR (n i : Nat) (h : Int) (r : Rl) (k : Nat) : List (Int × Int) := if r.head = negW h then [(((n + i : Nat) : Int), (k : Int))] else []
/-- a ruling is above another one -/
def Abo (x y : Ru) (i k : Nat) : Prop := y.head = negW x.head ∧ (y.rank < x.rank ∨ (y.rank = x.rank ∧ k < i))
instance (x y : Ru) (i k : Nat) : Decidable (Abo x y i k) := by unfold Abo; exact inferInstance
def onL (n i : Nat) (x y : Ru) (k : Nat) : List (Int × Int) := if Abo x y i k then [(((n + i : Nat) : Int), ((n + k : Nat) : Int))] else []
def addR (n i : Nat) (h : Int) (rs : List Rl) : List (Int × Int) := rs.zipIdx.flatMap fun p => onR n i h p.1 p.2
def addL (n i : Nat) (x : Ru) (ls : List Ru) : List (Int × Int) := ls.zipIdx.flatMap fun p => onL n i x p.1 p.2
def adds (rs : List Rl) (all ls : List Ru) : List (Int × Int) := ls.zipIdx.flatMap fun p => addR rs.length p.2 p.1.head rs ++ addL rs.length p.2 p.1 all
theorem zip_take {α β : Type} (f : α × Nat → List β) (l : List α) {k : Nat} (h : k < l.length) : (l.take (k + 1)).zipIdx.flatMap f = (l.take k).zipIdx.flatMap f ++ f (l[k], k) := by
  rw [List.take_succ_eq_append_getElem h, List.zipIdx_append, List.flatMap_append]
  congr 1
  simp [List.length_take, Nat.min_eq_left (Nat.le_of_lt h)]
theorem zip_len {α β : Type} (f : α × Nat → List β) (m : Nat) (hf : ∀ p, (f p).length ≤ m) (l : List α) : ∀ k, k ≤ l.length → ((l.take k).zipIdx.flatMap f).length ≤ m * k
  | 0, _ => by simp
  | k + 1, h => by
    rw [zip_take f l (by omega), List.length_append]
    have h1 := zip_len f m hf l k (by omega)
    have h2 := hf (l[k]'(by omega), k)
    rw [Nat.mul_succ]
    omega
theorem addR_take {n i : Nat} {h : Int} {rs : List Rl} {k : Nat} (hk : k < rs.length) : addR n i h (rs.take (k + 1)) = addR n i h (rs.take k) ++ onR n i h rs[k] k := zip_take _ rs hk
theorem addL_take {n i : Nat} {x : Ru} {ls : List Ru} {k : Nat} (hk : k < ls.length) : addL n i x (ls.take (k + 1)) = addL n i x (ls.take k) ++ onL n i x ls[k] k := zip_take _ ls hk
theorem adds_take {rs : List Rl} {all ls : List Ru} {k : Nat} (hk : k < ls.length) : adds rs all (ls.take (k + 1)) = adds rs all (ls.take k) ++ (addR rs.length k ls[k].head rs ++ addL rs.length k ls[k] all) := zip_take _ ls hk
theorem addR_len (n i : Nat) (h : Int) (rs : List Rl) {k : Nat} (hk : k ≤ rs.length) : (addR n i h (rs.take k)).length ≤ k := by
  have := zip_len (fun p => onR n i h p.1 p.2) 1 (fun p => by unfold onR; split <;> simp) rs k hk
  unfold addR
  omega
theorem addL_len (n i : Nat) (x : Ru) (ls : List Ru) {k : Nat} (hk : k ≤ ls.length) : (addL n i x (ls.take k)).length ≤ k := by
  have := zip_len (fun p => onL n i x p.1 p.2) 1 (fun p => by unfold onL; split <;> simp) ls k hk
  unfold addL
  omega
theorem addR_full (n i : Nat) (h : Int) (rs : List Rl) : (addR n i h rs).length ≤ rs.length := by
  have := addR_len n i h rs (Nat.le_refl _)
  rwa [List.take_length] at this
theorem addL_full (n i : Nat) (x : Ru) (ls : List Ru) : (addL n i x ls).length ≤ ls.length := by
  have := addL_len n i x ls (Nat.le_refl _)
  rwa [List.take_length] at this
theorem adds_len (rs : List Rl) (all ls : List Ru) {k : Nat} (hk : k ≤ ls.length) : (adds rs all (ls.take k)).length ≤ (rs.length + all.length) * k :=
  zip_len _ (rs.length + all.length) (fun p => by
    rw [List.length_append]
    have := addR_full rs.length p.2 p.1.head rs
    have := addL_full rs.length p.2 p.1 all
    omega) ls k hk
/-- the rules of the rulings -/
def newR (ls : List Ru) : List Rl := ls.map fun r => ⟨1, r.head, r.body⟩
theorem newR_take {ls : List Ru} {k : Nat} (hk : k < ls.length) : newR (ls.take (k + 1)) = newR (ls.take k) ++ [⟨1, ls[k].head, ls[k].body⟩] := by
  unfold newR
  rw [List.take_succ_eq_append_getElem hk, List.map_append]
  rfl
/-! ### the theory that is built -/
theorem own_set_other {w : World} {base : Nat} {e : TypeId} {size n : Nat} {v : Value} {xs : List Value} (h : w.ownsRow base e size v n xs) {a : Addr} (ha : v.ownBlock ≠ some a.block) (u : Value) : (w.setCell a u).ownsRow base e size v n xs := by
  refine ⟨h.1, ?_⟩
  rcases h.2 with h | ⟨g, cap, cur, hv, hg, hb, hr⟩
  · exact .inl h
  · refine .inr ⟨g, cap, cur, hv, hg, ?_, hr⟩
    have hne : a.block ≠ g := fun e => ha (by rw [hv, e]; rfl)
    rw [← hb]
    simp [World.setCell, Array.getElem?_modify, hne]
theorem own_kind_ne {w : World} {base : Nat} {e T : TypeId} {size n G : Nat} {v : Value} {xs cs : List Value} (h : w.ownsRow base e size v n xs) (hb : Blk w G T cs) (hT : T ≠ e) : v.ownBlock ≠ some G := fun hk => by
  obtain ⟨c, fz, h3⟩ := Lib.ownsRow_kind h G hk
  unfold Blk at hb
  rw [hb] at h3
  simp only [Option.some.injEq, Obj.cells.injEq] at h3
  exact hT h3.2.1
/-- two rows of a call's own, of two kinds, lie apart -/
theorem own_two_ne {w : World} {base base' : Nat} {e e' : TypeId} {size size' n n' : Nat} {v v' : Value} {xs xs' : List Value} (h : w.ownsRow base e size v n xs) (h' : w.ownsRow base' e' size' v' n' xs') (he : e ≠ e') (k : Nat) (hk : v.ownBlock = some k) : v'.ownBlock ≠ some k := fun hk' => by
  obtain ⟨c, fz, h3⟩ := Lib.ownsRow_kind h k hk
  obtain ⟨c', fz', h4⟩ := Lib.ownsRow_kind h' k hk'
  rw [h3] at h4
  simp only [Option.some.injEq, Obj.cells.injEq] at h4
  exact he h4.2.1
theorem or_imp_left {p q r : Prop} (h : p ∨ r) (f : p → q) : q ∨ r := h.elim (fun x => .inl (f x)) .inr
section
variable {ar : Prop} {TT TR : TypeId}
theorem own_sl {w : World} {base : Nat} {e : TypeId} {size n : Nat} {v : Value} {xs : List Value} (h : w.ownsRow base e size v n xs) : ∃ A c, v = .slice A n c ∧ n ≤ c ∧ c ≤ maxLen ∧ (A = none → c = 0) := by
  rcases h.2 with h2 | ⟨g, cap, cur, hv, hg, hb, hr⟩
  · obtain ⟨A, c, e, h1, h3⟩ := own_slice h
    refine ⟨A, c, e, h1, h3, fun _ => ?_⟩
    have := h2.1
    rw [e] at this
    cases this
    rfl
  · obtain ⟨A, c, e, h1, h3⟩ := own_slice h
    refine ⟨A, c, e, h1, h3, fun hn => ?_⟩
    rw [e, hn] at hv
    cases hv
end
end Go.Proofs.YtjfiodknjchngaaGreatDoor.Cf
namespace Go.Proofs.YtjfiodknjchngaaGreatDoor.Cf
open Go.RowKit Mem Nest Thm LawT Val App

theorem cloneI_any (zs : List Int) (hl : zs.length ≤ 1048576) (A : Option Addr) (c : Nat) (w : World) (hr : Rd w A (ints zs)) :
    Calls Tryz.prog 35 #[.slice A zs.length c] w fun e w' => (∃ v, e = .returned v ∧ w'.ownsRow w.heap.size 3 1 v zs.length (ints zs)) ∧ Below w.heap.size w w' := by
  have HR := Lib.hid hr
  clear hr
  obtain ⟨i0, hi, hz0, hz1, hz2⟩ := info_parts int_info
  have HI := Lib.hid hi
  have HZ0 := Lib.hid hz0
  have HZ1 := Lib.hid hz1
  have HZ2 := Lib.hid hz2
  clear hi hz0 hz1 hz2
  have HNil : A = none → zs = [] := fun h => by
    subst h
    cases zs with
    | nil => rfl
    | cons e es => obtain ⟨_, _, h, _⟩ := HR.out 0 _ rfl; cases h
  have q : ∀ (w : World) (a : Option Addr) (n c n' c' : Nat), (binOp .eql 24 (.slice a n c) (.slice none n' c')).run Tryz.prog w = .ok (.bool a.isNone) w := fun w a n c n' c' => Lib.run_eql_slice_nil w _ _ a n c n' c' Tryz.underlying24
  cases A with
  | none =>
    obtain rfl := HNil rfl
    clear HNil
    go_enter Tryz.func35, Tryz.ntmps35
    go_wp2_with fail
    go_ret
    exact ⟨⟨_, rfl, World.ownsRow_nil _ _ _ _⟩, Below.refl _ _⟩
  | some a =>
    clear HNil
    go_enter Tryz.func35, Tryz.ntmps35
    go_wp2_with (at_builtin; refine wpList_append_own _ rfl _ _ 24 rfl w.heap.size 3 i0 _ 1 8 Tryz.underlying24 HI.out HZ0.out HZ1.out HZ2.out rfl (by omega) _ _ _ rfl (World.ownsRow_made w #[] 0 (Nat.le_refl _) (Nat.zero_le _) (by simp)) a zs.length c (ints zs) rfl ?qc1 ?qc2 ?qc3 ?qc4 ?qc5 ?qc6 ?_)
    case qc1 => simp [ints]
    case qc2 =>
      intro j u hj
      obtain ⟨b, o, e, hc⟩ := HR.out j u hj
      obtain rfl := Option.some.inj e
      rw [show (⟨b, o, none⟩ : Addr).add j = ⟨b, o + j, none⟩ from Addr.add_lit _ _ _]
      exact Lib.cell?_alloc_some _ hc
    case qc3 => exact ints_one zs
    case qc4 => rw [Nat.zero_add]; simp only [maxLen]; omega
    case qc5 => rw [Nat.zero_add]; omega
    case qc6 => simp
    intro v' w1 hown hgrow hnil
    have HO := Lib.hid hown
    have HB := Lib.hid (((Below.refl _ w).alloc (Nat.le_refl _) _).grown hgrow (by simp) (by intro k hk; simp [Value.ownBlock] at hk; omega))
    clear hown hgrow hnil
    go_wp2_with fail
    go_ret
    exact ⟨⟨_, rfl, by have h := HO.out; simpa using h⟩, HB.out⟩
end Go.Proofs.YtjfiodknjchngaaGreatDoor.Cf

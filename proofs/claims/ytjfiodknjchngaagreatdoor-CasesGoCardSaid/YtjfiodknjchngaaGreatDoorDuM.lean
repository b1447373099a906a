/- Duties in plain lists: how one stands on a day, and that what is done is done. Duties in memory; an append that keeps what lay in the row. -/
import Derived.Test.YtjfiodknjchngaaGreatDoorProg
import Derived.IntWalk
import Derived.Test.YtjfiodknjchngaaGreatDoorNest
import Derived.Test.YtjfiodknjchngaaGreatDoorSol
import Derived.Deep.DeepAppendRoom
import Derived.Laws.OwnMore
import Derived.Laws.StructEq
namespace Go.Proofs.YtjfiodknjchngaaGreatDoor.Dut

structure Ev where
  day : Int
  name : List UInt8
  who : List UInt8
  wv : Bool
structure Dt where
  name : List UInt8
  who : List UInt8
  fr : Int
  till : Int
  els : List UInt8
  n : Int
  u : Int
  r : Int
def str (l : List UInt8) : Value := .string ⟨l.toArray⟩
def evCells (e : Ev) : List Value := [.int .i64 e.day, .string ⟨e.name.toArray⟩, .string ⟨e.who.toArray⟩, .bool e.wv]
def dtCells (d : Dt) : List Value := [.string ⟨d.name.toArray⟩, .string ⟨d.who.toArray⟩, .int .i64 d.fr, .int .i64 d.till, .string ⟨d.els.toArray⟩, .int .i64 d.n, .int .i64 d.u, .int .i64 d.r]
structure Ro where
  d : Dt
  st : Int
  day : Int
  of : Int
def roCells (r : Ro) : List Value := dtCells r.d ++ [.int .i64 r.st, .int .i64 r.day, .int .i64 r.of]
theorem evCells_len (e : Ev) : (evCells e).length = 4 := rfl
theorem dtCells_len (d : Dt) : (dtCells d).length = 8 := rfl
theorem roCells_len (r : Ro) : (roCells r).length = 11 := rfl

def Hit (x : Dt) (wv : Bool) (on : Int) (d : Int) (e : Ev) : Prop := e.name = x.name ∧ e.who = x.who ∧ e.wv = wv ∧ x.fr ≤ e.day ∧ e.day ≤ on ∧ (d = 0 ∨ e.day < d)
instance (x : Dt) (wv : Bool) (on : Int) (d : Int) (e : Ev) : Decidable (Hit x wv on d e) := by unfold Hit; exact inferInstance
def fstep (x : Dt) (wv : Bool) (on : Int) (d : Int) (e : Ev) : Int := if Hit x wv on d e then e.day else d
def firstP (x : Dt) (wv : Bool) (on : Int) (es : List Ev) : Int := es.foldl (fstep x wv on) 0
theorem first_take (x : Dt) (wv : Bool) (on : Int) (es : List Ev) (k : Nat) (h : k < es.length) : firstP x wv on (es.take (k + 1)) = fstep x wv on (firstP x wv on (es.take k)) es[k] := by
  unfold firstP
  rw [List.take_succ_eq_append_getElem h, List.foldl_append]
  rfl
def stP (x : Dt) (es : List Ev) (on : Int) : Int × Int :=
  if 0 < firstP x true on es ∧ (firstP x false on es = 0 ∨ firstP x true on es ≤ firstP x false on es) then (4, firstP x true on es)
  else if 0 < firstP x false on es ∧ firstP x false on es ≤ x.till then (1, firstP x false on es)
  else if 0 < firstP x false on es then (2, firstP x false on es)
  else if x.till < on then (3, RowKit.wrap64 (x.till + 1))
  else (0, x.fr)
/-- two days' firsts -/
def R (on d d' : Int) : Prop := (d ≠ 0 → d' = d ∧ d ≤ on) ∧ (d = 0 → d' = 0 ∨ on < d') ∧ 0 ≤ d
theorem step_R {x : Dt} {wv : Bool} {on later : Int} (hf : 1 ≤ x.fr) (h : on ≤ later) {d d' : Int} (r : R on d d') (e : Ev) : R on (fstep x wv on d e) (fstep x wv later d' e) := by
  obtain ⟨r1, r2, r3⟩ := r
  unfold fstep
  by_cases c1 : e.name = x.name ∧ e.who = x.who ∧ e.wv = wv ∧ x.fr ≤ e.day
  · obtain ⟨a1, a2, a3, a4⟩ := c1
    have e1 : Hit x wv on d e ↔ (e.day ≤ on ∧ (d = 0 ∨ e.day < d)) := ⟨fun h => h.2.2.2.2, fun h => ⟨a1, a2, a3, a4, h⟩⟩
    have e2 : Hit x wv later d' e ↔ (e.day ≤ later ∧ (d' = 0 ∨ e.day < d')) := ⟨fun h => h.2.2.2.2, fun h => ⟨a1, a2, a3, a4, h⟩⟩
    simp only [e1, e2]
    by_cases hd : d = 0
    · rcases r2 hd with h' | h' <;> (split <;> split <;> (refine ⟨?_, ?_, ?_⟩ <;> omega))
    · obtain ⟨e1, e2⟩ := r1 hd
      split <;> split <;> (refine ⟨?_, ?_, ?_⟩ <;> omega)
  · rw [if_neg (fun h : Hit x wv on d e => c1 ⟨h.1, h.2.1, h.2.2.1, h.2.2.2.1⟩), if_neg (fun h : Hit x wv later d' e => c1 ⟨h.1, h.2.1, h.2.2.1, h.2.2.2.1⟩)]
    exact ⟨r1, r2, r3⟩
theorem first_R {x : Dt} {wv : Bool} {on later : Int} (hf : 1 ≤ x.fr) (h : on ≤ later) (es : List Ev) : R on (firstP x wv on es) (firstP x wv later es) := by
  suffices ∀ (es : List Ev) (d d' : Int), R on d d' → R on (es.foldl (fstep x wv on) d) (es.foldl (fstep x wv later) d') from this es 0 0 ⟨by simp, by simp, by omega⟩
  intro es
  induction es with
  | nil => intro d d' h; exact h
  | cons e es ih => intro d d' h'; exact ih _ _ (step_R hf h h' e)
/-- what is done is done -/
theorem st_firm {x : Dt} {on later : Int} (hf : 1 ≤ x.fr) (h : on ≤ later) (es : List Ev) (h0 : (stP x es on).1 ≠ 0) (h3 : (stP x es on).1 ≠ 3) : stP x es later = stP x es on := by
  obtain ⟨a1, a2, a3⟩ := first_R (wv := true) hf h es
  obtain ⟨b1, b2, b3⟩ := first_R (wv := false) hf h es
  have z1 := first_R (wv := true) hf (Int.le_refl later) es
  have z2 := first_R (wv := false) hf (Int.le_refl later) es
  have z1 := z1.2.2
  have z2 := z2.2.2
  unfold stP at *
  generalize firstP x true on es = o at *
  generalize firstP x true later es = o' at *
  generalize firstP x false on es = f at *
  generalize firstP x false later es = f' at *
  by_cases c1 : 0 < o ∧ (f = 0 ∨ o ≤ f)
  · obtain ⟨rfl, c3⟩ := a1 (by omega)
    have : 0 < o' ∧ (f' = 0 ∨ o' ≤ f') := by
      refine ⟨c1.1, ?_⟩
      by_cases hf0 : f = 0
      · rcases b2 hf0 with h | h <;> omega
      · obtain ⟨rfl, _⟩ := b1 hf0
        omega
    rw [if_pos c1, if_pos this]
  · rw [if_neg c1] at h0 h3 ⊢
    by_cases c2 : 0 < f ∧ f ≤ x.till
    · obtain ⟨rfl, c3⟩ := b1 (by omega)
      have : ¬ (0 < o' ∧ (f' = 0 ∨ o' ≤ f')) := by
        by_cases ho : o = 0
        · rcases a2 ho with h | h <;> omega
        · obtain ⟨rfl, _⟩ := a1 ho
          omega
      rw [if_pos c2, if_neg this, if_pos c2]
    · rw [if_neg c2] at h0 h3 ⊢
      by_cases c3 : 0 < f
      · obtain ⟨rfl, c4⟩ := b1 (by omega)
        have : ¬ (0 < o' ∧ (f' = 0 ∨ o' ≤ f')) := by
          by_cases ho : o = 0
          · rcases a2 ho with h | h <;> omega
          · obtain ⟨rfl, _⟩ := a1 ho
            omega
        rw [if_pos c3, if_neg this, if_neg c2, if_pos c3]
      · rw [if_neg c3] at h0 h3
        split at h0 <;> simp_all
/-- the rows that stand for themselves -/
def baseR (ds : List Dt) (es : List Ev) (on : Int) : List Ro := (ds.filter fun x => decide (x.fr ≤ on)).map fun x => ⟨x, (stP x es on).1, (stP x es on).2, -1⟩
theorem base_take (ds : List Dt) (es : List Ev) (on : Int) (k : Nat) (h : k < ds.length) : baseR (ds.take (k + 1)) es on = baseR (ds.take k) es on ++ (if ds[k].fr ≤ on then [⟨ds[k], (stP ds[k] es on).1, (stP ds[k] es on).2, -1⟩] else []) := by
  unfold baseR
  rw [List.take_succ_eq_append_getElem h, List.filter_append, List.map_append]
  congr 1
  by_cases c : ds[k].fr ≤ on <;> simp [c]
theorem base_len (ds : List Dt) (es : List Ev) (on : Int) : (baseR ds es on).length ≤ ds.length := by
  unfold baseR
  rw [List.length_map]
  exact List.length_filter_le _ _
theorem base_firm {ds : List Dt} {es : List Ev} {on later : Int} (hf : ∀ x ∈ ds, 1 ≤ x.fr) (h : on ≤ later) {r : Ro} (hr : r ∈ baseR ds es on) (h0 : r.st ≠ 0) (h3 : r.st ≠ 3) : ∃ r' ∈ baseR ds es later, r'.d = r.d ∧ r'.st = r.st ∧ r'.day = r.day := by
  unfold baseR at hr ⊢
  obtain ⟨x, hx, rfl⟩ := List.mem_map.1 hr
  obtain ⟨hx1, hx2⟩ := List.mem_filter.1 hx
  have hx2 : x.fr ≤ on := by simpa using hx2
  have e := st_firm (hf x hx1) h es h0 h3
  exact ⟨_, List.mem_map.2 ⟨x, List.mem_filter.2 ⟨hx1, by simp; omega⟩, rfl⟩, rfl, by rw [e], by rw [e]⟩
end Go.Proofs.YtjfiodknjchngaaGreatDoor.Dut
namespace Go.Proofs.YtjfiodknjchngaaGreatDoor.Dut
open Go.RowKit Mem Nest

section
variable {P : Program} (w : World)
theorem run_append_keep (base : Nat) (t ty e : TypeId) (i : TypeInfo) (z : Value) (size bytes : Nat) (ht : P.underlying t = some (.slice e)) (hi : P.info? e = some i) (hz : i.zero = some z)
    (hsize : i.size = size) (hby : i.bytes = bytes) (hzs : z.cells.size = size) (hsz : 0 < size)
    (v : Value) (n : Nat) (xs : List Value) (hown : w.ownsRow base e size v n xs)
    (a : Addr) (m c : Nat) (news : List Value) (hl : news.length = m * size) (hnews : ∀ j u, news[j]? = some u → w.cell? (a.add j) = some u) (h1 : ∀ u ∈ news, u.oneCell' = true)
    (h63 : n + m ≤ maxLen) (hbytes : (n + m) * bytes ≤ 140737488355328) (hbase : base ≤ w.heap.size) :
    ∃ v' w', (Builtin.append_ #[t, t] ty #[v, .slice (some a) m c]).run P w = .ok v' w' ∧ w'.ownsRow base e size v' (n + m) (xs ++ news) ∧ w.grownBy w' v.ownBlock ∧
      (∀ g, v.ownBlock = some g → ∀ j u, xs[j]? = some u → w'.cell? ⟨g, j, none⟩ = some u) := by
  obtain ⟨v', w', hr, h2, h3, _⟩ := run_append_own (P := P) w base t ty e i z size bytes ht hi hz hsize hby hzs hsz v n xs hown a m c news hl hnews h1 h63 hbytes hbase
  refine ⟨v', w', hr, h2, h3, ?_⟩
  intro g hg j u hj
  have hown' := hown
  rcases hown.2 with ⟨rfl, rfl⟩ | ⟨g', cap, cur, rfl, hbg, hgg, hnc, hcm, hcs, htake⟩
  · simp [Value.ownBlock] at hg
  · obtain rfl : g' = g := by simpa [Value.ownBlock] using hg
    have hjl : j < n * size := by rw [← hown.1]; exact (List.getElem?_eq_some_iff.1 hj).1
    by_cases hroom : n + m ≤ cap
    · obtain ⟨w2, hr2, ho2, _⟩ := run_append_own_spare (P := P) w base t ty e i size ht hi hsize g' n cap xs hown a m c news hl hnews h1 hroom
      rw [hr] at hr2
      simp only [Result.ok.injEq] at hr2
      obtain ⟨rfl, rfl⟩ := hr2
      rw [ho2.cellAt j (by rw [Nat.add_mul]; omega), List.getElem?_append_left (by rw [hown.1]; exact hjl)]
      exact hj
    · subst hsize
      subst hby
      have hsm : n + m ≤ 9223372036854775807 := by simp only [maxLen] at h63; omega
      have hr2 := run_append_grow (P := P) w t ty e i z ht hi hz ⟨g', 0, none⟩ n cap xs hown.1 (hown.cells (g := g') rfl) a m c news hl hnews (by omega) (by omega) (growslice_fits (by omega) hbytes)
      rw [hr] at hr2
      simp only [Result.ok.injEq] at hr2
      obtain ⟨rfl, rfl⟩ := hr2
      have hc : w.cell? ⟨g', j, none⟩ = some u := by rw [hown'.cellAt j hjl]; exact hj
      exact cell_ext (ext_trans (ext_drewN w 1) (ext_alloc _ _)) hc
theorem wp_append_keep {o : Oper} {a : Act} {K : Act → World → Prop} {Q : Exit → Act → World → Prop} (s x : Operand) (t : TypeId)
    (ho : o.op = .call { callee := .builtin .append, args := #[s, x], argTypes := #[t, t] })
    (base : Nat) (e : TypeId) (i : TypeInfo) (z : Value) (size bytes : Nat) (ht : P.underlying t = some (.slice e)) (hi : P.info? e = some i) (hz : i.zero = some z)
    (hsize : i.size = size) (hby : i.bytes = bytes) (hzs : z.cells.size = size) (hsz : 0 < size)
    (v : Value) (n : Nat) (xs : List Value) (hs : a.eval s = v) (hown : w.ownsRow base e size v n xs)
    (ad : Addr) (m c : Nat) (news : List Value) (hx : a.eval x = .slice (some ad) m c) (hl : news.length = m * size) (hnews : ∀ j u, news[j]? = some u → w.cell? (ad.add j) = some u) (h1 : ∀ u ∈ news, u.oneCell' = true)
    (h63 : n + m ≤ maxLen) (hbytes : (n + m) * bytes ≤ 140737488355328) (hbase : base ≤ w.heap.size)
    (h : ∀ v' w', w'.ownsRow base e size v' (n + m) (xs ++ news) → w.grownBy w' v.ownBlock → (∀ g, v.ownBlock = some g → ∀ j u, xs[j]? = some u → w'.cell? ⟨g, j, none⟩ = some u) → K (a.put o.dst v') w') : o.wp P a w K Q := by
  obtain ⟨v', w', hr, h2, h3, h4⟩ := run_append_keep (P := P) w base t o.type e i z size bytes ht hi hz hsize hby hzs hsz v n xs hown ad m c news hl hnews h1 h63 hbytes hbase
  unfold Oper.wp execOp
  simp only [ho, resolve, invoke, builtin, Sem.run_bind, Sem.run_pure, Result.andThen_ok, List.map_toArray, List.map_cons, List.map_nil, hs, hx, hr]
  exact h v' w' h2 h3 h4
theorem wpList_append_keep {ops : Array Oper} {rest : List Oper} {o : Oper} {a : Act} {Q : Exit → Act → World → Prop} (hgd : o.guard = none) (s x : Operand) (t : TypeId)
    (ho : o.op = .call { callee := .builtin .append, args := #[s, x], argTypes := #[t, t] })
    (base : Nat) (e : TypeId) (i : TypeInfo) (z : Value) (size bytes : Nat) (ht : P.underlying t = some (.slice e)) (hi : P.info? e = some i) (hz : i.zero = some z)
    (hsize : i.size = size) (hby : i.bytes = bytes) (hzs : z.cells.size = size) (hsz : 0 < size)
    (v : Value) (n : Nat) (xs : List Value) (hs : a.eval s = v) (hown : w.ownsRow base e size v n xs)
    (ad : Addr) (m c : Nat) (news : List Value) (hx : a.eval x = .slice (some ad) m c) (hl : news.length = m * size) (hnews : ∀ j u, news[j]? = some u → w.cell? (ad.add j) = some u) (h1 : ∀ u ∈ news, u.oneCell' = true)
    (h63 : n + m ≤ maxLen) (hbytes : (n + m) * bytes ≤ 140737488355328) (hbase : base ≤ w.heap.size)
    (h : ∀ v' w', w'.ownsRow base e size v' (n + m) (xs ++ news) → w.grownBy w' v.ownBlock → (∀ g, v.ownBlock = some g → ∀ j u, xs[j]? = some u → w'.cell? ⟨g, j, none⟩ = some u) → wpList P ops Q rest (a.put o.dst v') w') : wpList P ops Q (o :: rest) a w :=
  wpList_plain hgd fun _ hK => wp_append_keep w s x t ho base e i z size bytes ht hi hz hsize hby hzs hsz v n xs hs hown ad m c news hx hl hnews h1 h63 hbytes hbase fun v' w' h2 h3 h4 => hK _ _ (h v' w' h2 h3 h4)
end
theorem ev_at {w : World} {A : Option Addr} {l : List Ev} (h : Rd w A (l.flatMap evCells)) {k : Nat} (hk : k < l.length) :
    ∃ b o, A = some ⟨b, o, none⟩ ∧ w.cell? ⟨b, o + k * 4, none⟩ = some (.int .i64 l[k].day) ∧ w.cell? ⟨b, o + k * 4 + 1, none⟩ = some (.string ⟨l[k].name.toArray⟩) ∧ w.cell? ⟨b, o + k * 4 + 2, none⟩ = some (.string ⟨l[k].who.toArray⟩) ∧ w.cell? ⟨b, o + k * 4 + 3, none⟩ = some (.bool l[k].wv) := by
  obtain ⟨b, o, e, hc⟩ := h.row evCells_len hk (by omega)
  exact ⟨b, o, e, by simpa using hc 0 _ rfl, by simpa [Nat.add_assoc] using hc 1 _ rfl, by simpa [Nat.add_assoc] using hc 2 _ rfl, by simpa [Nat.add_assoc] using hc 3 _ rfl⟩
/-- a duty's cells at a place -/
structure DtAt (w : World) (b o : Nat) (d : Dt) : Prop where
  c0 : w.cell? ⟨b, o, none⟩ = some (.string ⟨d.name.toArray⟩)
  c1 : w.cell? ⟨b, o + 1, none⟩ = some (.string ⟨d.who.toArray⟩)
  c2 : w.cell? ⟨b, o + 2, none⟩ = some (.int .i64 d.fr)
  c3 : w.cell? ⟨b, o + 3, none⟩ = some (.int .i64 d.till)
  c4 : w.cell? ⟨b, o + 4, none⟩ = some (.string ⟨d.els.toArray⟩)
  c5 : w.cell? ⟨b, o + 5, none⟩ = some (.int .i64 d.n)
  c6 : w.cell? ⟨b, o + 6, none⟩ = some (.int .i64 d.u)
  c7 : w.cell? ⟨b, o + 7, none⟩ = some (.int .i64 d.r)
theorem DtAt.ext {w w' : World} {b o : Nat} {d : Dt} (h : DtAt w b o d) (hb : Below w.heap.size w w') : DtAt w' b o d := ⟨cell_ext hb h.c0, cell_ext hb h.c1, cell_ext hb h.c2, cell_ext hb h.c3, cell_ext hb h.c4, cell_ext hb h.c5, cell_ext hb h.c6, cell_ext hb h.c7⟩
theorem dt_at {w : World} {A : Option Addr} {l : List Dt} (h : Rd w A (l.flatMap dtCells)) {k : Nat} (hk : k < l.length) : ∃ b o, A = some ⟨b, o, none⟩ ∧ DtAt w b (o + k * 8) l[k] := by
  obtain ⟨b, o, e, hc⟩ := h.row dtCells_len hk (by omega)
  exact ⟨b, o, e, by simpa using hc 0 _ rfl, by simpa [Nat.add_assoc] using hc 1 _ rfl, by simpa [Nat.add_assoc] using hc 2 _ rfl, by simpa [Nat.add_assoc] using hc 3 _ rfl, by simpa [Nat.add_assoc] using hc 4 _ rfl, by simpa [Nat.add_assoc] using hc 5 _ rfl, by simpa [Nat.add_assoc] using hc 6 _ rfl, by simpa [Nat.add_assoc] using hc 7 _ rfl⟩
theorem dt_blk {w : World} {B : Nat} {T : TypeId} {d : Dt} (h : Blk w B T (dtCells d)) : DtAt w B 0 d := ⟨h.cell 0 rfl, h.cell 1 rfl, h.cell 2 rfl, h.cell 3 rfl, h.cell 4 rfl, h.cell 5 rfl, h.cell 6 rfl, h.cell 7 rfl⟩
structure RoAt (w : World) (b o : Nat) (r : Ro) : Prop where
  d : DtAt w b o r.d
  c8 : w.cell? ⟨b, o + 8, none⟩ = some (.int .i64 r.st)
  c9 : w.cell? ⟨b, o + 9, none⟩ = some (.int .i64 r.day)
  c10 : w.cell? ⟨b, o + 10, none⟩ = some (.int .i64 r.of)
theorem ro_at {w : World} {A : Option Addr} {l : List Ro} (h : Rd w A (l.flatMap roCells)) {k : Nat} (hk : k < l.length) : ∃ b o, A = some ⟨b, o, none⟩ ∧ RoAt w b (o + k * 11) l[k] := by
  obtain ⟨b, o, e, hc⟩ := h.row roCells_len hk (by omega)
  exact ⟨b, o, e, ⟨by simpa using hc 0 _ rfl, by simpa [Nat.add_assoc] using hc 1 _ rfl, by simpa [Nat.add_assoc] using hc 2 _ rfl, by simpa [Nat.add_assoc] using hc 3 _ rfl, by simpa [Nat.add_assoc] using hc 4 _ rfl, by simpa [Nat.add_assoc] using hc 5 _ rfl, by simpa [Nat.add_assoc] using hc 6 _ rfl, by simpa [Nat.add_assoc] using hc 7 _ rfl⟩,
    by simpa [Nat.add_assoc] using hc 8 _ rfl, by simpa [Nat.add_assoc] using hc 9 _ rfl, by simpa [Nat.add_assoc] using hc 10 _ rfl⟩
theorem dts_one (d : Dt) : ∀ u ∈ dtCells d, u.oneCell' = true := by
  intro u hu
  simp [dtCells] at hu
  rcases hu with rfl | rfl | rfl | rfl | rfl | rfl | rfl | rfl <;> rfl
theorem ros_one (r : Ro) : ∀ u ∈ roCells r, u.oneCell' = true := by
  intro u hu
  rcases List.mem_append.1 hu with hu | hu
  · exact dts_one _ u hu
  · simp at hu
    rcases hu with rfl | rfl | rfl <;> rfl
theorem evs_one (e : Ev) : ∀ u ∈ evCells e, u.oneCell' = true := by
  intro u hu
  simp [evCells] at hu
  rcases hu with rfl | rfl | rfl | rfl <;> rfl
end Go.Proofs.YtjfiodknjchngaaGreatDoor.Dut

/- Duties in memory; an append that keeps what lay in the row. -/
import Derived.Test.YtcpcejmlnhflpaaGreatDoorDuP
import Derived.Test.YtcpcejmlnhflpaaGreatDoorNest
import Derived.Test.YtcpcejmlnhflpaaGreatDoorSol
import Derived.Deep.DeepAppendRoom
import Derived.Laws.OwnMore
import Derived.Laws.StructEq
namespace Go.Proofs.YtcpcejmlnhflpaaGreatDoor.Dut
open Go.RowKit Mem Nest

section
variable {P : Program} (w : World)
theorem run_append_keep (base : Nat) (t ty e : TypeId) (i : TypeInfo) (z : Value) (size bytes : Nat) (ht : P.underlying t = some (.slice e)) (hi : P.info? e = some i) (hz : i.zero = some z)
    (hsize : i.size = size) (hby : i.bytes = bytes) (hzs : z.cells.size = size) (hsz : 0 < size)
    (v : Value) (n : Nat) (xs : List Value) (hown : w.ownsRow base e size v n xs)
    (a : Addr) (m c : Nat) (news : List Value) (hl : news.length = m * size) (hnews : ∀ j u, news[j]? = some u → w.cell? (a.add j) = some u) (h1 : ∀ u ∈ news, u.oneCell' = true)
    (h63 : n + m ≤ maxLen) (hbytes : (n + m) * bytes ≤ 140737488355328) (hbase : base ≤ w.heap.size) :
    ∃ v' w', (Builtin.append_ #[t, t] ty #[v, .slice (some a) m c]).run P w = .ok v' w' ∧ w'.ownsRow base e size v' (n + m) (xs ++ news) ∧ w.grownBy w' v.ownBlock ∧
      (∀ g, v.ownBlock = some g → ∀ j u, xs[j]? = some u → w'.cell? ⟨g, j, none⟩ = some u) := by
  obtain ⟨v', w', hr, h2, h3, _⟩ := run_append_own (P := P) w base t ty e i z size bytes ht hi hz hsize hby hzs hsz v n xs hown a m c news hl hnews h1 h63 hbytes hbase
  refine ⟨v', w', hr, h2, h3, ?_⟩
  intro g hg j u hj
  have hown' := hown
  rcases hown.2 with ⟨rfl, rfl⟩ | ⟨g', cap, cur, rfl, hbg, hgg, hnc, hcm, hcs, htake⟩
  · simp [Value.ownBlock] at hg
  · obtain rfl : g' = g := by simpa [Value.ownBlock] using hg
    have hjl : j < n * size := by rw [← hown.1]; exact (List.getElem?_eq_some_iff.1 hj).1
    by_cases hroom : n + m ≤ cap
    · obtain ⟨w2, hr2, ho2, _⟩ := run_append_own_spare (P := P) w base t ty e i size ht hi hsize g' n cap xs hown a m c news hl hnews h1 hroom
      rw [hr] at hr2
      simp only [Result.ok.injEq] at hr2
      obtain ⟨rfl, rfl⟩ := hr2
      rw [ho2.cellAt j (by rw [Nat.add_mul]; omega), List.getElem?_append_left (by rw [hown.1]; exact hjl)]
      exact hj
    · subst hsize
      subst hby
      have hsm : n + m ≤ 9223372036854775807 := by simp only [maxLen] at h63; omega
      have hr2 := run_append_grow (P := P) w t ty e i z ht hi hz ⟨g', 0, none⟩ n cap xs hown.1 (hown.cells (g := g') rfl) a m c news hl hnews (by omega) (by omega) (growslice_fits (by omega) hbytes)
      rw [hr] at hr2
      simp only [Result.ok.injEq] at hr2
      obtain ⟨rfl, rfl⟩ := hr2
      have hc : w.cell? ⟨g', j, none⟩ = some u := by rw [hown'.cellAt j hjl]; exact hj
      exact cell_ext (ext_trans (ext_drewN w 1) (ext_alloc _ _)) hc
theorem wp_append_keep {o : Oper} {a : Act} {K : Act → World → Prop} {Q : Exit → Act → World → Prop} (s x : Operand) (t : TypeId)
    (ho : o.op = .call { callee := .builtin .append, args := #[s, x], argTypes := #[t, t] })
    (base : Nat) (e : TypeId) (i : TypeInfo) (z : Value) (size bytes : Nat) (ht : P.underlying t = some (.slice e)) (hi : P.info? e = some i) (hz : i.zero = some z)
    (hsize : i.size = size) (hby : i.bytes = bytes) (hzs : z.cells.size = size) (hsz : 0 < size)
    (v : Value) (n : Nat) (xs : List Value) (hs : a.eval s = v) (hown : w.ownsRow base e size v n xs)
    (ad : Addr) (m c : Nat) (news : List Value) (hx : a.eval x = .slice (some ad) m c) (hl : news.length = m * size) (hnews : ∀ j u, news[j]? = some u → w.cell? (ad.add j) = some u) (h1 : ∀ u ∈ news, u.oneCell' = true)
    (h63 : n + m ≤ maxLen) (hbytes : (n + m) * bytes ≤ 140737488355328) (hbase : base ≤ w.heap.size)
    (h : ∀ v' w', w'.ownsRow base e size v' (n + m) (xs ++ news) → w.grownBy w' v.ownBlock → (∀ g, v.ownBlock = some g → ∀ j u, xs[j]? = some u → w'.cell? ⟨g, j, none⟩ = some u) → K (a.put o.dst v') w') : o.wp P a w K Q := by
  obtain ⟨v', w', hr, h2, h3, h4⟩ := run_append_keep (P := P) w base t o.type e i z size bytes ht hi hz hsize hby hzs hsz v n xs hown ad m c news hl hnews h1 h63 hbytes hbase
  unfold Oper.wp execOp
  simp only [ho, resolve, invoke, builtin, Sem.run_bind, Sem.run_pure, Result.andThen_ok, List.map_toArray, List.map_cons, List.map_nil, hs, hx, hr]
  exact h v' w' h2 h3 h4
theorem wpList_append_keep {ops : Array Oper} {rest : List Oper} {o : Oper} {a : Act} {Q : Exit → Act → World → Prop} (hgd : o.guard = none) (s x : Operand) (t : TypeId)
    (ho : o.op = .call { callee := .builtin .append, args := #[s, x], argTypes := #[t, t] })
    (base : Nat) (e : TypeId) (i : TypeInfo) (z : Value) (size bytes : Nat) (ht : P.underlying t = some (.slice e)) (hi : P.info? e = some i) (hz : i.zero = some z)
    (hsize : i.size = size) (hby : i.bytes = bytes) (hzs : z.cells.size = size) (hsz : 0 < size)
    (v : Value) (n : Nat) (xs : List Value) (hs : a.eval s = v) (hown : w.ownsRow base e size v n xs)
    (ad : Addr) (m c : Nat) (news : List Value) (hx : a.eval x = .slice (some ad) m c) (hl : news.length = m * size) (hnews : ∀ j u, news[j]? = some u → w.cell? (ad.add j) = some u) (h1 : ∀ u ∈ news, u.oneCell' = true)
    (h63 : n + m ≤ maxLen) (hbytes : (n + m) * bytes ≤ 140737488355328) (hbase : base ≤ w.heap.size)
    (h : ∀ v' w', w'.ownsRow base e size v' (n + m) (xs ++ news) → w.grownBy w' v.ownBlock → (∀ g, v.ownBlock = some g → ∀ j u, xs[j]? = some u → w'.cell? ⟨g, j, none⟩ = some u) → wpList P ops Q rest (a.put o.dst v') w') : wpList P ops Q (o :: rest) a w :=
  wpList_plain hgd fun _ hK => wp_append_keep w s x t ho base e i z size bytes ht hi hz hsize hby hzs hsz v n xs hs hown ad m c news hx hl hnews h1 h63 hbytes hbase fun v' w' h2 h3 h4 => hK _ _ (h v' w' h2 h3 h4)
end
theorem ev_at {w : World} {A : Option Addr} {l : List Ev} (h : Rd w A (l.flatMap evCells)) {k : Nat} (hk : k < l.length) :
    ∃ b o, A = some ⟨b, o, none⟩ ∧ w.cell? ⟨b, o + k * 4, none⟩ = some (.int .i64 l[k].day) ∧ w.cell? ⟨b, o + k * 4 + 1, none⟩ = some (.string ⟨l[k].name.toArray⟩) ∧ w.cell? ⟨b, o + k * 4 + 2, none⟩ = some (.string ⟨l[k].who.toArray⟩) ∧ w.cell? ⟨b, o + k * 4 + 3, none⟩ = some (.bool l[k].wv) := by
  obtain ⟨b, o, e, hc⟩ := h.row evCells_len hk (by omega)
  exact ⟨b, o, e, by simpa using hc 0 _ rfl, by simpa [Nat.add_assoc] using hc 1 _ rfl, by simpa [Nat.add_assoc] using hc 2 _ rfl, by simpa [Nat.add_assoc] using hc 3 _ rfl⟩
/-- a duty's cells at a place -/
structure DtAt (w : World) (b o : Nat) (d : Dt) : Prop where
  c0 : w.cell? ⟨b, o, none⟩ = some (.string ⟨d.name.toArray⟩)
  c1 : w.cell? ⟨b, o + 1, none⟩ = some (.string ⟨d.who.toArray⟩)
  c2 : w.cell? ⟨b, o + 2, none⟩ = some (.int .i64 d.fr)
  c3 : w.cell? ⟨b, o + 3, none⟩ = some (.int .i64 d.till)
  c4 : w.cell? ⟨b, o + 4, none⟩ = some (.string ⟨d.els.toArray⟩)
  c5 : w.cell? ⟨b, o + 5, none⟩ = some (.int .i64 d.n)
  c6 : w.cell? ⟨b, o + 6, none⟩ = some (.int .i64 d.u)
  c7 : w.cell? ⟨b, o + 7, none⟩ = some (.int .i64 d.r)
theorem DtAt.ext {w w' : World} {b o : Nat} {d : Dt} (h : DtAt w b o d) (hb : Below w.heap.size w w') : DtAt w' b o d := ⟨cell_ext hb h.c0, cell_ext hb h.c1, cell_ext hb h.c2, cell_ext hb h.c3, cell_ext hb h.c4, cell_ext hb h.c5, cell_ext hb h.c6, cell_ext hb h.c7⟩
theorem dt_at {w : World} {A : Option Addr} {l : List Dt} (h : Rd w A (l.flatMap dtCells)) {k : Nat} (hk : k < l.length) : ∃ b o, A = some ⟨b, o, none⟩ ∧ DtAt w b (o + k * 8) l[k] := by
  obtain ⟨b, o, e, hc⟩ := h.row dtCells_len hk (by omega)
  exact ⟨b, o, e, by simpa using hc 0 _ rfl, by simpa [Nat.add_assoc] using hc 1 _ rfl, by simpa [Nat.add_assoc] using hc 2 _ rfl, by simpa [Nat.add_assoc] using hc 3 _ rfl, by simpa [Nat.add_assoc] using hc 4 _ rfl, by simpa [Nat.add_assoc] using hc 5 _ rfl, by simpa [Nat.add_assoc] using hc 6 _ rfl, by simpa [Nat.add_assoc] using hc 7 _ rfl⟩
theorem dt_blk {w : World} {B : Nat} {T : TypeId} {d : Dt} (h : Blk w B T (dtCells d)) : DtAt w B 0 d := ⟨h.cell 0 rfl, h.cell 1 rfl, h.cell 2 rfl, h.cell 3 rfl, h.cell 4 rfl, h.cell 5 rfl, h.cell 6 rfl, h.cell 7 rfl⟩
structure RoAt (w : World) (b o : Nat) (r : Ro) : Prop where
  d : DtAt w b o r.d
  c8 : w.cell? ⟨b, o + 8, none⟩ = some (.int .i64 r.st)
  c9 : w.cell? ⟨b, o + 9, none⟩ = some (.int .i64 r.day)
  c10 : w.cell? ⟨b, o + 10, none⟩ = some (.int .i64 r.of)
theorem ro_at {w : World} {A : Option Addr} {l : List Ro} (h : Rd w A (l.flatMap roCells)) {k : Nat} (hk : k < l.length) : ∃ b o, A = some ⟨b, o, none⟩ ∧ RoAt w b (o + k * 11) l[k] := by
  obtain ⟨b, o, e, hc⟩ := h.row roCells_len hk (by omega)
  exact ⟨b, o, e, ⟨by simpa using hc 0 _ rfl, by simpa [Nat.add_assoc] using hc 1 _ rfl, by simpa [Nat.add_assoc] using hc 2 _ rfl, by simpa [Nat.add_assoc] using hc 3 _ rfl, by simpa [Nat.add_assoc] using hc 4 _ rfl, by simpa [Nat.add_assoc] using hc 5 _ rfl, by simpa [Nat.add_assoc] using hc 6 _ rfl, by simpa [Nat.add_assoc] using hc 7 _ rfl⟩,
    by simpa [Nat.add_assoc] using hc 8 _ rfl, by simpa [Nat.add_assoc] using hc 9 _ rfl, by simpa [Nat.add_assoc] using hc 10 _ rfl⟩
theorem dts_one (d : Dt) : ∀ u ∈ dtCells d, u.oneCell' = true := by
  intro u hu
  simp [dtCells] at hu
  rcases hu with rfl | rfl | rfl | rfl | rfl | rfl | rfl | rfl <;> rfl
theorem ros_one (r : Ro) : ∀ u ∈ roCells r, u.oneCell' = true := by
  intro u hu
  rcases List.mem_append.1 hu with hu | hu
  · exact dts_one _ u hu
  · simp at hu
    rcases hu with rfl | rfl | rfl <;> rfl
theorem evs_one (e : Ev) : ∀ u ∈ evCells e, u.oneCell' = true := by
  intro u hu
  simp [evCells] at hu
  rcases hu with rfl | rfl | rfl | rfl <;> rfl
theorem duty_info : (Tryz.prog.info? 128).map (fun i => (i.zero, i.size, i.bytes)) = some (some (.agg #[.string ⟨#[]⟩, .string ⟨#[]⟩, .int .i64 0, .int .i64 0, .string ⟨#[]⟩, .int .i64 0, .int .i64 0, .int .i64 0]), 8, 88) := by kernel_rfl
theorem event_info : (Tryz.prog.info? 141).map (fun i => (i.zero, i.size, i.bytes)) = some (some (.agg #[.int .i64 0, .string ⟨#[]⟩, .string ⟨#[]⟩, .bool false]), 4, 48) := by kernel_rfl
theorem state_info : (Tryz.prog.info? 130).map (fun i => (i.zero, i.size, i.bytes)) = some (some (.agg #[.string ⟨#[]⟩, .string ⟨#[]⟩, .int .i64 0, .int .i64 0, .string ⟨#[]⟩, .int .i64 0, .int .i64 0, .int .i64 0, .int .i64 0, .int .i64 0, .int .i64 0]), 11, 112) := by kernel_rfl
end Go.Proofs.YtcpcejmlnhflpaaGreatDoor.Dut

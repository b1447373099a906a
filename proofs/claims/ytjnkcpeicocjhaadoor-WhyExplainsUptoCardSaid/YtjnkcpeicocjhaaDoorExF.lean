/- What an explanation needs of Go's library, at its steps: slices.Index, slices.Clone, slices.Delete; and == of two steps. -/
import Derived.Test.YtjnkcpeicocjhaaDoorExP
import Derived.Test.YtjnkcpeicocjhaaDoorWhySoundWalk
import Derived.Laws.StructEq
import Derived.Laws.IdiomCopy
import Derived.Laws.OwnMore
import Derived.Deep.RegionLaw
import Derived.Deep.Quiet
import Derived.Deep.QuietTactic
import Derived.BigQuiet
import Derived.Lib.SliceRun
import Derived.Shelf.RegionOpenPlain
namespace Go.Proofs.YtjnkcpeicocjhaaDoor.Exp
open Go.RowKit Mem Thy Nest Day Thm Sol ChkW WhySound

def spVal (x : Sp) : Value := .agg #[.bool x.a, .bool x.b, .int .i64 x.q]
def spEq (x y : Sp) : Bool := x.a == y.a && (x.b == y.b && x.q == y.q)
theorem spEq_iff (x y : Sp) : spEq x y = true ↔ x = y := by
  obtain ⟨a, b, q⟩ := x
  obtain ⟨a', b', q'⟩ := y
  simp [spEq]
theorem step_eql (a b : Bool) (q : Int) (a' b' : Bool) (q' : Int) (w : World) : (binOp .eql 73 (.agg #[.bool a, .bool b, .int .i64 q]) (.agg #[.bool a', .bool b', .int .i64 q'])).run Tryd.prog w = .ok (.bool (spEq ⟨a, b, q⟩ ⟨a', b', q'⟩)) w := by
  have u4 := Tryd.underlying4
  have a4 := Tryd.isAgg4
  have z4 := Tryd.sizeOf4
  have u3 := Tryd.underlying3
  have a3 := Tryd.isAgg3
  have z3 := Tryd.sizeOf3
  have hS : Tryd.prog.underlying 73 = some (.struct (Tryd.prog.fieldsOf 73)) := by kernel_rfl
  have hp : Tryd.prog.stoodInHeld 73 = false := by kernel_rfl
  rw [run_eql_struct, show (10000 : Nat) = 9999 + 1 from rfl, run_equalIn_agg w 9999 73 _ _ hS hp]
  simp only [Program.fieldsOf, Tryd.underlying73]
  unfold spEq
  go_simp
  by_cases h1 : a = a' <;> by_cases h2 : b = b' <;> by_cases h3 : q = q' <;> simp [h1, h2, h3]
theorem step_neq_self (a b : Bool) (q : Int) (w : World) : (binOp .neq 73 (.agg #[.bool a, .bool b, .int .i64 q]) (.agg #[.bool a, .bool b, .int .i64 q])).run Tryd.prog w = .ok (.bool false) w := by
  have h := step_eql a b q a b q w
  rw [run_eql_struct] at h
  rw [run_neq_struct]
  rw [(spEq_iff ⟨a, b, q⟩ ⟨a, b, q⟩).2 rfl] at h
  generalize (Op.equalIn 10000 73 (.agg #[.bool a, .bool b, .int .i64 q]) (.agg #[.bool a, .bool b, .int .i64 q])).run Tryd.prog w = r at h
  cases r with
  | ok x w' =>
    simp only [Result.andThen_ok, Result.ok.injEq, Value.bool.injEq] at h
    obtain ⟨rfl, rfl⟩ := h
    rfl
  | _ => simp [Result.andThen] at h
theorem step_guard (op : BinOp) (a b : Operand) (x y : Array Value) (w : World) : (eqGuard op 73 a b (.agg x) (.agg y)).run Tryd.prog w = .ok () w := run_eqGuard_agg w op _ a b x y (by kernel_rfl)

/-- what Index gives -/
def IdxPost (l : List Sp) (g : Sp) (w : World) (e : Ending) (w' : World) : Prop :=
  ∃ r : Int, e = .returned (.int .i64 r) ∧ Below w.heap.size w w' ∧ ((r = -1 ∧ g ∉ l) ∨ ∃ k : Nat, ∃ h : k < l.length, r = k ∧ l[k] = g)
set_option maxRecDepth 100000 in
theorem idx_any (l : List Sp) (g : Sp) (A : Option Addr) (c : Nat) (hl : l.length ≤ 9223372036854775807) (w : World) (h : Rd w A (l.flatMap spCells)) :
    Calls Tryd.prog 53 #[.slice A l.length c, spVal g] w (IdxPost l g w) := by
  have HR := Lib.hid h
  have HG := Lib.hid (Blk.new w 73 [.bool g.a, .bool g.b, .int .i64 g.q])
  have HX := Lib.hid (ext_alloc w (.cells #[.bool g.a, .bool g.b, .int .i64 g.q] 73))
  clear h
  unfold spVal
  go_enter Tryd.func53, Tryd.ntmps53
  go_wp2_with fail
  go_loopw [8] (fun i wr => ∃ k : Nat, i = .int .i64 k ∧ k ≤ l.length ∧ Hid (Below w.heap.size w wr) ∧ Hid (Blk wr w.heap.size 73 [.bool g.a, .bool g.b, .int .i64 g.q]) ∧ Hid (g ∉ l.take k)) (fun i _ => (l.length - intOf i).toNat)
  case atStart => exact ⟨0, rfl, by omega, HX.out, HG.out, by show g ∉ l.take 0; simp⟩
  case round =>
    clear HX HG
    obtain ⟨k, rfl, hk, HB, HG, HN⟩ := hrel
    have x0 := HG.out.cell 0 rfl
    have x1 := HG.out.cell 1 rfl
    have x2 := HG.out.cell 2 rfl
    by_cases hlt : k < l.length
    · have hcl : (k : Int) < l.length := by omega
      obtain ⟨b, o, rfl, p0, p1, p2⟩ := step_at (HR.out.ext HB.out) hlt
      have hge := step_guard
      obtain ⟨r, hr⟩ : ∃ r, r = spEq ⟨g.a, g.b, g.q⟩ ⟨l[k].a, l[k].b, l[k].q⟩ := ⟨_, rfl⟩
      have hq : ∀ w, Sem.run Tryd.prog (binOp .eql 73 (.agg #[.bool g.a, .bool g.b, .int .i64 g.q]) (.agg #[.bool l[k].a, .bool l[k].b, .int .i64 l[k].q])) w = .ok (.bool r) w := fun w => by rw [hr]; exact step_eql _ _ _ _ _ _ w
      have HQ := Lib.hid (show r = true ↔ g = l[k] by rw [hr]; exact spEq_iff g l[k])
      clear hr
      have HT := Lib.hid (List.take_succ_eq_append_getElem hlt)
      generalize l[k].a = la at *
      generalize l[k].b = lb at *
      generalize l[k].q = lq at *
      generalize g.a = ga at *
      generalize g.b = gb at *
      generalize g.q = gq at *
      cases r
      · go_wp2_with fail
        go_quiet (fail)
        go_wp2_with fail
        go_roundw
        case rel =>
          refine ⟨k + 1, by simp, by omega, ext_trans HB.out (ext_drewN wr nq), Sol.blk_ext HG.out (ext_drewN wr nq), ?_⟩
          show g ∉ l.take (k + 1)
          rw [HT.out]
          intro hm
          rcases List.mem_append.1 hm with hm | hm
          · exact HN.out hm
          · rw [List.mem_singleton] at hm
            have := HQ.out.2 hm
            simp at this
        case measure => simp [intOf]; omega
      · go_wp2_with fail
        go_quiet (fail)
        go_wp2_with fail
        go_ret
        exact ⟨_, rfl, ext_trans HB.out (ext_drewN wr nq), .inr ⟨k, hlt, rfl, (HQ.out.1 (by simp)).symm⟩⟩
    · have hcl : ¬ (k : Int) < l.length := by omega
      have hk2 : l.take k = l := List.take_of_length_le (by omega)
      have HN2 := Lib.hid (show g ∉ l by have := HN.out; rwa [hk2] at this)
      clear hk2
      go_wp2_with fail
      go_ret
      exact ⟨_, rfl, HB.out, .inl ⟨rfl, HN2.out⟩⟩
theorem sps_one (l : List Sp) : ∀ u ∈ l.flatMap spCells, u.oneCell' = true := fun u hu => by
  obtain ⟨x, _, hx⟩ := List.mem_flatMap.1 hu
  simp [spCells] at hx
  rcases hx with rfl | rfl | rfl <;> rfl
theorem sps_len (l : List Sp) : (l.flatMap spCells).length = l.length * 3 := by
  induction l with
  | nil => rfl
  | cons x l ih => rw [List.flatMap_cons, List.length_append, ih, spCells_len, List.length_cons]; omega
set_option maxRecDepth 100000 in
theorem clone_any (l : List Sp) (hl : l.length ≤ 1000000) (b o c : Nat) (w : World) (h : Rd w (some ⟨b, o, none⟩) (l.flatMap spCells)) :
    Calls Tryd.prog 85 #[.slice (some ⟨b, o, none⟩) l.length c] w fun e w' => ∃ v, e = .returned v ∧ w'.ownsRow w.heap.size 73 3 v l.length (l.flatMap spCells) ∧ v ≠ .slice none 0 0 ∧ Below w.heap.size w w' := by
  obtain ⟨i0, hi, hz0, hz1, hz2⟩ := info_parts step_info
  have q22 : ∀ (w : World) (a : Option Addr) (n c n' c' : Nat), (binOp .eql 65 (.slice a n c) (.slice none n' c')).run Tryd.prog w = .ok (.bool a.isNone) w := fun w a n c n' c' => Lib.run_eql_slice_nil w _ _ a n c n' c' Tryd.underlying65
  have HR := Lib.hid h
  have HI := Lib.hid hi
  have HZ0 := Lib.hid hz0
  have HZ1 := Lib.hid hz1
  have HZ2 := Lib.hid hz2
  clear h hi hz0 hz1 hz2
  go_enter Tryd.func85, Tryd.ntmps85
  go_wp2_with (at_builtin; refine wpList_append_own _ rfl _ _ 65 rfl w.heap.size 73 i0 _ 3 16 Tryd.underlying65 HI.out HZ0.out HZ1.out HZ2.out (by rfl) (by omega) _ _ _ rfl (World.ownsRow_made w #[] 0 (Nat.le_refl _) (Nat.zero_le _) (by simp)) ⟨b, o, none⟩ l.length c (l.flatMap spCells) rfl ?qc1 ?qc2 ?qc3 ?qc4 ?qc5 ?qc6 ?_)
  case qc1 => exact sps_len l
  case qc2 => exact App.rd_news (HR.out.ext (ext_alloc w _))
  case qc3 => exact sps_one l
  case qc4 => unfold maxLen; omega
  case qc5 => omega
  case qc6 => simp
  intro v' w1 hown hgrow hnil
  go_wp2
  go_ret
  refine ⟨v', rfl, by simpa using hown, hnil, ?_⟩
  exact ((Below.refl _ w).alloc (Nat.le_refl _) _).grown hgrow (by simp) (by intro k hk; simp [Value.ownBlock] at hk; omega)
theorem run_clear_steps (W : World) (ty : TypeId) (b o n c : Nat) (hn : 0 < n) (hc : ∀ j, j < n * 3 → (W.cell? ⟨b, o + j, none⟩).isSome = true) (hf : ∀ j, j < n * 3 → W.frozen? ⟨b, o + j, none⟩ = false) :
    ∃ zs, (Builtin.clear_ #[65] ty #[.slice (some ⟨b, o, none⟩) n c]).run Tryd.prog W = .ok (.tuple #[]) (W.setCells b o zs) := by
  obtain ⟨zs, hzs⟩ : ∃ zs, zs = (Builtin.zeroCells (Value.cells (.agg #[.bool false, .bool false, .int .i64 0])) n).toList := ⟨_, rfl⟩
  have hl : zs.length = n * 3 := by rw [hzs]; simp [Builtin.zeroCells, Value.cells]
  have ho : ∀ v ∈ zs, v.oneCell' = true := by
    intro v hv
    rw [hzs] at hv
    simp only [Builtin.zeroCells, Value.cells, Array.toList_map, List.mem_map] at hv
    obtain ⟨i, _, rfl⟩ := hv
    have h3 : i % 3 < 3 := Nat.mod_lt _ (by omega)
    show (#[Value.bool false, .bool false, .int .i64 0][i % 3]!).oneCell' = true
    generalize i % 3 = r at h3
    match r, h3 with
    | 0, _ => rfl
    | 1, _ => rfl
    | 2, _ => rfl
  have hst := run_storeCells_cells (P := Tryd.prog) b o zs 0 W (by simpa [hl] using hc) (by simpa [hl] using hf) ho
  simp only [Nat.add_zero] at hst
  refine ⟨zs, ?_⟩
  obtain ⟨m, rfl⟩ : ∃ m, n = m + 1 := ⟨n - 1, by omega⟩
  have hz := Tryd.zeroValue73
  simp [Builtin.clear_, run_underlying Tryd.underlying65, hz, ← hzs, hst]
theorem sps_app (l m : List Sp) : (l ++ m).flatMap spCells = l.flatMap spCells ++ m.flatMap spCells := by simp
theorem setCells_below (b : Nat) (vs : List Value) (o : Nat) (w : World) : Below b w (w.setCells b o vs) := by
  induction vs generalizing o w with
  | nil => exact Below.refl _ _
  | cons v vs ih => exact ((Below.refl b w).setCell (p := ⟨b, o, none⟩) (Nat.le_refl b) v).trans (ih _ _)
/-- what Delete leaves in the row -/
theorem del_cells (l : List Sp) (i : Nat) (hi : i + 1 < l.length) (b : Nat) (w : World) (zs : List Value) (hc : ∀ j u, (l.flatMap spCells)[j]? = some u → w.cell? ⟨b, j, none⟩ = some u) :
    Rd ((w.setCells b (i * 3) ((l.drop (i + 1)).flatMap spCells)).setCells b ((l.length - 1) * 3) zs) (some ⟨b, 0, none⟩) ((l.take i ++ l.drop (i + 1)).flatMap spCells) := by
  have hl1 : ((l.take i).flatMap spCells).length = i * 3 := by rw [sps_len, List.length_take]; omega
  have hl2 : ((l.drop (i + 1)).flatMap spCells).length = (l.length - (i + 1)) * 3 := by rw [sps_len, List.length_drop]
  intro j u hj
  refine ⟨b, 0, rfl, ?_⟩
  have hjl : j < (l.length - 1) * 3 := by
    have := (List.getElem?_eq_some_iff.1 hj).1
    rw [sps_len, List.length_append, List.length_take, List.length_drop] at this
    omega
  rw [Nat.zero_add, World.cell?_setCells_out b zs _ _ _ (fun _ _ => .inl hjl)]
  rw [sps_app] at hj
  by_cases h : j < i * 3
  · rw [World.cell?_setCells_out b _ _ _ _ (fun _ _ => .inl h)]
    rw [List.getElem?_append_left (by omega)] at hj
    apply hc
    rw [← List.take_append_drop i l, sps_app, List.getElem?_append_left (by omega)]
    exact hj
  · rw [List.getElem?_append_right (by omega), hl1] at hj
    obtain ⟨k, rfl⟩ : ∃ k, j = i * 3 + k := ⟨j - i * 3, by omega⟩
    rw [Nat.add_sub_cancel_left] at hj
    obtain ⟨hk, he⟩ := List.getElem?_eq_some_iff.1 hj
    rw [World.cell?_setCells_in b _ _ _ (fun t ht => by
      have hlt : i * 3 + t < (l.flatMap spCells).length := by rw [sps_len]; rw [hl2] at ht; omega
      rw [hc _ _ (List.getElem?_eq_getElem hlt)]
      rfl) k hk, he]
set_option maxRecDepth 100000 in
set_option maxHeartbeats 2000000 in
theorem del_any (l : List Sp) (i : Nat) (j : Int) (hj : j = (i : Int) + 1) (hi : i + 1 < l.length) (hl : l.length ≤ 1000000) (b cap : Nat) (hcap : l.length ≤ cap) (w : World) (_hm : cap ≤ 9223372036854775807)
    (hc : ∀ j u, (l.flatMap spCells)[j]? = some u → w.cell? ⟨b, j, none⟩ = some u) (hf : ∀ j, w.frozen? ⟨b, j, none⟩ = false) :
    Calls Tryd.prog 84 #[.slice (some ⟨b, 0, none⟩) l.length cap, .int .i64 i, .int .i64 j] w fun e w' =>
      e = .returned (.slice (some ⟨b, 0, none⟩) (l.take i ++ l.drop (i + 1)).length cap) ∧ Rd w' (some ⟨b, 0, none⟩) ((l.take i ++ l.drop (i + 1)).flatMap spCells) ∧ Below b w w' := by
  obtain ⟨i0, hi0, hz0, hz1, hz2⟩ := info_parts step_info
  obtain ⟨k, rfl, hk⟩ : ∃ k : Nat, j = k ∧ k = i + 1 := ⟨i + 1, by omega, rfl⟩
  have hkl : (l.drop k).length = l.length - k := List.length_drop
  obtain ⟨news, hnews⟩ : ∃ news, news = (l.drop k).flatMap spCells := ⟨_, rfl⟩
  have hnl : news.length = (l.length - k) * 3 := by rw [hnews, sps_len, hkl]
  have HCE := Lib.hid hc
  have s1 : Hid (news.length = (l.length - k) * 3) := hnl
  have s2 : Hid (∀ u ∈ news, u.oneCell' = true) := by rw [hnews]; exact sps_one _
  have hsrc : Hid (∀ t u, news[t]? = some u → w.drew.cell? ((⟨b, k * 3, none⟩ : Addr).add t) = some u) := by
    intro t u hu
    have h1 : (⟨b, k * 3, none⟩ : Addr).add t = ⟨b, k * 3 + t, none⟩ := by
      unfold Addr.add
      by_cases h0 : t = 0
      · subst h0; rfl
      · simp [h0]
    rw [h1]
    apply hc
    rw [← List.take_append_drop k l, sps_app, List.getElem?_append_right (by rw [sps_len, List.length_take]; omega), sps_len, List.length_take, show k * 3 + t - min k l.length * 3 = t by rw [Nat.min_eq_left (by omega)]; omega, ← hnews]
    exact hu
  have s3 : Hid (∀ t, t < news.length → (w.drew.cell? ⟨b, 0 + i * 3 + t, none⟩).isSome = true ∧ w.drew.frozen? ⟨b, 0 + i * 3 + t, none⟩ = false) := by
    intro t ht
    rw [hnl] at ht
    have hlt : 0 + i * 3 + t < (l.flatMap spCells).length := by rw [sps_len]; omega
    exact ⟨by show (w.cell? _).isSome = true; rw [hc _ _ (List.getElem?_eq_getElem hlt)]; rfl, hf _⟩
  obtain ⟨W1, hW1⟩ : ∃ W1, W1 = w.drew.setCells b (0 + i * 3) news := ⟨_, rfl⟩
  have hW : Hid (W1 = w.drew.setCells b (0 + i * 3) news) := hW1
  obtain ⟨zs, hcl⟩ := run_clear_steps W1 0 b ((i + (l.length - k)) * 3) (l.length - (i + (l.length - k))) (cap - (i + (l.length - k))) (by omega) (fun t ht => by
      rw [hW1]
      have hlt : (i + (l.length - k)) * 3 + t < (l.flatMap spCells).length := by rw [sps_len]; omega
      rw [World.cell?_setCells_out b _ _ _ _ (fun _ _ => .inr (by rw [hnl]; show 0 + i * 3 + _ ≤ (i + (l.length - k)) * 3 + t; omega))]
      show (w.cell? _).isSome = true
      rw [hc _ _ (List.getElem?_eq_getElem hlt)]
      rfl) (fun t ht => by rw [hW1, World.frozen?_setCells]; exact hf _)
  have hcl2 : ∀ ty, (Builtin.clear_ #[65] ty #[.slice (some ⟨b, (i + (l.length - k)) * 3, none⟩) (l.length - (i + (l.length - k))) (cap - (i + (l.length - k)))]).run Tryd.prog W1 = .ok (.tuple #[]) (W1.setCells b ((i + (l.length - k)) * 3) zs) := fun ty => hcl
  have HK := Lib.hid hk
  have HNW := Lib.hid hnews
  have HI := Lib.hid hi0
  have HZ1 := Lib.hid hz1
  have hik : ((i : Int) == (k : Int)) = false := by rw [beq_eq_false_iff_ne]; omega
  have hkc : k < cap := by omega
  have hkl2 : k < l.length := by omega
  have hil : i ≤ k := by omega
  have hck : ¬ cap = k := by omega
  have hic : i ≤ cap := by omega
  have hjc : k ≤ cap := by omega
  have hjl : k ≤ l.length := by omega
  have hci : ¬ cap = i + (l.length - k) := by omega
  have mixed : Tryd.prog.follows Departure.mixedOrders = true := by kernel_rfl
  clear hj hcl hW1 hc hf hnl hk hi0 hz0 hz1 hz2 hnews hkl
  go_enter Tryd.func84, Tryd.ntmps84
  go_wp2_with fail
  go_region_law_o (refine step_append_room rfl (.tmp 22) (.tmp 25) 65 rfl 73 i0 3 Tryd.underlying65 HI.out HZ1.out b 0 i cap (by simp [Act.eval, Act.put]) ⟨b, k * 3, none⟩ (l.length - k) (cap - k) news (by simp [Act.eval, Act.put]) s1.out hsrc.out s2.out (by omega) s3.out ?_; rw [← hW.out])
  go_wp2_with fail
  go_ret
  have hk := HK.out
  subst hk
  have hlen : (l.take i ++ l.drop (i + 1)).length = i + (l.length - (i + 1)) := by rw [List.length_append, List.length_take, List.length_drop]; omega
  refine ⟨by rw [hlen]; rfl, ?_, ?_⟩
  · rw [hW.out, HNW.out, Nat.zero_add, show i + (l.length - (i + 1)) = l.length - 1 by omega]
    exact del_cells l i hi b w.drew zs HCE.out
  · rw [hW.out]
    exact ((below_drewN (Below.refl b w) 1).trans (setCells_below b _ _ _)).trans (setCells_below b _ _ _)
end Go.Proofs.YtjnkcpeicocjhaaDoor.Exp

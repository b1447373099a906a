/- Gaps: the search, question by question. -/
import Derived.Test.YtjfiodknjchngaaDoorGpK
import Derived.Laws.EntriesVeiled
import Derived.Deep.RegionLaw
import Derived.Deep.CutRange
import Derived.BigQuiet
namespace Go.Proofs.YtjfiodknjchngaaDoor.Gp
open Go.RowKit Mem Nest Fk MapSet

structure Prm where
  ns : List Nat
  only : Nat → Nat → Bool
  l1 : Nat → Nat → Nat → Nat
  l2 : Nat → Nat → Nat → Nat
  fd : Nat → Nat → Bool
def Prm.R (P : Prm) (q a b : Nat) : Option (List Int) := srchF P.only P.l1 P.l2 P.fd (P.ns.drop q) q a b
/-- one branch -/
def Prm.br (P : Prm) (q a b i : Nat) : Option (List Int) := if P.only q i = true then (P.R (q + 1) (P.l1 a q i) (P.l2 b q i)).map (fun c => (i : Int) :: c) else none
theorem Prm.R_step (P : Prm) {q : Nat} (h : q < P.ns.length) (a b : Nat) : P.R q a b = (List.range P.ns[q]).findSome? (P.br q a b) := by
  unfold Prm.R
  rw [List.drop_eq_getElem_cons h]
  rfl
theorem Prm.R_end (P : Prm) {q : Nat} (h : q = P.ns.length) (a b : Nat) : P.R q a b = if P.fd a b = true then some [] else none := by
  unfold Prm.R
  rw [List.drop_of_length_le (by omega)]
  rfl
theorem find_at {f : Nat → Option (List Int)} {n j : Nat} {c : List Int} (hj : j < n) (h : ∀ i, i < j → f i = none) (hc : f j = some c) : (List.range n).findSome? f = some c := by
  rw [show n = j + (n - j) by omega, List.range_add, List.findSome?_append, List.findSome?_eq_none_iff.2 (fun x hx => h x (List.mem_range.1 hx))]
  rw [show n - j = (n - j - 1) + 1 by omega, List.range_succ_eq_map]
  simp [hc]
theorem find_no {f : Nat → Option (List Int)} {n : Nat} (h : ∀ i, i < n → f i = none) : (List.range n).findSome? f = none :=
  List.findSome?_eq_none_iff.2 (fun x hx => h x (List.mem_range.1 hx))

/-- what a search leaves of the blocks that it has not made: rows of integers and searches apart -/
structure Fr (w w' : World) : Prop where
  size : w.heap.size ≤ w'.heap.size
  block : ∀ (k : Nat) c T fz, w.heap[k]? = some (Obj.cells c T fz) → T ≠ 3 → T ≠ 122 → w'.heap[k]? = some (Obj.cells c T fz)
theorem Fr.refl (w : World) : Fr w w := ⟨Nat.le_refl _, fun _ _ _ _ h _ _ => h⟩
theorem Fr.trans {w w1 w2 : World} (h : Fr w w1) (h2 : Fr w1 w2) : Fr w w2 := ⟨Nat.le_trans h.size h2.size, fun k c T fz hk h3 h4 => h2.block k c T fz (h.block k c T fz hk h3 h4) h3 h4⟩
theorem Fr.of (w w' : World) (hb : Below w.heap.size w w') : Fr w w' := ⟨hb.size, fun k c T fz hk _ _ => by rw [hb.block k (Array.getElem?_eq_some_iff.1 hk).1]; exact hk⟩
theorem Fr.blk {w w' : World} (h : Fr w w') {B : Nat} {T : TypeId} {cs : List Value} (hb : Blk w B T cs) (h1 : T ≠ 3) (h2 : T ≠ 122) : Blk w' B T cs := h.block _ _ _ _ hb h1 h2

/-- what does not change in a search -/
structure Kn where
  P : Prm
  w0 : World
  sb : Nat
  mb : Nat
  QA : Option Addr
  qc : Nat
  qms : List QnM
  RA : Option Addr
  rac : Nat
  ras : List RwM
  vb : Value
  RB : Option Addr
  rbc : Nat
  rbs : List RwM
  O : Value
  F : Value
def Kn.cells (k : Kn) (v : Value) : List Value := [.slice k.QA k.qms.length k.qc, .slice k.RA k.ras.length k.rac, k.vb, .slice k.RB k.rbs.length k.rbc, .map (some k.mb), k.O, k.F, .nilFunc, v]
structure Kn.Ok (k : Kn) : Prop where
  qs : QsP k.w0 k.QA k.qms
  ra : RowsP k.w0 k.RA k.ras
  rb : RowsP k.w0 k.RB k.rbs
  ns : k.P.ns = k.qms.map fun q => q.ans.length
  n12 : k.qms.length ≤ 12
  a12 : ∀ q ∈ k.qms, q.ans.length ≤ 12
  la : k.ras.length ≤ 60
  lb : k.rbs.length ≤ 60
  ca : ∀ r ∈ k.ras, r.cells.length = k.qms.length
  cb : ∀ r ∈ k.rbs, r.cells.length = k.qms.length
  l1 : k.P.l1 = fun (m q i : Nat) => lft (k.ras.map RwM.rw) q (i : Nat) m k.ras.length
  l2 : k.P.l2 = fun (m q i : Nat) => lft (k.rbs.map RwM.rw) q (i : Nat) m k.rbs.length
  s0 : k.w0.heap.size ≤ k.mb
  m0 : k.mb < k.sb
structure Kn.Inv (k : Kn) (w : World) (v : Value) (cs : List Int) (n : Nat) : Prop where
  below : Below k.w0.heap.size k.w0 w
  blk : Blk w k.sb 122 (k.cells v)
  row : w.ownsRow (k.sb + 1) 3 1 v cs.length (ints cs)
  map : ∃ S, SetM Tryd.prog 143 4 w k.mb n S ∧ ∀ q a b, S (keyV q a b) → k.P.R q a b = none
theorem Kn.Inv.ext {k : Kn} {w w' : World} {v : Value} {cs : List Int} {n : Nat} (h : k.Inv w v cs n) (hb : Below w.heap.size w w') : k.Inv w' v cs n where
  below := ⟨hb.os.trans h.below.os, hb.tape.trans h.below.tape, hb.output.trans h.below.output, Nat.le_trans h.below.size hb.size, fun i hi => by rw [hb.block i (Nat.lt_of_lt_of_le hi h.below.size), h.below.block i hi]⟩
  blk := by
    have := h.blk
    unfold Blk at this ⊢
    rw [hb.block k.sb (Blk.lt h.blk)]
    exact this
  row := own_ext h.row hb
  map := by
    obtain ⟨S, h1, h2⟩ := h.map
    exact ⟨S, h1.ext hb, h2⟩
/-- a list cut ahead -/
theorem own_cut {w : World} {base : Nat} {e : TypeId} {v : Value} {n : Nat} {xs : List Value} (h : w.ownsRow base e 1 v n xs) {q : Nat} (hq : q ≤ n) :
    (v = .slice none 0 0 ∧ n = 0) ∨ ∃ g cap, v = .slice (some ⟨g, 0, none⟩) n cap ∧ n ≤ cap ∧ cap ≤ maxLen ∧ w.ownsRow base e 1 (.slice (some ⟨g, 0, none⟩) q cap) q (xs.take q) := by
  have hxs := h.1
  rcases h.2 with ⟨h0, hn⟩ | ⟨g, cap, cur, hv, hg, hh, hn, hcap, hsz, htake⟩
  · exact .inl ⟨h0, hn⟩
  · refine .inr ⟨g, cap, hv, hn, hcap, ?_, .inr ⟨g, cap, cur, rfl, hg, hh, by omega, hcap, hsz, ?_⟩⟩
    · rw [List.length_take]
      omega
    · rw [← htake, List.take_take]
      congr 1
      omega
/-- what run leaves -/
def Kn.After (k : Kn) (q a b n : Nat) (cs : List Int) (w w' : World) : Prop :=
  Fr w w' ∧ ∃ v' cs' n', k.Inv w' v' cs' n' ∧ n' ≤ n + 13 ^ (k.P.ns.length - q + 1) ∧ q ≤ cs'.length ∧ cs'.take q = cs ∧ ∀ c, k.P.R q a b = some c → cs' = cs ++ c
def Kn.RunPost (k : Kn) (q a b n : Nat) (cs : List Int) (w : World) (e : Ending) (w' : World) : Prop :=
  e = .returned (.bool (k.P.R q a b).isSome) ∧ k.After q a b n cs w w'
def Kn.Done (k : Kn) (q a b n : Nat) (cs : List Int) (wc w2 : World) : Prop := ∃ wy, Below wc.heap.size wc wy ∧ k.After q a b n cs wy w2
theorem Kn.Done.blk {k : Kn} {q a b n : Nat} {cs : List Int} {wc w2 : World} (h : k.Done q a b n cs wc w2) : ∃ v, Blk w2 k.sb 122 (k.cells v) := by
  obtain ⟨_, _, _, v, _, _, h, _⟩ := h
  exact ⟨v, h.blk⟩
def Kn.DonePost (k : Kn) (r : Bool) (q a b n : Nat) (cs : List Int) (wc : World) (e : Ending) (w2 : World) : Prop := e = .returned (.bool r) ∧ k.Done q a b n cs wc w2
theorem ints_snoc (cs : List Int) (j : Int) : ints (cs ++ [j]) = ints cs ++ [.int .i64 j] := by simp [ints]
theorem Kn.Inv.put {k : Kn} (hk : k.Ok) {wc w1 : World} {v' v1 vq : Value} {cs' cs : List Int} {n' : Nat} {j : Int} {o : Obj} (h : k.Inv wc v' cs' n') (ho : wc.ownsRow (k.sb + 1) 3 1 vq cs.length (ints cs))
    (hown : w1.ownsRow (k.sb + 1) 3 1 v1 (cs.length + 1) (ints cs ++ [.int .i64 j])) (hg : (wc.alloc o).grownBy w1 vq.ownBlock) : k.Inv (w1.setCell ⟨k.sb, 8, none⟩ v1) v1 (cs ++ [j]) n' ∧ Fr wc (w1.setCell ⟨k.sb, 8, none⟩ v1) := by
  have hsb := h.blk.lt
  have B1 : Below (k.sb + 1) wc w1 := ((Below.refl _ wc).alloc (by omega) o).grown hg (by simp; omega) (fun g hg' => (ho.lt g hg').1)
  have h0 := hk.s0
  have h1 := hk.m0
  refine ⟨⟨?_, ?_, ?_, ?_⟩, ⟨?_, ?_⟩⟩
  · exact (h.below.trans (B1.mono (by omega))).setCell (by simp; omega) _
  · exact (h.blk.ext B1).set 8 v1
  · rw [ints_snoc, List.length_append]
    exact ownsRow_setCell_below hown (by simp) v1
  · obtain ⟨S, h2, h3⟩ := h.map
    exact ⟨S, h2.keep h1 ((B1.mono (by omega)).setCell (by simp) _), h3⟩
  · have := B1.size
    simpa [World.setCell] using this
  · intro kk c T fz hb hT hS
    have hlt := (Array.getElem?_eq_some_iff.1 hb).1
    have hne : kk ≠ k.sb := by
      rintro rfl
      have := h.blk
      unfold Blk at this
      rw [this] at hb
      simp only [Option.some.injEq, Obj.cells.injEq] at hb
      exact hS hb.2.1.symm
    have hb' : (wc.alloc o).heap[kk]? = some (Obj.cells c T fz) := by rw [heap_alloc_old _ _ hlt]; exact hb
    have hne2 : some kk ≠ vq.ownBlock := by
      intro e
      obtain ⟨c', fz', h'⟩ := Lib.ownsRow_kind ho kk e.symm
      rw [hb] at h'
      simp only [Option.some.injEq, Obj.cells.injEq] at h'
      exact hT h'.2.1
    have hb2 := hg.block kk (Array.getElem?_eq_some_iff.1 hb').1 hne2
    rw [hb'] at hb2
    simp [World.setCell, Array.getElem?_modify, hne.symm, hb2]
theorem Kn.Inv.upd {k : Kn} (hk : k.Ok) {w w1 : World} {v : Value} {cs : List Int} {n q a b : Nat} {S : Value → Prop} (h : k.Inv w v cs n) (hS : ∀ q a b, S (keyV q a b) → k.P.R q a b = none)
    (hs : SetM Tryd.prog 143 4 w1 k.mb (n + 1) (fun x => x = keyV q a b ∨ S x)) (hg : w.grownBy w1 (some k.mb)) (hR : k.P.R q a b = none) : k.Inv w1 v cs (n + 1) ∧ Fr w w1 := by
  have h0 := hk.s0
  have h1 := hk.m0
  have hsb := h.blk.lt
  have B1 : Below k.mb w w1 := grown_keep hg (Nat.le_refl _) (by omega)
  refine ⟨⟨?_, ?_, ?_, ?_⟩, ⟨hg.size, ?_⟩⟩
  · exact h.below.trans (B1.mono (by omega))
  · have := h.blk
    unfold Blk at this ⊢
    rw [hg.block k.sb hsb (by simp; omega)]
    exact this
  · refine h.row.kept hg ?_
    cases hv : v.ownBlock with
    | none => exact .inl rfl
    | some g =>
      right
      have := (h.row.lt g hv).1
      simp
      omega
  · refine ⟨_, hs, fun q' a' b' hx => ?_⟩
    rcases hx with hx | hx
    · obtain ⟨rfl, rfl, rfl⟩ := keyV_inj hx
      exact hR
    · exact hS _ _ _ hx
  · intro kk c T fz hb _ _
    have hlt := (Array.getElem?_eq_some_iff.1 hb).1
    rw [hg.block kk hlt (by
      intro e
      cases e
      obtain ⟨D, ⟨es, cl, hm, _⟩, _⟩ := hs
      obtain ⟨S0, ⟨D0, ⟨es0, cl0, hm0, _⟩, _⟩, _⟩ := h.map
      rw [hb] at hm0
      cases hm0)]
    exact hb
theorem neq_no3 (w : World) : (binOp .neq 120 .nilFunc .nilFunc).run Tryd.prog w = .ok (.bool false) w := by kernel_rfl
theorem neq_no2 (w : World) : (binOp .neq 119 .nilFunc .nilFunc).run Tryd.prog w = .ok (.bool false) w := by kernel_rfl
theorem neq_fn2 (f : Fn) (bs cs : Array Value) (w : World) : (binOp .neq 119 (.func f bs cs) .nilFunc).run Tryd.prog w = .ok (.bool true) w := by kernel_rfl
theorem int_info : (Tryd.prog.info? 3).map (fun i => (i.zero, i.size, i.bytes)) = some (some (.int .i64 0), 1, 8) := by kernel_rfl
theorem zeroB (w : World) : (zeroValue 4).run Tryd.prog w = .ok (.bool false) w := by kernel_rfl
set_option maxRecDepth 100000 in
set_option maxHeartbeats 8000000 in
theorem run_any (k : Kn) (hk : k.Ok) (g : Nat) (caps : Array Value) (hF : k.F = .func (.func g) #[] caps) (hg : ∀ (vs : Array Value) (w : World), (callFunc g vs).run Tryd.prog w = .ok (.enter g vs) w)
    (hfd : ∀ (a b : Nat) (w : World), a < 2 ^ 64 → b < 2 ^ 64 → Below k.w0.heap.size k.w0 w → Calls Tryd.prog g (#[.int .u64 a, .int .u64 b] ++ caps) w (RetA (k.P.fd a b) w))
    (hO : (k.O = .nilFunc ∧ ∀ q i, k.P.only q i = true) ∨ ∃ (g2 : Nat) (row : Value), k.O = .func (.func g2) #[row] #[] ∧ (∀ (vs : Array Value) (w : World), (callFunc g2 vs).run Tryd.prog w = .ok (.enter g2 vs) w) ∧
      ∀ (q i : Nat) (w : World), q < k.qms.length → Below k.w0.heap.size k.w0 w → Calls Tryd.prog g2 #[row, .int .i64 q, .int .i64 i] w (RetA (k.P.only q i) w)) :
    ∀ (r q : Nat), q + r = k.P.ns.length → ∀ (a b n : Nat) (cs : List Int) (v : Value) (w : World), a < 2 ^ 64 → b < 2 ^ 64 → k.Inv w v cs n → cs.length = q → n + 13 ^ (r + 1) ≤ 1000000000000000000 →
      Calls Tryd.prog 45 #[.pointer (some ⟨k.sb, 0, none⟩), .int .i64 q, .int .u64 a, .int .u64 b] w (k.RunPost q a b n cs w) := by
  intro r
  induction r using Nat.strongRecOn with
  | ind r ih =>
  intro q hq a b n cs v w ha hb hI hc hn
  have hl12 : k.P.ns.length ≤ 12 := by rw [hk.ns, List.length_map]; exact hk.n12
  have bx := Blk.new w 143 [.int .i64 (q : Int), .int .u64 (a : Int), .int .u64 (b : Int)]
  have hx := ext_alloc w (.cells (List.toArray [.int .i64 (q : Int), .int .u64 (a : Int), .int .u64 (b : Int)]) 143)
  obtain ⟨W, hW⟩ : ∃ W, W = w.alloc (.cells (List.toArray [.int .i64 (q : Int), .int .u64 (a : Int), .int .u64 (b : Int)]) 143) := ⟨_, rfl⟩
  obtain ⟨K, hK⟩ : ∃ K, K = w.heap.size := ⟨_, rfl⟩
  rw [← hW] at bx hx
  have hs0 : k.sb < w.heap.size := hI.blk.lt
  rw [← hK] at bx hs0
  have hI1 := hI.ext hx
  have HI1 := Lib.hid hI1
  have HK := Lib.hid bx
  have HX := Lib.hid hx
  have hlk : ∃ c : Bool, (∀ m, (Instr.lookup 117 (.map (some k.mb)) (.agg #[.int .i64 (q : Int), .int .u64 (a : Int), .int .u64 (b : Int)]) false).run Tryd.prog (W.drewN m) = .ok (.bool c) (W.drewN m)) ∧ (c = true → k.P.R q a b = none) := by
    obtain ⟨S, hS, hSn⟩ := hI1.map
    obtain ⟨kl, hkl⟩ := key_key q a b (by omega) ha hb
    obtain ⟨c, h1, h2⟩ := hS.lookup key_law Tryd.underlying117 Tryd.underlying4 (zeroB W) hkl
    refine ⟨c, fun m => ?_, fun h => hSn _ _ _ (h2.1 h)⟩
    obtain ⟨c', h1', h2'⟩ := (hS.ext (ext_drewN W m)).lookup key_law Tryd.underlying117 Tryd.underlying4 (zeroB _) hkl
    have : c' = c := by rw [Bool.eq_iff_iff, h2', h2]
    subst this
    exact h1'
  obtain ⟨c, hlk, hcn⟩ := hlk
  have HCN := Lib.hid hcn
  have y0 := bx.cell 0 rfl
  have y1 := bx.cell 1 rfl
  have y2 := bx.cell 2 rfl
  have x0 := hI1.blk.cell 0 rfl
  have x4 := hI1.blk.cell 4 rfl
  have x7 := hI1.blk.cell 7 rfl
  have n3 := neq_no3
  have HW := Lib.hid hW
  have HKe := Lib.hid hK
  have HC := Lib.hid hc
  have HNQ := Lib.hid hq
  have HFe := Lib.hid hF
  have HOk := Lib.hid hk
  have HIH := Lib.hid ih
  have HFD := Lib.hid hfd
  have HO := Lib.hid hO
  have x6 := hI1.blk.cell 6 rfl
  rw [hF] at x6
  have hnl : k.P.ns.length = k.qms.length := by rw [hk.ns, List.length_map]
  clear bx hx hI1 hI hcn hW hK hc hk ih hfd hO hF
  go_enter Tryd.func45, Tryd.ntmps45
  go_upto_region 2 with fail
  rw [show w.alloc (.cells #[.int .i64 (q : Int), .int .u64 (a : Int), .int .u64 (b : Int)] 143) = W from HW.out.symm, ← HKe.out]
  clear HW
  cases c with
  | true =>
    have hR := HCN.out rfl
    go_quiet (fail)
    have HI2 := Lib.hid (HI1.out.ext (ext_drewN W nq))
    have HFr := Lib.hid (Fr.of _ _ (ext_trans HX.out (ext_drewN W nq)))
    clear hlk
    go_wp2_with fail
    go_ret
    exact ⟨by rw [hR]; rfl, HFr.out, v, cs, n, HI2.out, Nat.le_add_right _ _, by have := HC.out; omega, List.take_of_length_le (by have := HC.out; omega), fun c h => by rw [hR] at h; cases h⟩
  | false =>
    go_quiet (fail)
    clear hlk
    have HI2 := Lib.hid (HI1.out.ext (ext_drewN W nq))
    have HFr := Lib.hid (Fr.of _ _ (ext_trans HX.out (ext_drewN W nq)))
    have HK2 := Lib.hid (HFr.out)
    have HKb := Lib.hid (show Blk (W.drewN nq) K 143 [.int .i64 (q : Int), .int .u64 (a : Int), .int .u64 (b : Int)] from (Fr.of _ _ (ext_drewN W nq)).blk HK.out (by decide) (by decide))
    obtain ⟨V, hV⟩ : ∃ V, V = W.drewN nq := ⟨_, rfl⟩
    rw [← hV] at HI2 HFr HKb ⊢
    clear hV x0 x4 x7 x6 y0 y1 y2 HK HI1 HX HCN HK2
    have x0 := HI2.out.blk.cell 0 rfl
    rcases Nat.eq_zero_or_pos r with h0 | hr
    · have hq2 : q = k.qms.length := by have := HNQ.out; omega
      have e1 : ((q : Int) == (k.qms.length : Int)) = true := by simp [hq2]
      have x6 := HI2.out.blk.cell 6 rfl
      rw [HFe.out] at x6
      have hR := k.P.R_end (q := q) (by omega) a b
      have HC0 := Lib.hid (HFD.out a b V ha hb HI2.out.below)
      obtain ⟨f, hf⟩ : ∃ f, f = k.P.fd a b := ⟨_, rfl⟩
      rw [← hf] at HC0 hR
      have HR := Lib.hid hR
      clear hf hR hq2
      go_wp2_with fail
      refine HC0.out.mono ?_
      rintro e w' ⟨rfl, hb2⟩
      have HB2 := Lib.hid hb2
      clear hb2
      go_wp2_with fail
      go_ret
      refine ⟨?_, HFr.out.trans (Fr.of _ _ HB2.out), v, cs, n, HI2.out.ext HB2.out, Nat.le_add_right _ _, by have := HC.out; omega, List.take_of_length_le (by have := HC.out; omega), fun c h => ?_⟩
      · rw [HR.out]
        cases f <;> rfl
      · rw [HR.out] at h
        cases f with
        | false => cases h
        | true => cases h; simp
    · have hql : q < k.qms.length := by have := HNQ.out; omega
      have hqn : q < k.P.ns.length := by omega
      have e1 : ((q : Int) == (k.qms.length : Int)) = false := by simp; omega
      obtain ⟨qb, qo, hQA, z0, z1⟩ := (HOk.out.qs.ext HI2.out.below).row hql
      rw [hQA] at x0
      have hna : k.P.ns[q] = k.qms[q].ans.length := by simp [HOk.out.ns]
      have hn12 : k.qms[q].ans.length ≤ 12 := HOk.out.a12 _ (List.getElem_mem hql)
      have hR := k.P.R_step hqn a b
      rw [hna] at hR
      have HR := Lib.hid hR
      have HQA := Lib.hid hQA
      have hcq : (q : Int) < k.qms.length := by omega
      generalize k.qms[q] = Q at *
      obtain ⟨qname, qans, qA, qc⟩ := Q
      simp only at z0 z1 hn12 HR
      obtain ⟨m, hm⟩ : ∃ m, m = qans.length := ⟨_, rfl⟩
      rw [← hm] at z1 hn12 HR
      obtain ⟨p, hp⟩ : ∃ p, p = 13 ^ r := ⟨_, rfl⟩
      have hp1 : 1 ≤ p := by rw [hp]; exact Nat.pow_pos (by omega)
      have hp13 : 13 ^ (r + 1) = 13 * p := by rw [hp, Nat.pow_succ, Nat.mul_comm]
      have hn2 : n + 13 * p ≤ 1000000000000000000 := by omega
      have HP := Lib.hid hp
      have HP2 := Lib.hid hp13
      clear hm hp hp13 hn hQA hR hna z0
      go_wp2_with fail
      clear z1 x0
      go_loopw [63] (fun t63 wr => ∃ (j : Nat) (v' : Value) (cs' : List Int) (n' : Nat), t63 = .int .i64 j ∧ j ≤ m ∧ Hid (k.Inv wr v' cs' n') ∧ Hid (n' ≤ n + j * p) ∧ Hid (Fr V wr) ∧ Hid (q ≤ cs'.length ∧ cs'.take q = cs) ∧ Hid (∀ i, i < j → k.P.br q a b i = none)) (fun t63 _ => m - (intOf t63).toNat)
      case atStart => exact ⟨0, v, cs, n, rfl, by omega, HI2.out, Nat.le_add_right _ _, Fr.refl V, ⟨by have := HC.out; omega, List.take_of_length_le (by have := HC.out; omega)⟩, fun i hi => absurd hi (by omega)⟩
      case round =>
        obtain ⟨j, v', cs', n', rfl, hj, HJ, HN, HG, HT, HBr⟩ := hrel
        by_cases hlt : j < m
        · have hcl : (j : Int) < m := by omega
          obtain ⟨o, ho⟩ : ∃ o, o = k.P.only q j := ⟨_, rfl⟩
          have x3 := HJ.out.blk.cell 5 rfl
          go_upto_region 9 with fail
          go_cut [80] (fun t80 wx => t80 = .bool (!o) ∧ Hid (Below wr.heap.size wr wx))
          case first =>
            rcases HO.out with ⟨hO1, hO2⟩ | ⟨g2, row, hO1, hg2, hon⟩
            · rw [hO1] at x3
              have h1 : o = true := by rw [ho, hO2]
              subst h1
              have hne := neq_no2
              clear ho
              go_wp2_with fail
              go_meet
              exact ⟨rfl, Below.refl _ _⟩
            · rw [hO1] at x3
              have HON := Lib.hid (hon q j wr hql HJ.out.below)
              rw [← ho] at HON
              have hne := fun w => neq_fn2 (.func g2) #[row] #[] w
              clear ho hO1 hon
              go_wp2_with fail
              refine HON.out.mono ?_
              rintro e w' ⟨rfl, hb2⟩
              have HB2 := Lib.hid hb2
              clear hb2
              go_wp2_with fail
              go_meet
              exact ⟨rfl, HB2.out⟩
          case rest =>
            clear x3
            obtain ⟨rfl, HB2⟩ := hcut
            have HJ2 := Lib.hid (HJ.out.ext HB2.out)
            have HG2 := Lib.hid (HG.out.trans (Fr.of _ _ HB2.out))
            clear HJ HG HB2
            have hjp : (j + 1) * p = j * p + p := Nat.succ_mul _ _
            have hjm : j * p ≤ 11 * p := Nat.mul_le_mul_right _ (by omega)
            cases o with
            | false =>
              have HO1 := Lib.hid ho
              clear ho
              go_wp2_with fail
              go_roundw
              case rel => exact ⟨j + 1, v', cs', n', by go_num, by omega, HJ2.out, (show n' ≤ n + (j + 1) * p by have := HN.out; omega), HG2.out, HT.out, (show ∀ i, i < j + 1 → k.P.br q a b i = none from fun i hi => by
                rcases Nat.lt_succ_iff_lt_or_eq.1 hi with h | rfl
                · exact HBr.out i h
                · unfold Prm.br
                  rw [← HO1.out]
                  rfl)⟩
              case measure => simp [intOf]; omega
            | true =>
              have HO1 := Lib.hid ho
              clear ho
              have x8 := HJ2.out.blk.cell 8 rfl
              obtain ⟨i0, hi, hz0, hz1, hz2⟩ := info_parts int_info
              have HI := Lib.hid hi
              have HZ0 := Lib.hid hz0
              have HZ1 := Lib.hid hz1
              have HZ2 := Lib.hid hz2
              clear hi hz0 hz1 hz2
              go_upto_region 10 with fail
              go_cut [] (fun wx => ∃ (v2 : Value), Hid (k.Inv wx v2 (cs ++ [(j : Int)]) n') ∧ Hid (Fr wc wx))
              case first =>
                have hown : (v' = .slice none 0 0 ∧ cs'.length = 0) ∨ ∃ g cap, v' = .slice (some ⟨g, 0, none⟩) cs'.length cap ∧ cs'.length ≤ cap ∧ cap ≤ maxLen ∧ wc.ownsRow (k.sb + 1) 3 1 (.slice (some ⟨g, 0, none⟩) q cap) q ((ints cs').take q) := own_cut HJ2.out.row HT.out.1
                have hsz := HJ2.out.blk.lt
                have hfz := HJ2.out.blk.free 8
                rcases hown with ⟨rfl, h0⟩ | ⟨g, cap, rfl, hc1, hc2, hown⟩
                · obtain rfl : 0 = q := by have := HT.out.1; omega
                  have hcs : cs = [] := List.eq_nil_of_length_eq_zero HC.out
                  subst hcs
                  have HGr := Lib.hid (fun (w1 : World) (vq : Value) (hg : (wc.alloc (.cells (List.toArray [.int .i64 (j : Int)]) 3)).grownBy w1 (Value.slice none 0 0).ownBlock) => (HJ2.out.blk.ext (((Below.refl (k.sb + 1) wc).alloc hsz (.cells (List.toArray [.int .i64 (j : Int)]) 3)).grown hg (by simp; omega) (fun g hg' => by cases hg')) : Blk w1 k.sb 122 (k.cells (.slice none 0 0))))
                  go_wp2_with (at_builtin; refine wpList_append_own _ rfl _ _ _ rfl (k.sb + 1) 3 i0 _ 1 8 Tryd.underlying46 HI.out HZ0.out HZ1.out HZ2.out rfl (by omega) (.slice none 0 0) 0 [] rfl (World.ownsRow_nil _ _ _ _) ⟨wc.heap.size, 0, none⟩ 1 1 [.int .i64 (j : Int)] rfl rfl (new_cells wc [.int .i64 (j : Int)] _ _ rfl) (by intro u hu; simp only [List.mem_cons, List.not_mem_nil, or_false] at hu; rcases hu with rfl; rfl) (by unfold maxLen; omega) (by omega) (by simp; omega) ?_; intro v1 w1 hown1 hg1 _; obtain ⟨A1, c1, hv1, _⟩ := own_slice hown1; subst hv1; have HO1 := Lib.hid hown1; have HG1 := Lib.hid hg1; have hk1 := HGr.out w1 (.slice none 0 0) hg1; have s8 := hk1.cell 8 rfl; have f8 := hk1.free 8; clear hown1 hg1 hk1)
                  go_meet
                  have HPu := HJ2.out.put (cs := []) (j := (j : Int)) HOk.out (World.ownsRow_nil _ _ _ _) HO1.out HG1.out
                  exact ⟨_, HPu.1, HPu.2⟩
                · have hqc : q ≤ cap := by have := HT.out.1; omega
                  have hown : wc.ownsRow (k.sb + 1) 3 1 (.slice (some ⟨g, 0, none⟩) q cap) q (ints cs) := by
                    have := hown
                    rwa [show (ints cs').take q = ints cs by rw [← HT.out.2]; simp [ints]] at this
                  have HOw := Lib.hid hown
                  have hlc : cs'.length ≤ cap := hc1
                  obtain ⟨L, hL⟩ : ∃ L, L = cs'.length := ⟨_, rfl⟩
                  have HJ3 := Lib.hid (show k.Inv wc (.slice (some ⟨g, 0, none⟩) cs'.length cap) cs' n' from HJ2.out)
                  have HGr := Lib.hid (fun (w1 : World) (vq : Value) (hg : (wc.alloc (.cells (List.toArray [.int .i64 (j : Int)]) 3)).grownBy w1 (Value.slice (some ⟨g, 0, none⟩) q cap).ownBlock) => (HJ2.out.blk.ext (((Below.refl (k.sb + 1) wc).alloc hsz (.cells (List.toArray [.int .i64 (j : Int)]) 3)).grown hg (by simp; omega) (fun g hg' => (HOw.out.lt g hg').1)) : Blk w1 k.sb 122 (k.cells (.slice (some ⟨g, 0, none⟩) cs'.length cap))))
                  rw [← hL] at x8 hlc
                  clear hL hown hc1 HJ2
                  go_wp2_with (at_builtin; refine wpList_append_own _ rfl _ _ _ rfl (k.sb + 1) 3 i0 _ 1 8 Tryd.underlying46 HI.out HZ0.out HZ1.out HZ2.out rfl (by omega) (.slice (some ⟨g, 0, none⟩) q cap) q (ints cs) rfl (World.ownsRow.alloc HOw.out _) ⟨wc.heap.size, 0, none⟩ 1 1 [.int .i64 (j : Int)] rfl rfl (new_cells wc [.int .i64 (j : Int)] _ _ rfl) (by intro u hu; simp only [List.mem_cons, List.not_mem_nil, or_false] at hu; rcases hu with rfl; rfl) (by unfold maxLen; omega) (by omega) (by simp; omega) ?_; intro v1 w1 hown1 hg1 _; obtain ⟨A1, c1, hv1, _⟩ := own_slice hown1; subst hv1; have HO1 := Lib.hid hown1; have HG1 := Lib.hid hg1; have hk1 := HGr.out w1 (.slice none 0 0) hg1; have s8 := hk1.cell 8 rfl; have f8 := hk1.free 8; clear hown1 hg1 hk1)
                  go_meet
                  have ho1 := HOw.out
                  have ho2 := HO1.out
                  have hcq := HC.out
                  subst hcq
                  have HPu := HJ3.out.put (cs := cs) (j := (j : Int)) HOk.out ho1 ho2 HG1.out
                  exact ⟨_, HPu.1, HPu.2⟩
              case rest =>
                clear x8
                obtain ⟨v2, HJ3, HG3⟩ := hcut
                have HG4 := Lib.hid (HG2.out.trans HG3.out)
                clear HJ2 HG2 HG3
                have T0 := HJ3.out.blk.cell 0 rfl
                have T1 := HJ3.out.blk.cell 1 rfl
                have T2 := HJ3.out.blk.cell 2 rfl
                have T3 := HJ3.out.blk.cell 3 rfl
                obtain ⟨ma, hma⟩ : ∃ ma, ma = k.P.l1 a q j := ⟨_, rfl⟩
                obtain ⟨mb, hmb⟩ : ∃ mb, mb = k.P.l2 b q j := ⟨_, rfl⟩
                have hma2 : ma = lft (k.ras.map RwM.rw) q (j : Nat) a k.ras.length := by rw [hma, HOk.out.l1]
                have hmb2 : mb = lft (k.rbs.map RwM.rw) q (j : Nat) b k.rbs.length := by rw [hmb, HOk.out.l2]
                have HLA := Lib.hid (show ∀ w', Below wc.heap.size wc w' → Calls Tryd.prog 50 #[.agg #[.slice k.QA k.qms.length k.qc, .slice k.RA k.ras.length k.rac], .int .u64 (a : Int), .int .i64 (q : Int), .int .i64 (j : Int)] w' (LeftPost ma w') from fun w' hb' => by
                  rw [hma2]
                  exact left_any _ k.ras k.RA k.rac a q j ha (by have := HOk.out.la; omega) (fun r hr => by rw [HOk.out.ca r hr]; exact hql) w' (HOk.out.ra.ext (HJ3.out.ext hb').below))
                have HLB := Lib.hid (show ∀ w', Below wc.heap.size wc w' → Calls Tryd.prog 50 #[.agg #[k.vb, .slice k.RB k.rbs.length k.rbc], .int .u64 (b : Int), .int .i64 (q : Int), .int .i64 (j : Int)] w' (LeftPost mb w') from fun w' hb' => by
                  rw [hmb2]
                  exact left_any _ k.rbs k.RB k.rbc b q j hb (by have := HOk.out.lb; omega) (fun r hr => by rw [HOk.out.cb r hr]; exact hql) w' (HOk.out.rb.ext (HJ3.out.ext hb').below))
                have hla : ma < 2 ^ 64 := by rw [hma2]; exact lft_lt _ _ _ _ ha _ (by have := HOk.out.la; omega)
                have hlb : mb < 2 ^ 64 := by rw [hmb2]; exact lft_lt _ _ _ _ hb _ (by have := HOk.out.lb; omega)
                obtain ⟨ri, hri⟩ : ∃ ri, ri = (k.P.R (q + 1) ma mb).isSome := ⟨_, rfl⟩
                have HRn := Lib.hid (show ∀ w', Below wc.heap.size wc w' → Calls Tryd.prog 45 #[.pointer (some ⟨k.sb, 0, none⟩), .int .i64 ((q : Int) + 1), .int .u64 (ma : Int), .int .u64 (mb : Int)] w' (k.DonePost ri (q + 1) ma mb n' (cs ++ [(j : Int)]) wc) from fun w' hb' => by
                  have h := HIH.out (r - 1) (by omega) (q + 1) (by have := HNQ.out; omega) ma mb n' (cs ++ [(j : Int)]) v2 w' hla hlb (HJ3.out.ext hb') (by rw [List.length_append, HC.out]; rfl) (by rw [show r - 1 + 1 = r by omega, ← HP.out]; have := HN.out; omega)
                  rw [show ((q + 1 : Nat) : Int) = (q : Int) + 1 by omega] at h
                  exact h.mono fun e w2 hp => ⟨by rw [hp.1, hri], w', hb', hp.2⟩)
                have HMA := Lib.hid hma
                have HMB := Lib.hid hmb
                have hw1 : IntKind.i64.wrap ((q : Int) + 1) = (q : Int) + 1 := IntWalk.i64_in _ (by omega)
                clear hma hmb hma2 hmb2 hla hlb
                have hbx := ext_drewN wc 1
                have HT0 := Lib.hid T0
                have HT1 := Lib.hid T1
                have HT2 := Lib.hid T2
                have HT3 := Lib.hid T3
                have HRI := Lib.hid hri
                clear hri
                go_upto_region 11 with fail
                go_cut [112] (fun t112 wx => t112 = .bool ri ∧ Hid (k.Done (q + 1) ma mb n' (cs ++ [(j : Int)]) wc wx))
                case first =>
                  refine wp_region_held_drew (S := fun w' => w'.cell? ⟨k.sb, 0, none⟩ = some (.slice k.QA k.qms.length k.qc) ∧ w'.cell? ⟨k.sb, 1, none⟩ = some (.slice k.RA k.ras.length k.rac) ∧ w'.cell? ⟨k.sb, 2, none⟩ = some k.vb ∧ w'.cell? ⟨k.sb, 3, none⟩ = some (.slice k.RB k.rbs.length k.rbc)) (by kernel_rfl) ?_ (fun hHeld => ?_)
                  · exact ⟨cell_ext hbx HT0.out, cell_ext hbx HT1.out, cell_ext hbx HT2.out, cell_ext hbx HT3.out⟩
                  refine wpAnyH_take (i := 0) (v := ?_) rfl (by kernel_rfl) (by kernel_rfl) (by kernel_rfl) (fun _ _ _ h => h) (Or.inl ⟨by rfl, ?_⟩) (by assumption) ?_
                  rotate_left
                  · intro w hSw; (try dsimp only at hSw); go_simp; try with_reducible rfl
                  (try dsimp only [Act.put, List.setIfInBounds_toArray, List.set_cons_zero, List.set_cons_succ])
                  refine wpAnyH_take (i := 1) (v := ?_) rfl (by kernel_rfl) (by kernel_rfl) (by kernel_rfl) (fun _ _ _ h => h) (Or.inl ⟨by rfl, ?_⟩) (by assumption) ?_
                  rotate_left
                  · intro w hSw; (try dsimp only at hSw); go_simp; try with_reducible rfl
                  (try dsimp only [Act.put, List.setIfInBounds_toArray, List.set_cons_zero, List.set_cons_succ])
                  refine wpAnyH_take (i := 2) (v := ?_) rfl (by kernel_rfl) (by kernel_rfl) (by kernel_rfl) (fun _ _ _ h => h) (Or.inl ⟨by rfl, ?_⟩) (by assumption) ?_
                  rotate_left
                  · intro w hSw; (try dsimp only at hSw); go_simp; try with_reducible rfl
                  (try dsimp only [Act.put, List.setIfInBounds_toArray, List.set_cons_zero, List.set_cons_succ])
                  refine wpAnyH_take (i := 3) (v := ?_) rfl (by kernel_rfl) (by kernel_rfl) (by kernel_rfl) (fun _ _ _ h => h) (Or.inl ⟨by rfl, ?_⟩) (by assumption) ?_
                  rotate_left
                  · intro w hSw; (try dsimp only at hSw); go_simp; try with_reducible rfl
                  (try dsimp only [Act.put, List.setIfInBounds_toArray, List.set_cons_zero, List.set_cons_succ])
                  refine wpAnyH_take (i := 4) (v := ?_) rfl (by kernel_rfl) (by kernel_rfl) (by kernel_rfl) (fun _ _ _ h => h) (Or.inl ⟨by rfl, ?_⟩) (by assumption) ?_
                  rotate_left
                  · intro w hSw; (try dsimp only at hSw); go_simp; try with_reducible rfl
                  (try dsimp only [Act.put, List.setIfInBounds_toArray, List.set_cons_zero, List.set_cons_succ])
                  refine wpAnyH_take (i := 5) (v := ?_) rfl (by kernel_rfl) (by kernel_rfl) (by kernel_rfl) (fun _ _ _ h => h) (Or.inl ⟨by rfl, ?_⟩) (by assumption) ?_
                  rotate_left
                  · intro w hSw; (try dsimp only at hSw); go_simp; try with_reducible rfl
                  (try dsimp only [Act.put, List.setIfInBounds_toArray, List.set_cons_zero, List.set_cons_succ])
                  refine wpAnyH_take (i := 6) (v := ?_) rfl (by kernel_rfl) (by kernel_rfl) (by kernel_rfl) (fun _ _ _ h => h) (Or.inl ⟨by rfl, ?_⟩) (by assumption) ?_
                  rotate_left
                  · intro w hSw; (try dsimp only at hSw); go_simp; try with_reducible rfl
                  (try dsimp only [Act.put, List.setIfInBounds_toArray, List.set_cons_zero, List.set_cons_succ])
                  refine wpAnyH_take (i := 7) (v := ?_) rfl (by kernel_rfl) (by kernel_rfl) (by kernel_rfl) (fun _ _ _ h => h) (Or.inl ⟨by rfl, ?_⟩) (by assumption) ?_
                  rotate_left
                  · intro w hSw; (try dsimp only at hSw); go_simp; try with_reducible rfl
                  (try dsimp only [Act.put, List.setIfInBounds_toArray, List.set_cons_zero, List.set_cons_succ])
                  refine wpAnyH_take (i := 8) (v := ?_) rfl (by kernel_rfl) (by kernel_rfl) (by kernel_rfl) (fun _ _ _ h => h) (Or.inl ⟨by rfl, ?_⟩) (by assumption) ?_
                  rotate_left
                  · intro w hSw; (try dsimp only at hSw); go_simp; try with_reducible rfl
                  (try dsimp only [Act.put, List.setIfInBounds_toArray, List.set_cons_zero, List.set_cons_succ])
                  refine wpAnyH_take (i := 9) (v := ?_) rfl (by kernel_rfl) (by kernel_rfl) (by kernel_rfl) (fun _ _ _ h => h) (Or.inl ⟨by rfl, ?_⟩) (by assumption) ?_
                  rotate_left
                  · intro w hSw; (try dsimp only at hSw); go_simp; try with_reducible rfl
                  (try dsimp only [Act.put, List.setIfInBounds_toArray, List.set_cons_zero, List.set_cons_succ])
                  refine wpAnyH_take (i := 11) (v := ?_) rfl (by kernel_rfl) (by kernel_rfl) (by kernel_rfl) (fun _ _ _ h => h) (Or.inl ⟨by rfl, ?_⟩) (by assumption) ?_
                  rotate_left
                  · intro w hSw; (try dsimp only at hSw); go_simp; try with_reducible rfl
                  (try dsimp only [Act.put, List.setIfInBounds_toArray, List.set_cons_zero, List.set_cons_succ])
                  refine wpAnyH_take (i := 12) (v := ?_) rfl (by kernel_rfl) (by kernel_rfl) (by kernel_rfl) (fun _ _ _ h => h) (Or.inl ⟨by rfl, ?_⟩) (by assumption) ?_
                  rotate_left
                  · intro w hSw; (try dsimp only at hSw); go_simp; try with_reducible rfl
                  (try dsimp only [Act.put, List.setIfInBounds_toArray, List.set_cons_zero, List.set_cons_succ])
                  refine wpAnyH_take (i := 13) (v := ?_) rfl (by kernel_rfl) (by kernel_rfl) (by kernel_rfl) (fun _ _ _ h => h) (Or.inl ⟨by rfl, ?_⟩) (by assumption) ?_
                  rotate_left
                  · intro w hSw; (try dsimp only at hSw); go_simp; try with_reducible rfl
                  (try dsimp only [Act.put, List.setIfInBounds_toArray, List.set_cons_zero, List.set_cons_succ])
                  refine wpAnyH_take (i := 14) (v := ?_) rfl (by kernel_rfl) (by kernel_rfl) (by kernel_rfl) (fun _ _ _ h => h) (Or.inl ⟨by rfl, ?_⟩) (by assumption) ?_
                  rotate_left
                  · intro w hSw; (try dsimp only at hSw); go_simp; try with_reducible rfl
                  (try dsimp only [Act.put, List.setIfInBounds_toArray, List.set_cons_zero, List.set_cons_succ])
                  refine wpAnyH_take (i := 15) (v := ?_) rfl (by kernel_rfl) (by kernel_rfl) (by kernel_rfl) (fun _ _ _ h => h) (Or.inl ⟨by rfl, ?_⟩) (by assumption) ?_
                  rotate_left
                  · intro w hSw; (try dsimp only at hSw); go_simp; try with_reducible rfl
                  (try dsimp only [Act.put, List.setIfInBounds_toArray, List.set_cons_zero, List.set_cons_succ])
                  refine wpAnyH_take (i := 16) (v := ?_) rfl (by kernel_rfl) (by kernel_rfl) (by kernel_rfl) (fun _ _ _ h => h) (Or.inl ⟨by rfl, ?_⟩) (by assumption) ?_
                  rotate_left
                  · intro w hSw; (try dsimp only at hSw); go_simp; try with_reducible rfl
                  (try dsimp only [Act.put, List.setIfInBounds_toArray, List.set_cons_zero, List.set_cons_succ])
                  refine wpAnyH_take (i := 17) (v := ?_) rfl (by kernel_rfl) (by kernel_rfl) (by kernel_rfl) (fun _ _ _ h => h) (Or.inl ⟨by rfl, ?_⟩) (by assumption) ?_
                  rotate_left
                  · intro w hSw; (try dsimp only at hSw); go_simp; try with_reducible rfl
                  (try dsimp only [Act.put, List.setIfInBounds_toArray, List.set_cons_zero, List.set_cons_succ])
                  refine wpAnyH_ready (rs := [10]) (by kernel_rfl) (by simp) ?_
                  refine AllReadyH.cons rfl (fun K hK => ?_) ?_
                  · go_simp
                    go_at_call 50
                    refine (HLA.out _ hbx).mono ?_
                    rintro e w2 ⟨rfl, hb2⟩
                    have hbx := ext_trans hbx hb2
                    clear hb2
                    dsimp only
                    refine hK.out _ _ ?_ (fun hHeld => ?_)
                    · exact ⟨cell_ext hbx HT0.out, cell_ext hbx HT1.out, cell_ext hbx HT2.out, cell_ext hbx HT3.out⟩
                    clear hK K
                    (try dsimp only [Act.put, List.setIfInBounds_toArray, List.set_cons_zero, List.set_cons_succ])
                    refine wpAnyH_ready (rs := [18]) (by kernel_rfl) (by simp) ?_
                    refine AllReadyH.cons rfl (fun K hK => ?_) ?_
                    · go_simp
                      go_at_call 50
                      refine (HLB.out _ hbx).mono ?_
                      rintro e w2 ⟨rfl, hb2⟩
                      have hbx := ext_trans hbx hb2
                      clear hb2
                      dsimp only
                      refine hK.out _ _ ?_ (fun hHeld => ?_)
                      · exact ⟨cell_ext hbx HT0.out, cell_ext hbx HT1.out, cell_ext hbx HT2.out, cell_ext hbx HT3.out⟩
                      clear hK K
                      (try dsimp only [Act.put, List.setIfInBounds_toArray, List.set_cons_zero, List.set_cons_succ])
                      refine wpAnyH_ready (rs := [19]) (by kernel_rfl) (by simp) ?_
                      refine AllReadyH.cons rfl (fun K hK => ?_) ?_
                      · go_simp
                        go_at_call 45
                        refine (HRn.out _ hbx).mono ?_
                        rintro e w2 ⟨rfl, haf⟩
                        have HAf := Lib.hid haf
                        obtain ⟨v5, hb5⟩ := haf.blk
                        have HB5 := Lib.hid hb5
                        clear hb5 haf
                        dsimp only
                        refine hK.out _ _ ?_ (fun hHeld => ?_)
                        · exact ⟨HB5.out.cell 0 rfl, HB5.out.cell 1 rfl, HB5.out.cell 2 rfl, HB5.out.cell 3 rfl⟩
                        clear hK K
                        (try dsimp only [Act.put, List.setIfInBounds_toArray, List.set_cons_zero, List.set_cons_succ])
                        refine wpAnyH_done (by kernel_rfl) ?_ _
                        go_wp2_with fail
                        go_meet
                        exact ⟨rfl, HAf.out⟩
                      exact AllReadyH.nil
                    exact AllReadyH.nil
                  exact AllReadyH.nil
                case rest =>
                  clear T0 T1 T2 T3 hbx HT0 HT1 HT2 HT3 HLA HLB HRn
                  obtain ⟨rfl, HD⟩ := hcut
                  obtain ⟨wy, hby, hfr, v5, cs5, n5, hi5, hn5, hq5, htk5, hsome5⟩ := HD.out
                  have hbr : k.P.br q a b j = (k.P.R (q + 1) ma mb).map (fun c => (j : Int) :: c) := by
                    unfold Prm.br
                    rw [← HO1.out, if_pos rfl, ← HMA.out, ← HMB.out]
                  have hn6 : n5 ≤ n + (j + 1) * p := by
                    have h1 := HN.out
                    have h2 : n5 ≤ n' + p := by
                      rw [HP.out]
                      rw [show k.P.ns.length - (q + 1) + 1 = r by have := HNQ.out; omega] at hn5
                      exact hn5
                    omega
                  have htk : cs5.take q = cs := by
                    have h1 : (cs5.take (q + 1)).take q = (cs ++ [(j : Int)]).take q := by rw [htk5]
                    rw [List.take_take, Nat.min_eq_left (by omega), ← HC.out] at h1
                    rw [← HC.out, h1]
                    simp
                  have HG5 := Lib.hid (HG4.out.trans ((Fr.of _ _ hby).trans hfr))
                  have HI5 := Lib.hid hi5
                  have HN6 := Lib.hid hn6
                  have HTk := Lib.hid (And.intro (show q ≤ cs5.length by omega) htk)
                  have HB5 := Lib.hid hbr
                  have HS5 := Lib.hid hsome5
                  have hjp13 : n + (j + 1) * p ≤ n + 13 * p := by omega
                  clear HD hby hfr hi5 hn5 hq5 htk5 hsome5 hbr hn6 htk
                  cases ri with
                  | true =>
                    go_wp2_with fail
                    go_ret
                    obtain ⟨c, hc⟩ := Option.isSome_iff_exists.1 HRI.out.symm
                    have hres : k.P.R q a b = some ((j : Int) :: c) := by
                      rw [HR.out]
                      exact find_at hlt HBr.out (by rw [HB5.out, hc]; rfl)
                    refine ⟨by rw [hres]; rfl, HFr.out.trans HG5.out, v5, cs5, n5, HI5.out, ?_, HTk.out.1, HTk.out.2, fun c' h => ?_⟩
                    · rw [show k.P.ns.length - q + 1 = r + 1 by have := HNQ.out; omega, HP2.out]
                      have := HN6.out
                      omega
                    · rw [hres] at h
                      cases h
                      rw [HS5.out c hc, List.append_assoc]
                      rfl
                  | false =>
                    go_wp2_with fail
                    go_roundw
                    case rel => exact ⟨j + 1, v5, cs5, n5, by go_num, by omega, HI5.out, HN6.out, HG5.out, HTk.out, (show ∀ i, i < j + 1 → k.P.br q a b i = none from fun i hi => by
                      rcases Nat.lt_succ_iff_lt_or_eq.1 hi with h | rfl
                      · exact HBr.out i h
                      · rw [HB5.out]
                        cases h : k.P.R (q + 1) ma mb with
                        | none => rfl
                        | some c =>
                          have := HRI.out
                          rw [h] at this
                          cases this)⟩
                    case measure => simp [intOf]; omega
        · obtain rfl : m = j := by omega
          have hcl : ¬ (m : Int) < m := by omega
          have hR : k.P.R q a b = none := by rw [HR.out]; exact find_no HBr.out
          have HKw := Lib.hid (show Blk wr K 143 [.int .i64 (q : Int), .int .u64 (a : Int), .int .u64 (b : Int)] from HG.out.blk HKb.out (by decide) (by decide))
          have x4 := HJ.out.blk.cell 4 rfl
          have y0 := HKw.out.cell 0 rfl
          have y1 := HKw.out.cell 1 rfl
          have y2 := HKw.out.cell 2 rfl
          have hsm : k.mb < k.sb := HOk.out.m0
          have HJd := Lib.hid (show k.Inv wr.drew v' cs' n' from HJ.out.ext (ext_drewN wr 1))
          obtain ⟨S, hS, hSn⟩ := HJd.out.map
          obtain ⟨kl, hkl⟩ := key_key q a b (by omega) ha hb
          have hjm : m * p ≤ 12 * p := Nat.mul_le_mul_right _ hn12
          have hn6 : n' ≤ n + m * p := HN.out
          obtain ⟨w1, hrun, hs, hg1⟩ := hS.update key_law Tryd.underlying117 Tryd.underlying4 (show n' < maxLen by unfold maxLen; omega) hkl
          have hrun : (Instr.mapUpdate 117 (.map (some k.mb)) (.agg #[.int .i64 (q : Int), .int .u64 (a : Int), .int .u64 (b : Int)]) (.bool true)).run Tryd.prog wr.drew = .ok () w1 := hrun
          have hUp := HJd.out.upd HOk.out hSn hs hg1 hR
          have HUp := Lib.hid hUp
          have hKm : K ≠ k.mb := by
            intro e
            have h1 := HKw.out
            unfold Blk at h1
            obtain ⟨S0, ⟨D0, ⟨es0, cl0, hm0, _⟩, _⟩, _⟩ := HJ.out.map
            rw [← e, h1] at hm0
            cases hm0
          have HKx := Lib.hid (show w1.cell? ⟨k.sb, 4, none⟩ = some (.map (some k.mb)) ∧ w1.cell? ⟨K, 0, none⟩ = some (.int .i64 (q : Int)) ∧ w1.cell? ⟨K, 1, none⟩ = some (.int .u64 (a : Int)) ∧ w1.cell? ⟨K, 2, none⟩ = some (.int .u64 (b : Int)) from
            ⟨hg1.cell (show wr.drew.cell? ⟨k.sb, 4, none⟩ = _ from x4) (by simp; omega), hg1.cell (show wr.drew.cell? ⟨K, 0, none⟩ = _ from y0) (by simp; omega), hg1.cell (show wr.drew.cell? ⟨K, 1, none⟩ = _ from y1) (by simp; omega), hg1.cell (show wr.drew.cell? ⟨K, 2, none⟩ = _ from y2) (by simp; omega)⟩)
          have HRn := Lib.hid hR
          have HFd := Lib.hid (show Fr wr wr.drew from Fr.of _ _ (ext_drewN wr 1))
          have HN7 := Lib.hid (show n' + 1 ≤ n + 13 ^ (k.P.ns.length - q + 1) by
            rw [show k.P.ns.length - q + 1 = r + 1 by have := HNQ.out; omega, HP2.out]
            omega)
          clear hS hSn hs hg1 hUp hkl hR hjm hn6 HJd
          go_upto_region 14 with fail
          go_region_held3 (fun w' => w'.cell? ⟨k.sb, 4, none⟩ = some (.map (some k.mb)) ∧ w'.cell? ⟨K, 0, none⟩ = some (.int .i64 (q : Int)) ∧ w'.cell? ⟨K, 1, none⟩ = some (.int .u64 (a : Int)) ∧ w'.cell? ⟨K, 2, none⟩ = some (.int .u64 (b : Int)))
            ((first | exact ⟨x4, y0, y1, y2⟩ | exact HKx.out))
            (fail)
          go_wp2_with fail
          go_ret
          exact ⟨by rw [HRn.out]; rfl, HFr.out.trans (HG.out.trans (HFd.out.trans HUp.out.2)), v', cs', n' + 1, HUp.out.1, HN7.out, HT.out.1, HT.out.2, fun c h => by rw [HRn.out] at h; cases h⟩
end Go.Proofs.YtjfiodknjchngaaDoor.Gp

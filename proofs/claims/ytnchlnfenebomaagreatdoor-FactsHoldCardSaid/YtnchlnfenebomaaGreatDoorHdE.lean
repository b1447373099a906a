/- Sums over facts: what the program's map of kinds tells; plain bounds; the words of both walks. -/
import Derived.Test.YtnchlnfenebomaaGreatDoorHdC
import Derived.Test.YtnchlnfenebomaaGreatDoorFkO
import Derived.Test.YtnchlnfenebomaaGreatDoorFkV
import Derived.Test.YtnchlnfenebomaaGreatDoorMsi
import Derived.Test.YtnchlnfenebomaaGreatDoorPart
namespace Go.Proofs.YtnchlnfenebomaaGreatDoor.Hd
open Go.RowKit Mem Nest Fk Coin Err Msi

structure Okq (q : Ask) : Prop where
  len : q.l.length ≤ 500
  oks : Oks q.l
  kept : Kept q.l
  coin : ∀ x ∈ q.l, coinB x.value = true
/-- the file of facts and the errors, in memory -/
structure Lk (A : Nat → Addr) (TF : TypeId) (q : Ask) (fb : Nat) (w : World) : Prop where
  fr : ∃ FA c, FR TF w fb FA c q.l
  er : Errs w A
theorem Lk.ext {A : Nat → Addr} {TF : TypeId} {q : Ask} {fb : Nat} {w w' : World} (h : Lk A TF q fb w) (hb : Below w.heap.size w w') : Lk A TF q fb w' := by
  obtain ⟨⟨FA, c, hf⟩, he⟩ := h
  exact ⟨⟨FA, c, hf.ext hb⟩, he.below hb⟩
theorem coin_iff (n : Int) : coinB n = true ↔ -1000000000000 ≤ n ∧ n ≤ 1000000000000 := by
  unfold coinB
  rw [decide_eq_true_iff]
theorem worth_bd {q : Ask} (h : Okq q) (who : Int) (nm : List UInt8) : -1000000000000 ≤ q.worth who nm ∧ q.worth who nm ≤ 1000000000000 := by
  unfold Ask.worth Ask.best
  cases hb : bestF who nm q.on q.kn (-1) q.l with
  | none => simp [valF]
  | some y => exact (coin_iff _).1 (h.coin y (best_hit hb).1)
theorem others_len (q : Ask) (who : Int) (nm : List UInt8) : (q.others who nm).length ≤ 40 := by
  unfold Ask.others othersF
  have := List.length_filter_le (fun o : Int => standsB (bestF who nm q.on q.kn o q.l)) ((List.range 40).map Int.ofNat)
  simpa using this
theorem total_bd {q : Ask} (h : Okq q) (nm : List UInt8) : ∀ (l : List Int), -(1000000000000 * (l.length : Int)) ≤ totalF q nm l ∧ totalF q nm l ≤ 1000000000000 * (l.length : Int)
  | [] => by simp [totalF]
  | o :: t => by
    have ih := total_bd h nm t
    have hw := worth_bd h o nm
    unfold totalF at ih ⊢
    simp only [List.map_cons, List.sum_cons, List.length_cons]
    omega
theorem good_ok (n : Int) : OkS (goodF n) := by
  unfold goodF
  by_cases h : coinB n = true
  · rw [if_pos h]
    exact ⟨(coin_iff n).1 h, .inl rfl⟩
  · rw [if_neg h]
    exact ⟨by simp, .inr ⟨rfl, .inl rfl⟩⟩
theorem ok_nine : OkS (0, 9) := ⟨by simp, .inr ⟨rfl, .inr rfl⟩⟩
theorem ok_code {r : Int × Nat} (h : OkS r) (hc : 0 < r.2) : OkS (0, r.2) := ⟨by simp, by
  rcases h.2 with e | ⟨_, e⟩
  · omega
  · exact .inr ⟨rfl, e⟩⟩
theorem two_ok {f : Int → Int → Int × Nat} {a b : Int × Nat} (ha : OkS a) (hb : OkS b) (hf : OkS (f a.1 b.1)) : OkS (twoF f a b) := by
  unfold twoF
  by_cases h1 : 0 < a.2
  · rw [if_pos h1]; exact ok_code ha h1
  · rw [if_neg h1]
    by_cases h2 : 0 < b.2
    · rw [if_pos h2]; exact ok_code hb h2
    · rw [if_neg h2]; exact hf
theorem part_ok (a n : Int) : OkS (partV a n 4) := by
  unfold partV
  split
  · exact ok_nine
  · split
    · exact ⟨by simp, .inr ⟨rfl, .inl rfl⟩⟩
    · split
      · exact ⟨by simp, .inr ⟨rfl, .inl rfl⟩⟩
      · rename_i h
        exact ⟨by simp only; omega, .inl rfl⟩
theorem evS_ok {q : Ask} (hq : Okq q) : ∀ (d : Nat) (x : Nd) (who : Int), OkS (evS d q x who)
  | 0, _, _ => ok_nine
  | d + 1, .mk k s n A c l, who => by
    have ih := evS_ok hq d
    unfold evS
    split
    · split
      · rename_i h
        exact ⟨(coin_iff n).1 h.2.2, .inl rfl⟩
      · exact ok_nine
    split
    · split
      · exact ⟨worth_bd hq who s, .inl rfl⟩
      · exact ok_nine
    split
    · split
      · have := others_len q who s
        exact ⟨by simp only; omega, .inl rfl⟩
      · exact ok_nine
    split
    · split
      · split
        · exact good_ok _
        · exact ok_nine
      · exact ok_nine
    split
    · split
      · rename_i x
        split
        · rename_i h
          exact ok_code (ih x who) h
        · split
          · exact ok_nine
          · exact part_ok _ _
      · exact ok_nine
    split
    · rename_i x y
      have h1 := ih x who
      have h2 := ih y who
      split
      · exact two_ok h1 h2 (good_ok _)
      split
      · exact two_ok h1 h2 (good_ok _)
      split
      · exact two_ok h1 h2 ⟨by have := h1.1; have := h2.1; simp only; omega, .inl rfl⟩
      split
      · exact two_ok h1 h2 ⟨by have := h1.1; have := h2.1; simp only; omega, .inl rfl⟩
      · exact ok_nine
    · exact ok_nine
/-- what a sum answers -/
def SPost (A : Nat → Addr) (r : Int × Nat) (w : World) (e : Ending) (w' : World) : Prop := e = .returned (.tuple #[.int .i64 r.1, partE r.2 (sentV (A 2)) (sentV (A 8))]) ∧ Below w.heap.size w w'
def BPost (A : Nat → Addr) (r : Bool × Nat) (w : World) (e : Ending) (w' : World) : Prop := e = .returned (.tuple #[.bool r.1, partE r.2 (sentV (A 2)) (sentV (A 8))]) ∧ Below w.heap.size w w'
/-- an answer is good, or its error is one of two -/
theorem sum_cases (A : Nat → Addr) {r : Int × Nat} (h : OkS r) : (r.2 = 0 ∧ partE r.2 (sentV (A 2)) (sentV (A 8)) = .nilIface) ∨ (0 < r.2 ∧ ∃ a, partE r.2 (sentV (A 2)) (sentV (A 8)) = .iface 237 (.pointer (some a))) := by
  rcases h.2 with e | ⟨_, e | e⟩
  · exact .inl ⟨e, by rw [e]; rfl⟩
  · exact .inr ⟨by omega, A 2, by rw [e]; rfl⟩
  · exact .inr ⟨by omega, A 8, by rw [e]; rfl⟩
theorem SI.look_ok {w : World} {b n : Nat} {g : List UInt8 → Option Int} (h : SI w b n g) {s : List UInt8} (hs : s.length ≤ 9223372036854775807) :
    (Instr.lookup 159 (.map (some b)) (.string ⟨s.toArray⟩) true).run Tryz.prog w = .ok (.tuple #[.int .i64 ((g s).getD 0), .bool (g s).isSome]) w := by
  obtain ⟨D, ⟨es, clock, hb, F, _, rfl⟩, hg⟩ := h
  obtain ⟨h1, h2⟩ := hg s hs
  rcases Maps.fit_look (R := rd) true str_law Tryz.underlying159 (zero_int w) hb F (str_key s hs) with ⟨hrun, _, hat⟩ | ⟨e0, y, _, _, hrun, hRv, hat, _⟩
  · rw [Maps.has_false_of_atKey hat] at h1
    cases hq : g s with
    | none => simpa using hrun
    | some x => rw [hq] at h1; cases h1
  · rw [Maps.has_true_of_atKey hat] at h1
    cases hq : g s with
    | none => rw [hq] at h1; cases h1
    | some x =>
      have e := h2 x hq (enc 0)
      rw [hat] at e
      obtain ⟨x', hv, rfl⟩ := rd_inv hRv
      have := enc_inj e
      subst this
      rw [hv] at hrun
      simpa using hrun
/-- an entry of a map literal -/
theorem wpList_ins (w : World) {ops : Array Oper} {rest : List Oper} {o : Oper} {a : Act} {Q : Exit → Act → World → Prop} (hg : o.guard = none) (m x v : Operand)
    (hop : o.op = Op.insert 159 m x v) (b n : Nat) (g : List UInt8 → Option Int) (hm : a.eval m = .map (some b)) (hs : SI w b n g) (hn : n < maxLen) (s : List UInt8) (z : Int) (hx : a.eval x = .string ⟨s.toArray⟩) (hv : a.eval v = .int .i64 z) (hl : s.length ≤ 9223372036854775807)
    (hK : ∀ w', SI w' b (n + 1) (fun s' => if s' = s then some z else g s') → w.grownBy w' (some b) → wpList Tryz.prog ops Q rest (a.put o.dst undef) w') : wpList Tryz.prog ops Q (o :: rest) a w := by
  refine wpList_plain hg fun K' hK' => ?_
  obtain ⟨w', hrun, r1, r2⟩ := hs.upd hl hn z
  unfold Oper.wp
  simp [execOp, hop, hm, hx, hv, hrun, Result.andThen]
  exact hK' _ _ (hK w' r1 r2)
/-- what the program's sums make first: the kinds, and how many kids each has -/
def kidsG (s : List UInt8) : Option Int :=
  if s = kMin then some 2 else if s = kMax then some 2 else if s = [42] then some 1 else if s = [45] then some 2 else if s = [43] then some 2 else if s = kTotal then some 1 else if s = kCount then some 0 else if s = kName then some 0 else if s = kNumber then some 0 else none
theorem boxed (w : World) (fb : Nat) (who on kn : Int) (k s : List UInt8) (n : Int) (A : Option Addr) (c : Nat) (m : Nat) :
    ∃ W, W = (w.alloc (.cells #[.pointer (some ⟨fb, 0, none⟩), .int .i64 who, .int .i64 on, .int .i64 kn, .nilFunc, .int .i64 4] 107)).alloc (.cells #[.string ⟨k.toArray⟩, .string ⟨s.toArray⟩, .int .i64 n, .slice A m c] 44) ∧
      Below w.heap.size w W ∧ Blk W w.heap.size 107 [.pointer (some ⟨fb, 0, none⟩), .int .i64 who, .int .i64 on, .int .i64 kn, .nilFunc, .int .i64 4] ∧ Blk W (w.heap.size + 1) 44 [.string ⟨k.toArray⟩, .string ⟨s.toArray⟩, .int .i64 n, .slice A m c] := by
  refine ⟨_, rfl, ext_trans (ext_alloc w _) (ext_alloc _ _), Sol.blk_ext (Blk.new w _ [_, _, _, _, _, _]) (ext_alloc _ _), ?_⟩
  have := Blk.new (w.alloc (.cells #[.pointer (some ⟨fb, 0, none⟩), .int .i64 who, .int .i64 on, .int .i64 kn, .nilFunc, .int .i64 4] 107)) 44 [.string ⟨k.toArray⟩, .string ⟨s.toArray⟩, .int .i64 n, .slice A m c]
  simpa using this
def lkV (fb : Nat) (who on kn : Int) : Value := .agg #[.pointer (some ⟨fb, 0, none⟩), .int .i64 who, .int .i64 on, .int .i64 kn, .nilFunc, .int .i64 4]
theorem pgood_any (A : Nat → Addr) (n : Int) (w : World) (hE : Errs w A) : Calls Tryz.prog 90 #[.int .i64 n] w (SPost A (goodF n) w) := by
  have hc := hE.v2
  unfold sentV at hc
  have HG := Lib.hid (fun w => coin_any n w)
  clear hE
  by_cases h : coinB n = true
  · have HP := Lib.hid (show goodF n = (n, 0) by unfold goodF; rw [if_pos h])
    rw [h] at HG
    clear h
    go_enter Tryz.func90, Tryz.ntmps90
    go_wp2_with fail
    refine (HG.out _).mono ?_
    rintro e w' ⟨rfl, rfl⟩
    go_wp2_with fail
    go_ret2
    exact ⟨by rw [HP.out]; rfl, Below.refl _ _⟩
  · have HP := Lib.hid (show goodF n = (0, 3) by unfold goodF; rw [if_neg h])
    rw [Bool.not_eq_true] at h
    rw [h] at HG
    clear h
    go_enter Tryz.func90, Tryz.ntmps90
    go_wp2_with fail
    refine (HG.out _).mono ?_
    rintro e w' ⟨rfl, rfl⟩
    go_wp2_with fail
    go_quiet (fail)
    go_wp2_with fail
    go_ret2
    exact ⟨by rw [HP.out]; rfl, ext_drewN _ _⟩
end Go.Proofs.YtnchlnfenebomaaGreatDoor.Hd

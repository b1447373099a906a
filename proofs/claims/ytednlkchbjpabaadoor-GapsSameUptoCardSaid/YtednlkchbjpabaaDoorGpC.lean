/- Gaps: the first answer that two cells have; the first case that two rows fit. -/
import Derived.Test.YtednlkchbjpabaaDoorGpS
import Derived.Test.YtednlkchbjpabaaDoorGpE
namespace Go.Proofs.YtednlkchbjpabaaDoor.Gp
open Go.RowKit Mem Nest Fk

def commF (n : Nat) (x y : Option (List Int)) : Option Nat := (List.range n).find? fun i : Nat => fitC x (i : Int) && fitC y (i : Int)
def commAll : List Nat → List (Option (List Int)) → List (Option (List Int)) → Option (List Int)
  | [], _, _ => some []
  | n :: ns, x :: xs, y :: ys => match commF n x y with
    | none => none
    | some i => (commAll ns xs ys).map fun c => (i : Int) :: c
  | _, _, _ => none
theorem findSome_if {α β : Type} (g : α → Bool) (f : α → β) : ∀ l : List α, (l.findSome? fun i => if g i = true then some (f i) else none) = (l.find? g).map f
  | [] => rfl
  | x :: l => by
    rw [List.findSome?_cons, List.find?_cons]
    cases h : g x
    · simp [findSome_if g f l]
    · simp
theorem comm_find : ∀ (ns : List Nat) (xs ys : List (Option (List Int))), xs.length = ns.length → ys.length = ns.length → (exts ns).find? (fun c => fitR xs c && fitR ys c) = commAll ns xs ys
  | [], xs, ys, _, _ => by simp [exts, commAll, fitR_nil]
  | n :: ns, [], ys, h, _ => by simp at h
  | n :: ns, x :: xs, [], _, h => by simp at h
  | n :: ns, x :: xs, y :: ys, h1, h2 => by
    have ih := comm_find ns xs ys (by simpa using h1) (by simpa using h2)
    rw [exts, List.find?_flatMap, commAll]
    have e : (fun i : Nat => ((exts ns).map fun c => (i : Int) :: c).find? fun c => fitR (x :: xs) c && fitR (y :: ys) c) = fun i : Nat => if (fitC x (i : Int) && fitC y (i : Int)) = true then (commAll ns xs ys).map (fun c => (i : Int) :: c) else none := by
      funext i
      rw [find_map_cons]
      cases hg : (fitC x (i : Int) && fitC y (i : Int))
      · have : ((exts ns).find? fun c => fitR (x :: xs) ((i : Int) :: c) && fitR (y :: ys) ((i : Int) :: c)) = none := by
          rw [List.find?_eq_none]
          intro c _
          simp only [fitR]
          intro h
          simp only [Bool.and_eq_true] at h
          rw [h.1.1, h.2.1] at hg
          cases hg
        rw [this]
        rfl
      · rw [if_pos rfl, ← ih]
        congr 1
        apply find_congr
        intro c _
        simp only [Bool.and_eq_true] at hg
        simp only [fitR, hg.1, hg.2, Bool.true_and]
    rw [e]
    cases hr : commAll ns xs ys with
    | none =>
      have : (fun i : Nat => if (fitC x (i : Int) && fitC y (i : Int)) = true then (none : Option (List Int)).map (fun c => (i : Int) :: c) else none) = fun _ => none := by
        funext i
        split <;> rfl
      rw [this]
      have h3 : (List.range n).findSome? (fun _ : Nat => (none : Option (List Int))) = none := List.findSome?_eq_none_iff.2 (fun _ _ => rfl)
      rw [h3]
      cases commF n x y <;> rfl
    | some c =>
      have h3 := findSome_if (fun i : Nat => fitC x (i : Int) && fitC y (i : Int)) (fun i : Nat => (i : Int) :: c) (List.range n)
      simp only [Option.map_some] at h3 ⊢
      rw [h3]
      unfold commF
      cases (List.range n).find? fun i : Nat => fitC x (i : Int) && fitC y (i : Int) <;> rfl
-- COMMON (printed by gen_gpc.py, then its posts were turned to RetQ)
def RetQ (x : Int) (w : World) (e : Ending) (w' : World) : Prop := e = .returned (.int .i64 x) ∧ w = w'
theorem retQ {a b : Int} {w w' : World} (h : a = b) (hb : w = w') : RetQ b w (.returned (.int .i64 a)) w' := ⟨by rw [h], hb⟩
theorem comm_at {n k : Nat} {x y : Option (List Int)} (hk : k < n) (h : ∀ j, j < k → (fitC x (j : Int) && fitC y (j : Int)) = false) (hc : (fitC x (k : Int) && fitC y (k : Int)) = true) : commF n x y = some k := by
  unfold commF
  rw [show n = k + ((n - k - 1) + 1) by omega, List.range_add, List.find?_append, List.find?_eq_none.2 (fun j hj => by rw [h j (List.mem_range.1 hj)]; simp), List.range_succ_eq_map]
  simp [hc]
theorem comm_no {n : Nat} {x y : Option (List Int)} (h : ∀ j, j < n → (fitC x (j : Int) && fitC y (j : Int)) = false) : commF n x y = none := by
  unfold commF
  exact List.find?_eq_none.2 (fun j hj => by rw [h j (List.mem_range.1 hj)]; simp)
set_option maxRecDepth 20000 in
set_option maxHeartbeats 1000000 in
theorem common_nn (n : Nat) (_hn : n ≤ 1000) (w : World) : Calls Tryd.prog 41 #[.int .i64 n, .slice none 0 0, .slice none 0 0] w (RetQ (idxI (commF n none none)) w) := by
  have hnil := nil_ints w
  go_enter Tryd.func41, Tryd.ntmps41
  go_wp2_with fail
  go_loop [9] (fun t9 => ∃ k : Nat, t9 = .int .i64 k ∧ k ≤ n ∧ Hid (∀ j, j < k → (fitC none (j : Int) && fitC none (j : Int)) = false)) (fun t9 => n - (intOf t9).toNat)
  case atStart => exact ⟨0, rfl, Nat.zero_le _, fun j hj => absurd hj (by omega)⟩
  case round =>
    obtain ⟨k, rfl, hk, HL⟩ := hrel
    by_cases hkl : k < n
    · have hkc : (k : Int) < n := by omega
      go_wp2_with fail
      go_ret
      exact retQ (by rw [comm_at hkl HL.out (by rw [Bool.and_eq_true]; exact ⟨show fitC none (k : Int) = true from rfl, show fitC none (k : Int) = true from rfl⟩)]; rfl) rfl
    · obtain rfl : n = k := by omega
      have hkc : ¬ (n : Int) < n := by omega
      go_wp2_with fail
      go_ret
      exact retQ (by rw [comm_no HL.out]; rfl) rfl
set_option maxRecDepth 20000 in
set_option maxHeartbeats 1000000 in
theorem common_ns (n : Nat) (hn : n ≤ 1000) (ys : List Int) (ya : Addr) (yc : Nat) (hyl : ys.length ≤ 1048576) (w : World) (hy : Rd w (some ya) (ints ys)) : Calls Tryd.prog 41 #[.int .i64 n, .slice none 0 0, .slice (some ya) ys.length yc] w (RetQ (idxI (commF n none (some ys))) w) := by
  have hnil := nil_ints w
  have hys := some_ints ya ys.length yc w
  have HCy := Lib.hid (fun a => containsg_any ys hyl (some ya) yc a w hy)
  clear hy hyl
  go_enter Tryd.func41, Tryd.ntmps41
  go_wp2_with fail
  go_loop [9] (fun t9 => ∃ k : Nat, t9 = .int .i64 k ∧ k ≤ n ∧ Hid (∀ j, j < k → (fitC none (j : Int) && fitC (some ys) (j : Int)) = false)) (fun t9 => n - (intOf t9).toNat)
  case atStart => exact ⟨0, rfl, Nat.zero_le _, fun j hj => absurd hj (by omega)⟩
  case round =>
    obtain ⟨k, rfl, hk, HL⟩ := hrel
    by_cases hkl : k < n
    · have hkc : (k : Int) < n := by omega
      obtain ⟨fy, hfy⟩ : ∃ f, f = ys.contains (k : Int) := ⟨_, rfl⟩
      have HFy := Lib.hid hfy
      clear hfy
      go_wp2_with fail
      refine (HCy.out (k : Int)).mono ?_
      rw [← HFy.out]
      rintro e w' ⟨rfl, rfl⟩
      cases fy with
      | true =>
        go_wp2_with fail
        go_ret
        exact retQ (by rw [comm_at hkl HL.out (by rw [Bool.and_eq_true]; exact ⟨show fitC none (k : Int) = true from rfl, show fitC (some ys) (k : Int) = true from HFy.out.symm⟩)]; rfl) rfl
      | false =>
        go_wp2_with fail
        go_round
        case rel => exact ⟨k + 1, by go_num, by omega, (show ∀ j, j < k + 1 → (fitC none (j : Int) && fitC (some ys) (j : Int)) = false from fun j hj => by
          rcases Nat.lt_succ_iff_lt_or_eq.1 hj with h | rfl
          · exact HL.out j h
          · exact (by rw [show fitC (some ys) (j : Int) = false from HFy.out.symm, Bool.and_false]))⟩
        case measure => simp [intOf]; omega
    · obtain rfl : n = k := by omega
      have hkc : ¬ (n : Int) < n := by omega
      go_wp2_with fail
      go_ret
      exact retQ (by rw [comm_no HL.out]; rfl) rfl
set_option maxRecDepth 20000 in
set_option maxHeartbeats 1000000 in
theorem common_sn (n : Nat) (hn : n ≤ 1000) (xs : List Int) (xa : Addr) (xc : Nat) (hxl : xs.length ≤ 1048576) (w : World) (hx : Rd w (some xa) (ints xs)) : Calls Tryd.prog 41 #[.int .i64 n, .slice (some xa) xs.length xc, .slice none 0 0] w (RetQ (idxI (commF n (some xs) none)) w) := by
  have hnil := nil_ints w
  have hxs := some_ints xa xs.length xc w
  have HCx := Lib.hid (fun a => containsg_any xs hxl (some xa) xc a w hx)
  clear hx hxl
  go_enter Tryd.func41, Tryd.ntmps41
  go_wp2_with fail
  go_loop [9] (fun t9 => ∃ k : Nat, t9 = .int .i64 k ∧ k ≤ n ∧ Hid (∀ j, j < k → (fitC (some xs) (j : Int) && fitC none (j : Int)) = false)) (fun t9 => n - (intOf t9).toNat)
  case atStart => exact ⟨0, rfl, Nat.zero_le _, fun j hj => absurd hj (by omega)⟩
  case round =>
    obtain ⟨k, rfl, hk, HL⟩ := hrel
    by_cases hkl : k < n
    · have hkc : (k : Int) < n := by omega
      obtain ⟨fx, hfx⟩ : ∃ f, f = xs.contains (k : Int) := ⟨_, rfl⟩
      have HFx := Lib.hid hfx
      clear hfx
      go_wp2_with fail
      refine (HCx.out (k : Int)).mono ?_
      rw [← HFx.out]
      rintro e w' ⟨rfl, rfl⟩
      cases fx with
      | true =>
        go_wp2_with fail
        go_ret
        exact retQ (by rw [comm_at hkl HL.out (by rw [Bool.and_eq_true]; exact ⟨show fitC (some xs) (k : Int) = true from HFx.out.symm, show fitC none (k : Int) = true from rfl⟩)]; rfl) rfl
      | false =>
        go_wp2_with fail
        go_round
        case rel => exact ⟨k + 1, by go_num, by omega, (show ∀ j, j < k + 1 → (fitC (some xs) (j : Int) && fitC none (j : Int)) = false from fun j hj => by
          rcases Nat.lt_succ_iff_lt_or_eq.1 hj with h | rfl
          · exact HL.out j h
          · exact (by rw [show fitC (some xs) (j : Int) = false from HFx.out.symm]; rfl))⟩
        case measure => simp [intOf]; omega
    · obtain rfl : n = k := by omega
      have hkc : ¬ (n : Int) < n := by omega
      go_wp2_with fail
      go_ret
      exact retQ (by rw [comm_no HL.out]; rfl) rfl
set_option maxRecDepth 20000 in
set_option maxHeartbeats 1000000 in
theorem common_ss (n : Nat) (hn : n ≤ 1000) (xs : List Int) (xa : Addr) (xc : Nat) (hxl : xs.length ≤ 1048576) (ys : List Int) (ya : Addr) (yc : Nat) (hyl : ys.length ≤ 1048576) (w : World) (hx : Rd w (some xa) (ints xs)) (hy : Rd w (some ya) (ints ys)) : Calls Tryd.prog 41 #[.int .i64 n, .slice (some xa) xs.length xc, .slice (some ya) ys.length yc] w (RetQ (idxI (commF n (some xs) (some ys))) w) := by
  have hxs := some_ints xa xs.length xc w
  have HCx := Lib.hid (fun a => containsg_any xs hxl (some xa) xc a w hx)
  have hys := some_ints ya ys.length yc w
  have HCy := Lib.hid (fun a => containsg_any ys hyl (some ya) yc a w hy)
  clear hx hxl hy hyl
  go_enter Tryd.func41, Tryd.ntmps41
  go_wp2_with fail
  go_loop [9] (fun t9 => ∃ k : Nat, t9 = .int .i64 k ∧ k ≤ n ∧ Hid (∀ j, j < k → (fitC (some xs) (j : Int) && fitC (some ys) (j : Int)) = false)) (fun t9 => n - (intOf t9).toNat)
  case atStart => exact ⟨0, rfl, Nat.zero_le _, fun j hj => absurd hj (by omega)⟩
  case round =>
    obtain ⟨k, rfl, hk, HL⟩ := hrel
    by_cases hkl : k < n
    · have hkc : (k : Int) < n := by omega
      obtain ⟨fx, hfx⟩ : ∃ f, f = xs.contains (k : Int) := ⟨_, rfl⟩
      have HFx := Lib.hid hfx
      clear hfx
      go_wp2_with fail
      refine (HCx.out (k : Int)).mono ?_
      rw [← HFx.out]
      rintro e w' ⟨rfl, rfl⟩
      cases fx with
      | true =>
        obtain ⟨fy, hfy⟩ : ∃ f, f = ys.contains (k : Int) := ⟨_, rfl⟩
        have HFy := Lib.hid hfy
        clear hfy
        go_wp2_with fail
        refine (HCy.out (k : Int)).mono ?_
        rw [← HFy.out]
        rintro e w' ⟨rfl, rfl⟩
        cases fy with
        | true =>
          go_wp2_with fail
          go_ret
          exact retQ (by rw [comm_at hkl HL.out (by rw [Bool.and_eq_true]; exact ⟨show fitC (some xs) (k : Int) = true from HFx.out.symm, show fitC (some ys) (k : Int) = true from HFy.out.symm⟩)]; rfl) rfl
        | false =>
          go_wp2_with fail
          go_round
          case rel => exact ⟨k + 1, by go_num, by omega, (show ∀ j, j < k + 1 → (fitC (some xs) (j : Int) && fitC (some ys) (j : Int)) = false from fun j hj => by
            rcases Nat.lt_succ_iff_lt_or_eq.1 hj with h | rfl
            · exact HL.out j h
            · exact (by rw [show fitC (some ys) (j : Int) = false from HFy.out.symm, Bool.and_false]))⟩
          case measure => simp [intOf]; omega
      | false =>
        go_wp2_with fail
        go_round
        case rel => exact ⟨k + 1, by go_num, by omega, (show ∀ j, j < k + 1 → (fitC (some xs) (j : Int) && fitC (some ys) (j : Int)) = false from fun j hj => by
          rcases Nat.lt_succ_iff_lt_or_eq.1 hj with h | rfl
          · exact HL.out j h
          · exact (by rw [show fitC (some xs) (j : Int) = false from HFx.out.symm]; rfl))⟩
        case measure => simp [intOf]; omega
    · obtain rfl : n = k := by omega
      have hkc : ¬ (n : Int) < n := by omega
      go_wp2_with fail
      go_ret
      exact retQ (by rw [comm_no HL.out]; rfl) rfl
end Go.Proofs.YtednlkchbjpabaaDoor.Gp

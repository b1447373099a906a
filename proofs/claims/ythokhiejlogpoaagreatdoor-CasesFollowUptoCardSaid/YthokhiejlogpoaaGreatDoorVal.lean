/- reason.Valid: literals, and what is asked of a theory. reason.Valid: the walk. -/
import Derived.Test.YthokhiejlogpoaaGreatDoorRings
import Derived.Test.YthokhiejlogpoaaGreatDoorSol
import Derived.Deep.DeepCutAuto
namespace Go.Proofs.YthokhiejlogpoaaGreatDoor.Val
open Go.RowKit Mem Thy Nest Day Thm

def LitW (N q : Int) : Prop := q ≠ 0 ∧ IntKind.i64.wrap (-N) ≤ q ∧ q ≤ N
theorem litW_iff {N q : Int} (h0 : 0 ≤ N) (h1 : N ≤ 120) : LitW N q ↔ q ≠ 0 ∧ -N ≤ q ∧ q ≤ N := by
  unfold LitW
  rw [IntWalk.i64_in _ (by omega)]
def thVal (N : Int) (rs : List Rw) (RA : Option Addr) (rc : Nat) (ov : List (Int × Int)) (OA : Option Addr) (oc : Nat) : Value := .agg #[.int .i64 N, .slice RA rs.length rc, .slice OA ov.length oc]
def thCells (N : Int) (rs : List Rw) (RA : Option Addr) (rc : Nat) (ov : List (Int × Int)) (OA : Option Addr) (oc : Nat) : List Value := [.int .i64 N, .slice RA rs.length rc, .slice OA ov.length oc]
set_option maxHeartbeats 400000 in
theorem literal_any (N q : Int) (A B : Option Addr) (n1 c1 n2 c2 : Nat) (w : World) :
    Calls Tryz.prog 116 #[.agg #[.int .i64 N, .slice A n1 c1, .slice B n2 c2], .int .i64 q] w (BoolOf w (LitW N q)) := by
  obtain ⟨M, hM⟩ : ∃ M, IntKind.i64.wrap (-N) = M := ⟨_, rfl⟩
  have HX := Lib.hid (ext_alloc w (.cells #[.int .i64 N, .slice A n1 c1, .slice B n2 c2] 107))
  have HM := Lib.hid hM
  by_cases h0 : q = 0
  · subst h0
    go_enter Tryz.func116, Tryz.ntmps116
    go_wp2_with fail
    go_ret
    exact ⟨_, rfl, by simp [LitW], HX.out⟩
  · have h0' : (q != 0) = true := by simp [h0]
    have H0 := Lib.hid h0
    clear h0
    by_cases h1 : M ≤ q
    · by_cases h2 : q ≤ N
      · have h2' : decide (q ≤ N) = true := by simp [h2]
        have h1' : decide (M ≤ q) = true := by simp [h1]
        go_enter Tryz.func116, Tryz.ntmps116
        go_wp2_with fail
        go_ret
        exact ⟨_, rfl, by simp [LitW, HM.out, H0.out, h1, h2], HX.out⟩
      · have h2' : decide (q ≤ N) = false := by simp [h2]
        have h1' : decide (M ≤ q) = true := by simp [h1]
        go_enter Tryz.func116, Tryz.ntmps116
        go_wp2_with fail
        go_ret
        exact ⟨_, rfl, by simp [LitW, h2], HX.out⟩
    · have h1' : decide (M ≤ q) = false := by simp [h1]
      go_enter Tryz.func116, Tryz.ntmps116
      go_wp2_with fail
      go_ret
      exact ⟨_, rfl, by simp [LitW, HM.out]; intro _ h; omega, HX.out⟩
/-- the theory's own block, captured -/
def CapT (w : World) (c : Value) (cs : List Value) : Prop := ∃ g, c = .pointer (some ⟨g, 0, none⟩) ∧ Blk w g 107 cs
theorem CapT.ext {w w' : World} {c : Value} {cs : List Value} (h : CapT w c cs) (hb : Below w.heap.size w w') : CapT w' c cs := by
  obtain ⟨g, e, h⟩ := h
  exact ⟨g, e, Sol.blk_ext h hb⟩
set_option maxHeartbeats 400000 in
theorem val1_any (N x : Int) (A B : Option Addr) (n1 c1 n2 c2 : Nat) (c : Value) (w : World) (hw : CapT w c [.int .i64 N, .slice A n1 c1, .slice B n2 c2]) :
    Calls Tryz.prog 118 #[.int .i64 x, c] w (BoolOf w (¬ LitW N x)) := by
  obtain ⟨g, rfl, hg⟩ := hw
  have x0 := hg.cell 0 rfl
  have x1 := hg.cell 1 rfl
  have x2 := hg.cell 2 rfl
  clear hg
  go_enter Tryz.func118, Tryz.ntmps118
  go_wp2_with fail
  refine (literal_any N x A B n1 c1 n2 c2 _).mono ?_
  rintro e w' ⟨b, rfl, hb1, hb2⟩
  have HB1 := Lib.hid hb1
  have HB2 := Lib.hid hb2
  clear hb1 hb2
  go_wp2_with fail
  go_ret
  refine ⟨_, rfl, ?_, HB2.out⟩
  have h := HB1.out
  rw [← h]
  cases b <;> simp
end Go.Proofs.YthokhiejlogpoaaGreatDoor.Val
namespace Go.Proofs.YthokhiejlogpoaaGreatDoor.Val
open Go.RowKit Mem Thy Nest Day Thm

def Ex {α : Type} (P : α → Prop) (l : List α) (k : Nat) : Prop := ∃ x ∈ l.take k, P x
theorem Ex.zero {α : Type} {P : α → Prop} {l : List α} : Ex P l 0 ↔ False := by simp [Ex]
theorem Ex.succ {α : Type} {P : α → Prop} {l : List α} {k : Nat} (h : k < l.length) : Ex P l (k + 1) ↔ Ex P l k ∨ P l[k] := by
  unfold Ex
  rw [List.take_succ_eq_append_getElem h]
  constructor
  · rintro ⟨x, hx, hp⟩
    rcases List.mem_append.1 hx with hx | hx
    · exact .inl ⟨x, hx, hp⟩
    · simp at hx; subst hx; exact .inr hp
  · rintro (⟨x, hx, hp⟩ | hp)
    · exact ⟨x, List.mem_append_left _ hx, hp⟩
    · exact ⟨_, List.mem_append_right _ (List.mem_singleton.2 rfl), hp⟩
theorem Ex.all {α : Type} {P : α → Prop} {l : List α} : Ex P l l.length ↔ ∃ x ∈ l, P x := by simp [Ex]
def Bound0 (N : Int) (rs : List Rw) (ov : List (Int × Int)) : Prop := ((N < 0 ∨ 120 < N) ∨ 120 < rs.length) ∨ 1200 < ov.length
def BodyB (r : Rw) : Prop := 120 < r.body.length
def KindB (r : Rw) : Prop := r.kind < 0 ∨ 2 < r.kind
def NameB (N : Int) (r : Rw) : Prop := ¬ LitW N r.head ∨ ∃ x ∈ r.body, ¬ LitW N x
def OutB (n : Nat) (x : Int) : Prop := x < 0 ∨ (n : Int) ≤ x
def OvB (n : Nat) (p : Int × Int) : Prop := OutB n p.1 ∨ OutB n p.2
def Bd (N : Int) (rs : List Rw) (ov : List (Int × Int)) : Prop := Bound0 N rs ov ∨ ∃ r ∈ rs, BodyB r
def Kd (rs : List Rw) : Prop := ∃ r ∈ rs, KindB r
def Nm (N : Int) (rs : List Rw) (ov : List (Int × Int)) : Prop := (∃ r ∈ rs, NameB N r) ∨ ∃ p ∈ ov, OvB rs.length p
def VOut (N : Int) (rs : List Rw) (ov : List (Int × Int)) (EB EK EN EO v : Value) : Prop :=
  (Bd N rs ov ∧ v = EB) ∨ (¬ Bd N rs ov ∧ Kd rs ∧ v = EK) ∨ (¬ Bd N rs ov ∧ ¬ Kd rs ∧ Nm N rs ov ∧ v = EN) ∨ (¬ Bd N rs ov ∧ ¬ Kd rs ∧ ¬ Nm N rs ov ∧ ¬ Ranked ov ∧ v = EO) ∨ (¬ Bd N rs ov ∧ ¬ Kd rs ∧ ¬ Nm N rs ov ∧ Ranked ov ∧ v = .nilIface)
structure ErrR (w : World) (EB EK EN EO : Value) : Prop where
  b : w.cell? ⟨2, 0, none⟩ = some EB
  k : w.cell? ⟨0, 0, none⟩ = some EK
  n : w.cell? ⟨3, 0, none⟩ = some EN
  o : w.cell? ⟨4, 0, none⟩ = some EO
theorem ErrR.ext {w w' : World} {EB EK EN EO : Value} (h : ErrR w EB EK EN EO) (hb : Below w.heap.size w w') : ErrR w' EB EK EN EO := ⟨cell_ext hb h.b, cell_ext hb h.k, cell_ext hb h.n, cell_ext hb h.o⟩
def ValPost (N : Int) (rs : List Rw) (ov : List (Int × Int)) (EB EK EN EO : Value) (w : World) (e : Ending) (w' : World) : Prop := ∃ v, e = .returned v ∧ VOut N rs ov EB EK EN EO v ∧ Below w.heap.size w w'
theorem bool_iff (p : Prop) : ∃ b : Bool, b = true ↔ p := by
  rcases Classical.em p with h | h
  · exact ⟨true, by simp [h]⟩
  · exact ⟨false, by simp [h]⟩
theorem rings_pre {N : Int} {rs : List Rw} {ov : List (Int × Int)} (h1 : ¬ Bd N rs ov) (h2 : ¬ Nm N rs ov) : rs.length ≤ 120 ∧ ov.length ≤ 1200 ∧ ∀ p ∈ ov, 0 ≤ p.1 ∧ p.1 < rs.length ∧ 0 ≤ p.2 ∧ p.2 < rs.length := by
  have hb : ¬ Bound0 N rs ov := fun h => h1 (.inl h)
  unfold Bound0 at hb
  refine ⟨by omega, by omega, fun p hp => ?_⟩
  have h : ¬ OvB rs.length p := fun h => h2 (.inr ⟨p, hp, h⟩)
  unfold OvB OutB at h
  omega
set_option maxRecDepth 100000 in
set_option maxHeartbeats 4000000 in
theorem valid_any (N : Int) (rs : List Rw) (RA : Option Addr) (rc : Nat) (ov : List (Int × Int)) (hov : ov.length ≤ 9223372036854775807) (OA : Option Addr) (oc : Nat) (EB EK EN EO : Value) (w : World) (hR : Rws w RA rs) (hO : Rd w OA (ov.flatMap prCells)) (hE : ErrR w EB EK EN EO) :
    Calls Tryz.prog 84 #[.agg #[.int .i64 N, .slice RA rs.length rc, .slice OA ov.length oc]] w (ValPost N rs ov EB EK EN EO w) := by
  have hrl : rs.length ≤ 9223372036854775807 := by have := hR.len; unfold maxLen at this; omega
  have HR := Lib.hid hR
  have HO := Lib.hid hO
  have HE := Lib.hid hE
  have HT0 := Lib.hid (Blk.new w 107 (thCells N rs RA rc ov OA oc))
  have HX0 := Lib.hid (ext_alloc w (.cells (thCells N rs RA rc ov OA oc).toArray 107))
  clear hR hO hE
  obtain ⟨b0, hb0⟩ := bool_iff (Bound0 N rs ov)
  have HB0 := Lib.hid hb0
  clear hb0
  go_enter Tryz.func84, Tryz.ntmps84
  go_upto_region 1 with fail
  go_cut [3] (fun s3 wx => w.alloc (.cells #[.int .i64 N, .slice RA rs.length rc, .slice OA ov.length oc] 107) = wx ∧ s3 = .bool b0)
  case first =>
    by_cases h1 : N < 0
    · go_wp2_with fail
      go_meet
      refine ⟨rfl, congrArg Value.bool ?_⟩
      have h := HB0.out
      rw [Bool.eq_iff_iff, h]
      unfold Bound0
      simp [h1]
    · by_cases h2 : 120 < N
      · go_wp2_with fail
        go_meet
        refine ⟨rfl, congrArg Value.bool ?_⟩
        have h := HB0.out
        rw [Bool.eq_iff_iff, h]
        unfold Bound0
        simp [h2]
      · have h2' : decide (120 < N) = false := by simp [h2]
        by_cases h3 : 120 < rs.length
        · have h3' : decide (120 < (rs.length : Int)) = true := by simp; omega
          go_wp2_with fail
          go_meet
          refine ⟨rfl, congrArg Value.bool ?_⟩
          have h := HB0.out
          rw [Bool.eq_iff_iff, h]
          unfold Bound0
          simp [h3]
        · have h3' : decide (120 < (rs.length : Int)) = false := by simp; omega
          go_wp2_with fail
          go_meet
          refine ⟨rfl, congrArg Value.bool ?_⟩
          have h := HB0.out
          rw [Bool.eq_iff_iff, h]
          unfold Bound0
          simp
          omega
  case rest =>
    obtain ⟨rfl, rfl⟩ := hcut
    have x1 := HT0.out.cell 1 rfl
    go_wp2_with fail
    clear x1
    go_loopw [3, 4, 5, 35] (fun t3 t4 t5 t35 wr => ∃ (bb kk mm : Bool) (j : Nat), t3 = .bool bb ∧ t4 = .bool kk ∧ t5 = .bool mm ∧ t35 = .int .i64 j ∧ j ≤ rs.length ∧ Hid (bb = true ↔ Bound0 N rs ov ∨ Ex BodyB rs j) ∧ Hid (kk = true ↔ Ex KindB rs j) ∧ Hid (mm = true ↔ Ex (NameB N) rs j) ∧ Hid (Below w.heap.size w wr) ∧ Hid (Blk wr w.heap.size 107 (thCells N rs RA rc ov OA oc))) (fun _ _ _ t35 _ => rs.length - (intOf t35).toNat)
    case atStart => exact ⟨b0, false, false, 0, rfl, rfl, rfl, rfl, Nat.zero_le _, by rw [Ex.zero, or_false]; exact HB0.out, by show false = true ↔ Ex KindB rs 0; rw [Ex.zero]; simp, by show false = true ↔ Ex (NameB N) rs 0; rw [Ex.zero]; simp, HX0.out, HT0.out⟩
    case round =>
      obtain ⟨bb, kk, mm, j, rfl, rfl, rfl, rfl, hj, HBB, HKK, HMM, HB, HT⟩ := hrel
      by_cases hlt : j < rs.length
      · obtain ⟨b, o, rfl, r0, r1, r2⟩ := (HR.out.ext HB.out).row hlt
        have HBd := Lib.hid ((HR.out.ext HB.out).bods _ (List.getElem_mem hlt))
        obtain ⟨r, hr⟩ : ∃ r, r = rs[j] := ⟨_, rfl⟩
        rw [← hr] at r0 r1 r2 HBd
        have HRj := Lib.hid hr
        have hbl : r.body.length ≤ 9223372036854775807 := by have := HR.out.lens r (hr ▸ List.getElem_mem hlt); unfold maxLen at this; omega
        clear hr
        obtain ⟨rk, rh, rb, rA, rcc⟩ := r
        simp only at r0 r1 r2 HBd hbl
        go_upto_region 6 with fail
        go_cut [3] (fun s3 wx => wr.alloc (.cells #[.int .i64 rk, .int .i64 rh, .slice rA rb.length rcc] 171) = wx ∧ ∃ b' : Bool, s3 = .bool b' ∧ Hid (b' = true ↔ Bound0 N rs ov ∨ Ex BodyB rs (j + 1)))
        case first =>
          have hs : (Bound0 N rs ov ∨ Ex BodyB rs (j + 1)) ↔ (Bound0 N rs ov ∨ Ex BodyB rs j) ∨ 120 < rb.length := by
            rw [Ex.succ hlt, or_assoc, ← HRj.out]
            rfl
          have HSu := Lib.hid hs
          clear hs
          cases bb
          · by_cases h3 : 120 < rb.length
            · have h3' : decide (120 < (rb.length : Int)) = true := by simp; omega
              go_wp2_with fail
              go_meet
              exact ⟨rfl, true, rfl, by show true = true ↔ _; rw [HSu.out]; simp [h3]⟩
            · have h3' : decide (120 < (rb.length : Int)) = false := by simp; omega
              go_wp2_with fail
              go_meet
              exact ⟨rfl, false, rfl, by show false = true ↔ _; rw [HSu.out, ← HBB.out]; simp [h3]⟩
          · go_wp2_with fail
            go_meet
            exact ⟨rfl, true, rfl, by show true = true ↔ _; rw [HSu.out, ← HBB.out]; simp⟩
        case rest =>
          clear HBB
          obtain ⟨hww, bb, rfl, HBB⟩ := hcut
          subst hww
          go_upto_region 7 with fail
          go_cut [4] (fun s4 wx => (wr.alloc (.cells #[.int .i64 rk, .int .i64 rh, .slice rA rb.length rcc] 171)) = wx ∧ ∃ b' : Bool, s4 = .bool b' ∧ Hid (b' = true ↔ Ex KindB rs (j + 1)))
          case first =>
            have hs : Ex KindB rs (j + 1) ↔ Ex KindB rs j ∨ (rk < 0 ∨ 2 < rk) := by
              rw [Ex.succ hlt, ← HRj.out]
              rfl
            have HSu := Lib.hid hs
            clear hs
            cases kk
            · by_cases h1 : rk < 0
              · go_wp2_with fail
                go_meet
                exact ⟨rfl, true, rfl, by show true = true ↔ _; rw [HSu.out]; simp [h1]⟩
              · by_cases h2 : 2 < rk
                · go_wp2_with fail
                  go_meet
                  exact ⟨rfl, true, rfl, by show true = true ↔ _; rw [HSu.out]; simp [h2]⟩
                · have h2' : decide (2 < rk) = false := by simp [h2]
                  go_wp2_with fail
                  go_meet
                  exact ⟨rfl, false, rfl, by show false = true ↔ _; rw [HSu.out, ← HKK.out]; simp; omega⟩
            · go_wp2_with fail
              go_meet
              exact ⟨rfl, true, rfl, by show true = true ↔ _; rw [HSu.out, ← HKK.out]; simp⟩
          case rest =>
            clear HKK
            obtain ⟨hww, kk, rfl, HKK⟩ := hcut
            subst hww
            have HXa := Lib.hid (ext_alloc wr (.cells #[.int .i64 rk, .int .i64 rh, .slice rA rb.length rcc] 171))
            have HRl := Lib.hid (Blk.new wr 171 [.int .i64 rk, .int .i64 rh, .slice rA rb.length rcc])
            have HT2 := Lib.hid (Sol.blk_ext HT.out HXa.out)
            have hs : Ex (NameB N) rs (j + 1) ↔ Ex (NameB N) rs j ∨ (¬ LitW N rh ∨ ∃ x ∈ rb, ¬ LitW N x) := by
              rw [Ex.succ hlt, ← HRj.out]
              rfl
            have HSu := Lib.hid hs
            clear hs
            cases mm
            · have y0 := HT2.out.cell 0 rfl
              have y1 := HT2.out.cell 1 rfl
              have y2 := HT2.out.cell 2 rfl
              have HC := Lib.hid (show ∀ w2, Below (wr.alloc (.cells #[.int .i64 rk, .int .i64 rh, .slice rA rb.length rcc] 171)).heap.size (wr.alloc (.cells #[.int .i64 rk, .int .i64 rh, .slice rA rb.length rcc] 171)) w2 → Calls Tryz.prog 117 #[.slice rA rb.length rcc, .func (.func 118) #[] #[.pointer (some ⟨w.heap.size, 0, none⟩)]] w2 (BoolOf w2 (∃ x ∈ rb, ¬ LitW N x)) from fun w2 hb2 =>
                contains_ints 118 (fun _ _ => by kernel_rfl) (.pointer (some ⟨w.heap.size, 0, none⟩)) (fun x => ¬ LitW N x) (fun w' => CapT w' (.pointer (some ⟨w.heap.size, 0, none⟩)) (thCells N rs (some ⟨b, o, none⟩) rc ov OA oc)) (fun _ _ h hb => h.ext hb) rb rA rcc hbl (fun x _ w' hw => val1_any N x (some ⟨b, o, none⟩) OA rs.length rc ov.length oc _ w' hw) w2 ⟨_, rfl, Sol.blk_ext HT2.out hb2⟩ ((HBd.out.ext HXa.out).ext hb2))
              go_wp2_with fail
              refine (literal_any N rh (some ⟨b, o, none⟩) OA rs.length rc ov.length oc _).mono ?_
              rintro e w2 ⟨bl, rfl, hb1, hb2⟩
              have HL1 := Lib.hid hb1
              have HL2 := Lib.hid hb2
              have z2 : w2.cell? ⟨wr.heap.size, 2, none⟩ = some (.slice rA rb.length rcc) := (Sol.blk_ext HRl.out hb2).cell 2 rfl
              clear y0 y1 y2 hb1 hb2
              cases bl
              · go_wp2_with fail
                go_roundw
                case rel => exact ⟨bb, kk, true, j + 1, rfl, rfl, rfl, by go_num, by omega, HBB, HKK, by show true = true ↔ _; rw [HSu.out]; have h := HL1.out; have h2 : ¬ LitW N rh := (fun x => (by simpa using h.2 x)); simp [h2], ext_trans HB.out (ext_trans HXa.out HL2.out), Sol.blk_ext HT2.out HL2.out⟩
                case measure => simp [intOf]; omega
              · go_wp2_with fail
                refine (HC.out w2 HL2.out).mono ?_
                rintro e w3 ⟨bc, rfl, hb1, hb2⟩
                have HC1 := Lib.hid hb1
                have HC2 := Lib.hid hb2
                clear z2 hb1 hb2
                go_wp2_with fail
                go_roundw
                case rel => exact ⟨bb, kk, bc, j + 1, rfl, rfl, rfl, by go_num, by omega, HBB, HKK, by show bc = true ↔ _; rw [HSu.out, HC1.out, ← HMM.out]; have h : LitW N rh := HL1.out.1 (by simp); simp [h], ext_trans HB.out (ext_trans HXa.out (ext_trans HL2.out HC2.out)), Sol.blk_ext (Sol.blk_ext HT2.out HL2.out) HC2.out⟩
                case measure => simp [intOf]; omega
            · go_wp2_with fail
              go_roundw
              case rel => exact ⟨bb, kk, true, j + 1, rfl, rfl, rfl, by go_num, by omega, HBB, HKK, by show true = true ↔ _; rw [HSu.out, ← HMM.out]; simp, ext_trans HB.out HXa.out, HT2.out⟩
              case measure => simp [intOf]; omega
      · obtain rfl : rs.length = j := by omega
        have x2 := HT.out.cell 2 rfl
        go_wp2_with fail
        clear x2
        go_loopw [5, 75] (fun t5 t75 wr => ∃ (mm : Bool) (j : Nat), t5 = .bool mm ∧ t75 = .int .i64 j ∧ j ≤ ov.length ∧ Hid (mm = true ↔ Ex (NameB N) rs rs.length ∨ Ex (OvB rs.length) ov j) ∧ Hid (Below w.heap.size w wr) ∧ Hid (Blk wr w.heap.size 107 (thCells N rs RA rc ov OA oc))) (fun _ t75 _ => ov.length - (intOf t75).toNat)
        case atStart => exact ⟨mm, 0, rfl, rfl, Nat.zero_le _, by rw [Ex.zero, or_false]; exact HMM.out, HB.out, HT.out⟩
        case round =>
          clear HMM HB HT
          obtain ⟨mm, j, rfl, rfl, hj, HMM, HB, HT⟩ := hrel
          by_cases hlt : j < ov.length
          · obtain ⟨b, o, rfl, r0, r1⟩ := pair_at (HO.out.ext HB.out) hlt
            obtain ⟨pa, pb, hpe⟩ : ∃ pa pb, ov[j] = (pa, pb) := ⟨_, _, rfl⟩
            rw [hpe] at r0 r1
            simp only at r0 r1
            have HPE := Lib.hid hpe
            clear hpe
            have i0 : ∀ w', (Instr.index 169 (.agg #[.int .i64 pa, .int .i64 pb]) (.int .i64 0)).run Tryz.prog w' = .ok (.int .i64 pa) w' := fun _ => by kernel_rfl
            have i1 : ∀ w', (Instr.index 169 (.agg #[.int .i64 pa, .int .i64 pb]) (.int .i64 1)).run Tryz.prog w' = .ok (.int .i64 pb) w' := fun _ => by kernel_rfl
            have HX := Lib.hid (ext_alloc wr (.cells #[.int .i64 pa, .int .i64 pb] 169))
            have HT2 := Lib.hid (Sol.blk_ext HT.out HX.out)
            have y1 : (wr.alloc (.cells #[.int .i64 pa, .int .i64 pb] 169)).cell? ⟨w.heap.size, 1, none⟩ = some (.slice RA rs.length rc) := HT2.out.cell 1 rfl
            go_wp2_with fail
            clear r0 r1
            go_loop [5, 80] (fun t5 t80 => ∃ (mm : Bool) (c : Nat), t5 = .bool mm ∧ t80 = .int .i64 c ∧ c ≤ 2 ∧ Hid (mm = true ↔ (Ex (NameB N) rs rs.length ∨ Ex (OvB rs.length) ov j) ∨ (1 ≤ c ∧ OutB rs.length pa) ∨ (2 ≤ c ∧ OutB rs.length pb))) (fun _ t80 => 2 - (intOf t80).toNat)
            case atStart => exact ⟨mm, 0, rfl, rfl, by omega, by show mm = true ↔ _; rw [HMM.out]; simp⟩
            case round =>
              clear HMM
              obtain ⟨mm, c, rfl, rfl, hc, HMi⟩ := hrel
              have hcc : c = 0 ∨ c = 1 ∨ c = 2 := by omega
              rcases hcc with rfl | rfl | rfl
              · skip
                have hst : ((Ex (NameB N) rs rs.length ∨ Ex (OvB rs.length) ov j) ∨ (1 ≤ 0 + 1 ∧ OutB rs.length pa) ∨ (2 ≤ 0 + 1 ∧ OutB rs.length pb)) ↔ ((Ex (NameB N) rs rs.length ∨ Ex (OvB rs.length) ov j) ∨ (1 ≤ 0 ∧ OutB rs.length pa) ∨ (2 ≤ 0 ∧ OutB rs.length pb)) ∨ OutB rs.length pa := by
                  simp [or_assoc]
                have HSt := Lib.hid hst
                clear hst
                cases mm
                · by_cases h1 : pa < 0
                  · go_wp2_with fail
                    go_round
                    case rel => exact ⟨true, 0 + 1, rfl, by go_num, by omega, by show true = true ↔ _; rw [HSt.out]; simp [OutB, h1]⟩
                    case measure => simp [intOf]
                  · by_cases h2 : (rs.length : Int) ≤ pa
                    · have h2' : decide ((rs.length : Int) ≤ pa) = true := by simp [h2]
                      go_wp2_with fail
                      go_round
                      case rel => exact ⟨true, 0 + 1, rfl, by go_num, by omega, by show true = true ↔ _; rw [HSt.out]; simp [OutB, h2]⟩
                      case measure => simp [intOf]
                    · have h2' : decide ((rs.length : Int) ≤ pa) = false := by simp [h2]
                      go_wp2_with fail
                      go_round
                      case rel => exact ⟨false, 0 + 1, rfl, by go_num, by omega, by show false = true ↔ _; rw [HSt.out, ← HMi.out]; simp [OutB]; omega⟩
                      case measure => simp [intOf]
                · go_wp2_with fail
                  go_round
                  case rel => exact ⟨true, 0 + 1, rfl, by go_num, by omega, by show true = true ↔ _; rw [HSt.out, ← HMi.out]; simp⟩
                  case measure => simp [intOf]
              · skip
                have hst : ((Ex (NameB N) rs rs.length ∨ Ex (OvB rs.length) ov j) ∨ (1 ≤ 1 + 1 ∧ OutB rs.length pa) ∨ (2 ≤ 1 + 1 ∧ OutB rs.length pb)) ↔ ((Ex (NameB N) rs rs.length ∨ Ex (OvB rs.length) ov j) ∨ (1 ≤ 1 ∧ OutB rs.length pa) ∨ (2 ≤ 1 ∧ OutB rs.length pb)) ∨ OutB rs.length pb := by
                  simp [or_assoc]
                have HSt := Lib.hid hst
                clear hst
                cases mm
                · by_cases h1 : pb < 0
                  · go_wp2_with fail
                    go_round
                    case rel => exact ⟨true, 1 + 1, rfl, by go_num, by omega, by show true = true ↔ _; rw [HSt.out]; simp [OutB, h1]⟩
                    case measure => simp [intOf]
                  · by_cases h2 : (rs.length : Int) ≤ pb
                    · have h2' : decide ((rs.length : Int) ≤ pb) = true := by simp [h2]
                      go_wp2_with fail
                      go_round
                      case rel => exact ⟨true, 1 + 1, rfl, by go_num, by omega, by show true = true ↔ _; rw [HSt.out]; simp [OutB, h2]⟩
                      case measure => simp [intOf]
                    · have h2' : decide ((rs.length : Int) ≤ pb) = false := by simp [h2]
                      go_wp2_with fail
                      go_round
                      case rel => exact ⟨false, 1 + 1, rfl, by go_num, by omega, by show false = true ↔ _; rw [HSt.out, ← HMi.out]; simp [OutB]; omega⟩
                      case measure => simp [intOf]
                · go_wp2_with fail
                  go_round
                  case rel => exact ⟨true, 1 + 1, rfl, by go_num, by omega, by show true = true ↔ _; rw [HSt.out, ← HMi.out]; simp⟩
                  case measure => simp [intOf]
              · go_wp2_with fail
                go_roundw
                case rel => exact ⟨mm, j + 1, rfl, by go_num, by omega, by show mm = true ↔ _; rw [HMi.out, Ex.succ hlt, HPE.out]; simp [OvB, or_assoc], ext_trans HB.out HX.out, HT2.out⟩
                case measure => simp [intOf]; omega
          · obtain rfl : ov.length = j := by omega
            have HBd := Lib.hid (show bb = true ↔ Bd N rs ov by rw [HBB.out, Ex.all]; rfl)
            have HKd := Lib.hid (show kk = true ↔ Kd rs by rw [HKK.out, Ex.all]; rfl)
            have HNm := Lib.hid (show mm = true ↔ Nm N rs ov by rw [HMM.out, Ex.all, Ex.all]; rfl)
            have HEr := Lib.hid (HE.out.ext HB.out)
            have e1 := HEr.out.b
            have e2 := HEr.out.k
            have e3 := HEr.out.n
            have e4 := HEr.out.o
            clear HBB HKK HMM
            cases bb
            · have hb : ¬ Bd N rs ov := fun h => by simpa using HBd.out.2 h
              have HNB := Lib.hid hb
              clear hb
              cases kk
              · have hk : ¬ Kd rs := fun h => by simpa using HKd.out.2 h
                have HNK := Lib.hid hk
                clear hk
                cases mm
                · have hm : ¬ Nm N rs ov := fun h => by simpa using HNm.out.2 h
                  have HNN := Lib.hid hm
                  clear hm
                  have x1 := HT.out.cell 1 rfl
                  have x2 := HT.out.cell 2 rfl
                  have HRi := Lib.hid (rings_pre HNB.out HNN.out)
                  go_wp2_with fail
                  refine (Rings.rings_any rs.length HRi.out.1 ov HRi.out.2.1 HRi.out.2.2 OA oc _ (HO.out.ext HB.out)).mono ?_
                  rintro e w4 ⟨br, rfl, hb1, hb2⟩
                  have HR1 := Lib.hid hb1
                  have HR2 := Lib.hid hb2
                  have f4 := (HEr.out.ext hb2).o
                  clear e1 e2 e3 e4 x1 x2 hb1 hb2
                  cases br
                  · go_wp2_with fail
                    go_ret
                    exact ⟨_, rfl, .inr (.inr (.inr (.inr ⟨HNB.out, HNK.out, HNN.out, Classical.not_not.1 fun h => by simpa using HR1.out.2 h, rfl⟩))), ext_trans HB.out HR2.out⟩
                  · go_wp2_with fail
                    go_ret
                    exact ⟨_, rfl, .inr (.inr (.inr (.inl ⟨HNB.out, HNK.out, HNN.out, HR1.out.1 (by simp), rfl⟩))), ext_trans HB.out HR2.out⟩
                · go_wp2_with fail
                  go_ret
                  exact ⟨_, rfl, .inr (.inr (.inl ⟨HNB.out, HNK.out, HNm.out.1 (by simp), rfl⟩)), HB.out⟩
              · go_wp2_with fail
                go_ret
                exact ⟨_, rfl, .inr (.inl ⟨HNB.out, HKd.out.1 (by simp), rfl⟩), HB.out⟩
            · go_wp2_with fail
              go_ret
              exact ⟨_, rfl, .inl ⟨HBd.out.1 (by simp), rfl⟩, HB.out⟩
end Go.Proofs.YthokhiejlogpoaaGreatDoor.Val

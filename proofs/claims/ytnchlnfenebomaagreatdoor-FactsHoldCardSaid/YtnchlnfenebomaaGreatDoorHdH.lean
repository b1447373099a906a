/- The program's conditions, against the plain answer. -/
import Derived.Test.YtnchlnfenebomaaGreatDoorHdF
namespace Go.Proofs.YtnchlnfenebomaaGreatDoor.Hd
open Go.RowKit Mem Nest Fk Coin Err Msi

def IHB (q : Ask) (E : Nat → Addr) (fb : Nat) (X : Nat → Prop) (d : Nat) : Prop := ∀ (x : Nd) (who : Int) (w : World), InW w X d x → Lk E 149 q fb w → Calls Tryz.prog 42 #[lkV fb who q.on q.kn, ndV x] w (BPost E (evH d q x who) w)
theorem okh_nine : OkH (false, 9) := .inr ⟨rfl, .inr rfl⟩
theorem okh_code {c : Nat} (h : c = 3 ∨ c = 9) : OkH (false, c) := .inr ⟨rfl, h⟩
theorem okS_code {r : Int × Nat} (h : OkS r) (hc : 0 < r.2) : r.2 = 3 ∨ r.2 = 9 := by
  rcases h.2 with e | ⟨_, e⟩
  · omega
  · exact e
theorem okH_code {r : Bool × Nat} (h : OkH r) (hc : 0 < r.2) : r.2 = 3 ∨ r.2 = 9 := by
  rcases h with e | ⟨_, e⟩
  · omega
  · exact e
theorem twoB_ok {f : Int → Int → Bool} {a b : Int × Nat} (ha : OkS a) (hb : OkS b) : OkH (twoB f a b) := by
  unfold twoB
  by_cases h1 : 0 < a.2
  · rw [if_pos h1]; exact okh_code (okS_code ha h1)
  · rw [if_neg h1]
    by_cases h2 : 0 < b.2
    · rw [if_pos h2]; exact okh_code (okS_code hb h2)
    · rw [if_neg h2]; exact .inl rfl
theorem twoH_ok {f : Bool → Bool → Bool} {a b : Bool × Nat} (ha : OkH a) (hb : OkH b) : OkH (twoH f a b) := by
  unfold twoH
  by_cases h1 : 0 < a.2
  · rw [if_pos h1]; exact okh_code (okH_code ha h1)
  · rw [if_neg h1]
    by_cases h2 : 0 < b.2
    · rw [if_pos h2]; exact okh_code (okH_code hb h2)
    · rw [if_neg h2]; exact .inl rfl
theorem each_ok {ev : Bool} {f : Int → Bool × Nat} {l : List Int} (h : ∀ o, OkH (f o)) : OkH (eachF ev f l) := by
  unfold eachF
  split
  · rename_i o ho
    have := List.find?_some ho
    exact okh_code (okH_code (h o) (by simpa using this))
  · exact .inl rfl
theorem evH_ok {q : Ask} (hq : Okq q) : ∀ (d : Nat) (x : Nd) (who : Int), OkH (evH d q x who)
  | 0, _, _ => okh_nine
  | d + 1, .mk k s n A c l, who => by
    have ih := evH_ok hq d
    have is := evS_ok hq d
    unfold evH
    by_cases h1 : k = kName
    · rw [if_pos h1]
      by_cases h : l.length = 0 ∧ wordB s = true
      · rw [if_pos h]; exact .inl rfl
      · rw [if_neg h]; exact okh_nine
    rw [if_neg h1]
    by_cases h2 : k = kNot
    · rw [if_pos h2]
      match l with
      | [x] =>
        simp only
        by_cases h : 0 < (evH d q x who).2
        · rw [if_pos h]; exact okh_code (okH_code (ih x who) h)
        · rw [if_neg h]; exact .inl rfl
      | [] => exact okh_nine
      | _ :: _ :: _ => exact okh_nine
    rw [if_neg h2]
    by_cases h3 : k = kSome ∨ k = kEvery
    · rw [if_pos h3]
      match l with
      | [x] =>
        simp only
        by_cases h : wordB s = true
        · rw [if_pos h]; exact each_ok fun o => ih x o
        · rw [if_neg h]; exact okh_nine
      | [] => exact okh_nine
      | _ :: _ :: _ => exact okh_nine
    rw [if_neg h3]
    match l with
    | [x, y] =>
      simp only
      by_cases h : k = kOr
      · rw [if_pos h]; exact twoH_ok (ih x who) (ih y who)
      rw [if_neg h]
      by_cases h : k = kAnd
      · rw [if_pos h]; exact twoH_ok (ih x who) (ih y who)
      rw [if_neg h]
      by_cases h : k = [60]
      · rw [if_pos h]; exact twoB_ok (is x who) (is y who)
      rw [if_neg h]
      by_cases h : k = [60, 61]
      · rw [if_pos h]; exact twoB_ok (is x who) (is y who)
      rw [if_neg h]
      by_cases h : k = [61]
      · rw [if_pos h]; exact twoB_ok (is x who) (is y who)
      rw [if_neg h]
      by_cases h : k = [60, 62]
      · rw [if_pos h]; exact twoB_ok (is x who) (is y who)
      rw [if_neg h]
      by_cases h : k = [62, 61]
      · rw [if_pos h]; exact twoB_ok (is x who) (is y who)
      rw [if_neg h]
      by_cases h : k = [62]
      · rw [if_pos h]; exact twoB_ok (is x who) (is y who)
      rw [if_neg h]
      exact okh_nine
    | [] => exact okh_nine
    | [_] => exact okh_nine
    | _ :: _ :: _ :: _ => exact okh_nine
theorem holds_cases (A : Nat → Addr) {r : Bool × Nat} (h : OkH r) : (r.2 = 0 ∧ partE r.2 (sentV (A 2)) (sentV (A 8)) = .nilIface) ∨ (0 < r.2 ∧ r.1 = false ∧ ∃ a, partE r.2 (sentV (A 2)) (sentV (A 8)) = .iface 237 (.pointer (some a))) := by
  rcases h with e | ⟨e1, e | e⟩
  · exact .inl ⟨e, by rw [e]; rfl⟩
  · exact .inr ⟨by omega, e1, A 2, by rw [e]; rfl⟩
  · exact .inr ⟨by omega, e1, A 8, by rw [e]; rfl⟩
/-- what two sums say to each other -/
def cmpF (k : List UInt8) : Option (Int → Int → Bool) :=
  if k = [60] then some fun a b => decide (a < b) else if k = [60, 61] then some fun a b => decide (a ≤ b) else if k = [61] then some fun a b => decide (a = b) else if k = [60, 62] then some fun a b => decide (a ≠ b) else if k = [62, 61] then some fun a b => decide (b ≤ a) else if k = [62] then some fun a b => decide (b < a) else none
set_option maxRecDepth 100000 in
set_option maxHeartbeats 8000000 in
theorem compared2 {q : Ask} (hq : Okq q) (E : Nat → Addr) (fb : Nat) (who : Int) (X : Nat → Prop) (d : Nat) (k s : List UInt8) (n : Int) (A : Option Addr) (c : Nat) (xk xs : List UInt8) (xn : Int) (xA : Option Addr) (xc : Nat) (xl : List Nd) (yk ys : List UInt8) (yn : Int) (yA : Option Addr) (yc : Nat) (yl : List Nd) (f : Int → Int → Bool) (hf : cmpF k = some f) (rr r2 : Int × Nat) (hrr : rr = evS d q (.mk xk xs xn xA xc xl) who) (hr2 : r2 = evS d q (.mk yk ys yn yA yc yl) who) (w : World) (hN : InW w X (d + 1) (.mk k s n A c [.mk xk xs xn xA xc xl, .mk yk ys yn yA yc yl])) (hLk : Lk E 149 q fb w) :
    Calls Tryz.prog 82 #[.agg #[.pointer (some ⟨fb, 0, none⟩), .int .i64 who, .int .i64 q.on, .int .i64 q.kn, .nilFunc, .int .i64 4], .agg #[.string ⟨k.toArray⟩, .string ⟨s.toArray⟩, .int .i64 n, .slice A 2 c]] w (BPost E (twoB f rr r2) w) := by
    have HF := Lib.hid hf
    have HRX := Lib.hid hrr
    have HRY := Lib.hid hr2
    clear hf hrr hr2
    have HN := Lib.hid hN
    have HLk := Lib.hid hLk
    obtain ⟨W, hW, hx, hbk, hbn⟩ := boxed w fb who q.on q.kn k s n A c (2)
    have HX := Lib.hid hx
    have HBk := Lib.hid hbk
    have HBn := Lib.hid hbn
    have HNW := Lib.hid (hN.ext hx)
    have HL := Lib.hid (hLk.ext hx)
    have a0 := hbk.cell 0 rfl
    have a1 := hbk.cell 1 rfl
    have a2 := hbk.cell 2 rfl
    have a3 := hbk.cell 3 rfl
    have a4 := hbk.cell 4 rfl
    have a5 := hbk.cell 5 rfl
    have m0 := hbn.cell 0 rfl
    have m1 := hbn.cell 1 rfl
    have m2 := hbn.cell 2 rfl
    have m3 := hbn.cell 3 rfl
    clear hN hLk hx hbk hbn
    go_enter Tryz.func82, Tryz.ntmps82
    go_upto_region 1 with fail
    rw [show (w.alloc (.cells #[.pointer (some ⟨fb, 0, none⟩), .int .i64 who, .int .i64 q.on, .int .i64 q.kn, .nilFunc, .int .i64 4] 107)).alloc (.cells #[.string ⟨k.toArray⟩, .string ⟨s.toArray⟩, .int .i64 n, .slice A 2 c] 44) = W from hW.symm]
    clear hW
    obtain ⟨b', o', hA, t0, t1, t2, t3, hkd⟩ := HNW.out.kid (i := 0) (by simp)
    simp only [List.getElem_cons_zero, Nd.kind, Nd.word, Nd.n, Nd.A, Nd.c, Nd.kids, Nat.zero_mul, Nat.add_zero] at t0 t1 t2 t3
    have HC := Lib.hid (fun wx (hb : Below W.heap.size W wx) => (by have h := psum_any hq E fb X d (.mk xk xs xn xA xc xl) who wx (hkd.ext hb) (HL.out.ext hb); unfold ndV lkV at h; exact h : Calls Tryz.prog 48 #[.agg #[.pointer (some ⟨fb, 0, none⟩), .int .i64 who, .int .i64 q.on, .int .i64 q.kn, .nilFunc, .int .i64 4], .agg #[.string ⟨xk.toArray⟩, .string ⟨xs.toArray⟩, .int .i64 xn, .slice xA xl.length xc]] wx (SPost E (evS d q (.mk xk xs xn xA xc xl) who) wx)))
    have hok := evS_ok hq d (.mk xk xs xn xA xc xl) who
    rw [← HRX.out] at HC hok
    subst hA
    clear hkd
    have hdr := ext_drewN W 1
    go_wp2_with fail
    go_region_held3 (fun w' => w'.cell? ⟨w.heap.size, 0, none⟩ = some (.pointer (some ⟨fb, 0, none⟩)) ∧ w'.cell? ⟨w.heap.size, 1, none⟩ = some (.int .i64 who) ∧ w'.cell? ⟨w.heap.size, 2, none⟩ = some (.int .i64 q.on) ∧ w'.cell? ⟨w.heap.size, 3, none⟩ = some (.int .i64 q.kn) ∧ w'.cell? ⟨w.heap.size, 4, none⟩ = some .nilFunc ∧ w'.cell? ⟨w.heap.size, 5, none⟩ = some (.int .i64 4) ∧ w'.cell? ⟨w.heap.size + 1, 3, none⟩ = some (.slice (some ⟨b', o', none⟩) 2 c) ∧ w'.cell? ⟨b', o', none⟩ = some (.string ⟨xk.toArray⟩) ∧ w'.cell? ⟨b', o' + 1, none⟩ = some (.string ⟨xs.toArray⟩) ∧ w'.cell? ⟨b', o' + 2, none⟩ = some (.int .i64 xn) ∧ w'.cell? ⟨b', o' + 3, none⟩ = some (.slice xA xl.length xc))
      ((first | exact ⟨a0, a1, a2, a3, a4, a5, m3, t0, t1, t2, t3⟩ | exact ⟨cell_ext hdr a0, cell_ext hdr a1, cell_ext hdr a2, cell_ext hdr a3, cell_ext hdr a4, cell_ext hdr a5, cell_ext hdr m3, cell_ext hdr t0, cell_ext hdr t1, cell_ext hdr t2, cell_ext hdr t3⟩ | exact ⟨cell_ext HBs.out a0, cell_ext HBs.out a1, cell_ext HBs.out a2, cell_ext HBs.out a3, cell_ext HBs.out a4, cell_ext HBs.out a5, cell_ext HBs.out m3, cell_ext HBs.out t0, cell_ext HBs.out t1, cell_ext HBs.out t2, cell_ext HBs.out t3⟩))
      ((go_at_call 48; refine (HC.out _ hdr).mono ?_; rintro e w2 ⟨rfl, hb⟩; have HBs := Lib.hid (ext_trans hdr hb); clear hb))
    have HB := Lib.hid HBs.out
    have HLw := Lib.hid (HL.out.ext HB.out)
    clear HC HBs hdr t0 t1 t2 t3 a0 a1 a2 a3 a4 a5 m0 m1 m2 m3
    rcases sum_cases E hok with ⟨e1, e2⟩ | ⟨e1, a, e2⟩
    rotate_left
    · have HE2 := Lib.hid (show twoB f rr r2 = (false, rr.2) by unfold twoB; rw [if_pos e1])
      have HEv := Lib.hid e2
      rw [e2]
      clear e1 e2 hok
      go_wp2_with fail
      go_ret2
      exact ⟨by rw [HE2.out, HEv.out] <;> rfl, ext_trans HX.out HB.out⟩
    rw [e2]
    have HR0 := Lib.hid e1
    obtain ⟨z1, hz1⟩ : ∃ z1, rr.1 = z1 := ⟨_, rfl⟩
    rw [hz1]
    have HZ1 := Lib.hid hz1
    clear e1 e2 hok hz1
    obtain ⟨b', o', hA2, t0, t1, t2, t3, hkd⟩ := (HNW.out.ext HB.out).kid (i := 1) (by simp)
    simp only [List.getElem_cons_zero, List.getElem_cons_succ, Nd.kind, Nd.word, Nd.n, Nd.A, Nd.c, Nd.kids, Nat.one_mul] at t0 t1 t2 t3
    cases hA2
    have HC := Lib.hid (fun wx (hb : Below w2.heap.size w2 wx) => (by have h := psum_any hq E fb X d (.mk yk ys yn yA yc yl) who wx (hkd.ext hb) (HLw.out.ext hb); unfold ndV lkV at h; exact h : Calls Tryz.prog 48 #[.agg #[.pointer (some ⟨fb, 0, none⟩), .int .i64 who, .int .i64 q.on, .int .i64 q.kn, .nilFunc, .int .i64 4], .agg #[.string ⟨yk.toArray⟩, .string ⟨ys.toArray⟩, .int .i64 yn, .slice yA yl.length yc]] wx (SPost E (evS d q (.mk yk ys yn yA yc yl) who) wx)))
    have hok := evS_ok hq d (.mk yk ys yn yA yc yl) who
    rw [← HRY.out] at HC hok
    clear hkd
    have p0 := cell_ext HB.out (HBk.out.cell 0 rfl)
    have p1 := cell_ext HB.out (HBk.out.cell 1 rfl)
    have p2 := cell_ext HB.out (HBk.out.cell 2 rfl)
    have p3 := cell_ext HB.out (HBk.out.cell 3 rfl)
    have p4 := cell_ext HB.out (HBk.out.cell 4 rfl)
    have p5 := cell_ext HB.out (HBk.out.cell 5 rfl)
    have v0 := cell_ext HB.out (HBn.out.cell 0 rfl)
    have v1 := cell_ext HB.out (HBn.out.cell 1 rfl)
    have v2 := cell_ext HB.out (HBn.out.cell 2 rfl)
    have v3 := cell_ext HB.out (HBn.out.cell 3 rfl)
    have hdr := ext_drewN w2 1
    go_wp2_with fail
    go_region_held3 (fun w' => w'.cell? ⟨w.heap.size, 0, none⟩ = some (.pointer (some ⟨fb, 0, none⟩)) ∧ w'.cell? ⟨w.heap.size, 1, none⟩ = some (.int .i64 who) ∧ w'.cell? ⟨w.heap.size, 2, none⟩ = some (.int .i64 q.on) ∧ w'.cell? ⟨w.heap.size, 3, none⟩ = some (.int .i64 q.kn) ∧ w'.cell? ⟨w.heap.size, 4, none⟩ = some .nilFunc ∧ w'.cell? ⟨w.heap.size, 5, none⟩ = some (.int .i64 4) ∧ w'.cell? ⟨w.heap.size + 1, 3, none⟩ = some (.slice (some ⟨b', o', none⟩) 2 c) ∧ w'.cell? ⟨b', o' + 4, none⟩ = some (.string ⟨yk.toArray⟩) ∧ w'.cell? ⟨b', o' + 5, none⟩ = some (.string ⟨ys.toArray⟩) ∧ w'.cell? ⟨b', o' + 6, none⟩ = some (.int .i64 yn) ∧ w'.cell? ⟨b', o' + 7, none⟩ = some (.slice yA yl.length yc))
      ((first | exact ⟨p0, p1, p2, p3, p4, p5, v3, t0, t1, t2, t3⟩ | exact ⟨cell_ext hdr p0, cell_ext hdr p1, cell_ext hdr p2, cell_ext hdr p3, cell_ext hdr p4, cell_ext hdr p5, cell_ext hdr v3, cell_ext hdr t0, cell_ext hdr t1, cell_ext hdr t2, cell_ext hdr t3⟩ | exact ⟨cell_ext HBs.out p0, cell_ext HBs.out p1, cell_ext HBs.out p2, cell_ext HBs.out p3, cell_ext HBs.out p4, cell_ext HBs.out p5, cell_ext HBs.out v3, cell_ext HBs.out t0, cell_ext HBs.out t1, cell_ext HBs.out t2, cell_ext HBs.out t3⟩))
      ((go_at_call 48; refine (HC.out _ hdr).mono ?_; rintro e w3 ⟨rfl, hb⟩; have HBs := Lib.hid (ext_trans hdr hb); clear hb))
    have HB3 := Lib.hid (ext_trans HB.out HBs.out)
    clear HC HBs hdr t0 t1 t2 t3 p0 p1 p2 p3 p4 p5 v0 v1 v2 v3
    rcases sum_cases E hok with ⟨e1, e2⟩ | ⟨e1, a, e2⟩
    rotate_left
    · have HE2 := Lib.hid (show twoB f rr r2 = (false, r2.2) by unfold twoB; rw [if_neg (by have := HR0.out; omega), if_pos e1])
      have HEv := Lib.hid e2
      rw [e2]
      clear e1 e2 hok
      go_wp2_with fail
      go_ret2
      exact ⟨by rw [HE2.out, HEv.out] <;> rfl, ext_trans HX.out HB3.out⟩
    rw [e2]
    have HE2 := Lib.hid (show twoB f rr r2 = (f rr.1 r2.1, 0) by unfold twoB; rw [if_neg (by have := HR0.out; omega), if_neg (by omega)])
    rw [HZ1.out] at HE2
    obtain ⟨z2, hz2⟩ : ∃ z2, r2.1 = z2 := ⟨_, rfl⟩
    rw [hz2] at HE2 ⊢
    clear e1 e2 hok hz2 HZ1
    have v0 := cell_ext HB3.out (HBn.out.cell 0 rfl)
    have hfo := HF.out
    unfold cmpF at hfo
    by_cases hk : k = [60]
    · rw [if_pos hk] at hfo
      have HFf := Lib.hid (Option.some.inj hfo)
      have HP := Lib.hid HE2.out
      have kb0 : (k == [60]) = true := by rw [hk]; decide
      have kb1 : (k == [60, 61]) = false := by rw [hk]; decide
      have kb2 : (k == [61]) = false := by rw [hk]; decide
      have kb3 : (k == [60, 62]) = false := by rw [hk]; decide
      have kb4 : (k == [62, 61]) = false := by rw [hk]; decide
      have kb5 : (k == [62]) = false := by rw [hk]; decide
      clear hk hfo HE2
      by_cases hz : z1 < z2
      · have hz2 : decide (z1 < z2) = true := by simpa using hz
        have HD := Lib.hid (show f z1 z2 = true by rw [← HFf.out]; simpa using hz)
        clear hz
        go_wp2_with fail
        go_ret2
        exact ⟨by rw [HP.out, HD.out]; rfl, ext_trans HX.out HB3.out⟩
      · have hz2 : decide (z1 < z2) = false := by simpa using hz
        have HD := Lib.hid (show f z1 z2 = false by rw [← HFf.out]; simpa using hz)
        clear hz
        go_wp2_with fail
        go_ret2
        exact ⟨by rw [HP.out, HD.out]; rfl, ext_trans HX.out HB3.out⟩
    rw [if_neg hk] at hfo
    have hk0 := hk
    clear hk
    by_cases hk : k = [60, 61]
    · rw [if_pos hk] at hfo
      have HFf := Lib.hid (Option.some.inj hfo)
      have HP := Lib.hid HE2.out
      have kb0 : (k == [60]) = false := by rw [hk]; decide
      have kb1 : (k == [60, 61]) = true := by rw [hk]; decide
      have kb2 : (k == [61]) = false := by rw [hk]; decide
      have kb3 : (k == [60, 62]) = false := by rw [hk]; decide
      have kb4 : (k == [62, 61]) = false := by rw [hk]; decide
      have kb5 : (k == [62]) = false := by rw [hk]; decide
      clear hk hfo HE2
      by_cases hz : z1 ≤ z2
      · have hz2 : decide (z1 ≤ z2) = true := by simpa using hz
        have HD := Lib.hid (show f z1 z2 = true by rw [← HFf.out]; simpa using hz)
        clear hz
        go_wp2_with fail
        go_ret2
        exact ⟨by rw [HP.out, HD.out]; rfl, ext_trans HX.out HB3.out⟩
      · have hz2 : decide (z1 ≤ z2) = false := by simpa using hz
        have HD := Lib.hid (show f z1 z2 = false by rw [← HFf.out]; simpa using hz)
        clear hz
        go_wp2_with fail
        go_ret2
        exact ⟨by rw [HP.out, HD.out]; rfl, ext_trans HX.out HB3.out⟩
    rw [if_neg hk] at hfo
    have hk1 := hk
    clear hk
    by_cases hk : k = [61]
    · rw [if_pos hk] at hfo
      have HFf := Lib.hid (Option.some.inj hfo)
      have HP := Lib.hid HE2.out
      have kb0 : (k == [60]) = false := by rw [hk]; decide
      have kb1 : (k == [60, 61]) = false := by rw [hk]; decide
      have kb2 : (k == [61]) = true := by rw [hk]; decide
      have kb3 : (k == [60, 62]) = false := by rw [hk]; decide
      have kb4 : (k == [62, 61]) = false := by rw [hk]; decide
      have kb5 : (k == [62]) = false := by rw [hk]; decide
      clear hk hfo HE2
      by_cases hz : z1 = z2
      · have hz2 : (z1 == z2) = true := by simpa using hz
        have HD := Lib.hid (show f z1 z2 = true by rw [← HFf.out]; simpa using hz)
        clear hz
        go_wp2_with fail
        go_ret2
        exact ⟨by rw [HP.out, HD.out]; rfl, ext_trans HX.out HB3.out⟩
      · have hz2 : (z1 == z2) = false := by simpa using hz
        have HD := Lib.hid (show f z1 z2 = false by rw [← HFf.out]; simpa using hz)
        clear hz
        go_wp2_with fail
        go_ret2
        exact ⟨by rw [HP.out, HD.out]; rfl, ext_trans HX.out HB3.out⟩
    rw [if_neg hk] at hfo
    have hk2 := hk
    clear hk
    by_cases hk : k = [60, 62]
    · rw [if_pos hk] at hfo
      have HFf := Lib.hid (Option.some.inj hfo)
      have HP := Lib.hid HE2.out
      have kb0 : (k == [60]) = false := by rw [hk]; decide
      have kb1 : (k == [60, 61]) = false := by rw [hk]; decide
      have kb2 : (k == [61]) = false := by rw [hk]; decide
      have kb3 : (k == [60, 62]) = true := by rw [hk]; decide
      have kb4 : (k == [62, 61]) = false := by rw [hk]; decide
      have kb5 : (k == [62]) = false := by rw [hk]; decide
      clear hk hfo HE2
      by_cases hz : z1 ≠ z2
      · have hz2 : (z1 != z2) = true := by simpa using hz
        have HD := Lib.hid (show f z1 z2 = true by rw [← HFf.out]; simpa using hz)
        clear hz
        go_wp2_with fail
        go_ret2
        exact ⟨by rw [HP.out, HD.out]; rfl, ext_trans HX.out HB3.out⟩
      · have hz2 : (z1 != z2) = false := by simpa using hz
        have HD := Lib.hid (show f z1 z2 = false by rw [← HFf.out]; simpa using hz)
        clear hz
        go_wp2_with fail
        go_ret2
        exact ⟨by rw [HP.out, HD.out]; rfl, ext_trans HX.out HB3.out⟩
    rw [if_neg hk] at hfo
    have hk3 := hk
    clear hk
    by_cases hk : k = [62, 61]
    · rw [if_pos hk] at hfo
      have HFf := Lib.hid (Option.some.inj hfo)
      have HP := Lib.hid HE2.out
      have kb0 : (k == [60]) = false := by rw [hk]; decide
      have kb1 : (k == [60, 61]) = false := by rw [hk]; decide
      have kb2 : (k == [61]) = false := by rw [hk]; decide
      have kb3 : (k == [60, 62]) = false := by rw [hk]; decide
      have kb4 : (k == [62, 61]) = true := by rw [hk]; decide
      have kb5 : (k == [62]) = false := by rw [hk]; decide
      clear hk hfo HE2
      by_cases hz : z2 ≤ z1
      · have hz2 : decide (z2 ≤ z1) = true := by simpa using hz
        have HD := Lib.hid (show f z1 z2 = true by rw [← HFf.out]; simpa using hz)
        clear hz
        go_wp2_with fail
        go_ret2
        exact ⟨by rw [HP.out, HD.out]; rfl, ext_trans HX.out HB3.out⟩
      · have hz2 : decide (z2 ≤ z1) = false := by simpa using hz
        have HD := Lib.hid (show f z1 z2 = false by rw [← HFf.out]; simpa using hz)
        clear hz
        go_wp2_with fail
        go_ret2
        exact ⟨by rw [HP.out, HD.out]; rfl, ext_trans HX.out HB3.out⟩
    rw [if_neg hk] at hfo
    have hk4 := hk
    clear hk
    by_cases hk : k = [62]
    · rw [if_pos hk] at hfo
      have HFf := Lib.hid (Option.some.inj hfo)
      have HP := Lib.hid HE2.out
      have kb0 : (k == [60]) = false := by rw [hk]; decide
      have kb1 : (k == [60, 61]) = false := by rw [hk]; decide
      have kb2 : (k == [61]) = false := by rw [hk]; decide
      have kb3 : (k == [60, 62]) = false := by rw [hk]; decide
      have kb4 : (k == [62, 61]) = false := by rw [hk]; decide
      have kb5 : (k == [62]) = true := by rw [hk]; decide
      clear hk hfo HE2
      by_cases hz : z2 < z1
      · have hz2 : decide (z2 < z1) = true := by simpa using hz
        have HD := Lib.hid (show f z1 z2 = true by rw [← HFf.out]; simpa using hz)
        clear hz
        go_wp2_with fail
        go_ret2
        exact ⟨by rw [HP.out, HD.out]; rfl, ext_trans HX.out HB3.out⟩
      · have hz2 : decide (z2 < z1) = false := by simpa using hz
        have HD := Lib.hid (show f z1 z2 = false by rw [← HFf.out]; simpa using hz)
        clear hz
        go_wp2_with fail
        go_ret2
        exact ⟨by rw [HP.out, HD.out]; rfl, ext_trans HX.out HB3.out⟩
    rw [if_neg hk] at hfo
    have hk5 := hk
    clear hk
    cases hfo
end Go.Proofs.YtnchlnfenebomaaGreatDoor.Hd

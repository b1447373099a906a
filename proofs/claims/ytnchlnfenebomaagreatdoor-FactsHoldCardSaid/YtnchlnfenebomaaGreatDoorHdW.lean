/- Facts: the tree's size, the question's bounds, the file's Holds and Sum. -/
import Derived.Test.YtnchlnfenebomaaGreatDoorHdI
import Derived.Test.YtnchlnfenebomaaGreatDoorHdU
import Derived.Test.YtnchlnfenebomaaGreatDoorHdS
import Derived.Test.YtnchlnfenebomaaGreatDoorCoded1
import Derived.Test.YtnchlnfenebomaaGreatDoorFkO
namespace Go.Proofs.YtnchlnfenebomaaGreatDoor.Hd
open Go.RowKit Mem Nest Fk Coin Err Msi

def FewPost (d : Nat) (x : Nd) (w : World) (e : Ending) (w' : World) : Prop := ∃ b, e = .returned (.bool b) ∧ Below w.heap.size w w' ∧ (b = true → SmallN d x)
set_option maxRecDepth 20000 in
theorem few_any (X : Nat → Prop) : ∀ (d : Nat) (x : Nd) (w : World), InW w X d x → Calls Tryz.prog 6 #[ndV x] w (FewPost d x w)
  | 0, _, _, h => h.elim
  | d + 1, .mk k s n A c l, w, h => by
    obtain ⟨W, hW⟩ : ∃ W, W = w.alloc (.cells (List.toArray [.string ⟨k.toArray⟩, .string ⟨s.toArray⟩, .int .i64 n, .slice A l.length c]) 25) := ⟨_, rfl⟩
    obtain ⟨B, hB⟩ : ∃ B, B = w.heap.size := ⟨_, rfl⟩
    have hbk := Blk.new w 25 [.string ⟨k.toArray⟩, .string ⟨s.toArray⟩, .int .i64 n, .slice A l.length c]
    have hx := ext_alloc w (.cells (List.toArray [.string ⟨k.toArray⟩, .string ⟨s.toArray⟩, .int .i64 n, .slice A l.length c]) 25)
    rw [← hW] at hx hbk
    rw [← hB] at hbk
    have HX := Lib.hid hx
    have y0 := hbk.cell 0 rfl
    have y1 := hbk.cell 1 rfl
    have y2 := hbk.cell 2 rfl
    have y3 := hbk.cell 3 rfl
    have HS := Lib.hid (by have h1 := size_any X (d + 1) (.mk k s n A c l) 0 W (h.ext hx) (by omega) (by omega); unfold ndV at h1; exact h1)
    unfold ndV
    clear hbk hx h
    go_enter Tryz.func6, Tryz.ntmps6
    go_upto_region 1 with fail
    rw [show w.alloc (.cells #[.string ⟨k.toArray⟩, .string ⟨s.toArray⟩, .int .i64 n, .slice A l.length c] 25) = W from hW.symm, ← hB]
    clear hW hB
    go_wp2_with fail
    refine HS.out.mono ?_
    rintro e w1 ⟨z, rfl, hb, hz1, _, hsm⟩
    have HB := Lib.hid (ext_trans HX.out hb)
    have HSm := Lib.hid hsm
    clear hb hsm hz1 HS
    go_wp2_with fail
    go_ret
    exact ⟨decide (z ≤ 200), rfl, HB.out, fun h => HSm.out (of_decide_eq_true h)⟩
def goodQ (who on kn : Int) : Bool := bodyB who && dayB on && dayB kn
def askC (who on kn : Int) : Int := if goodQ who on kn = true then 0 else 9
def askH (d : Nat) (q : Ask) (x : Nd) (who : Int) : Bool × Nat := if goodQ who q.on q.kn = true then evH d q x who else (false, 9)
def askS (d : Nat) (q : Ask) (x : Nd) (who : Int) : Int × Nat := if goodQ who q.on q.kn = true then evS d q x who else (0, 9)
theorem asked_any (who on kn : Int) (w : World) : Calls Tryz.prog 8 #[.int .i64 who, .int .i64 on, .int .i64 kn] w fun e w' => e = .returned (.int .i64 (askC who on kn)) ∧ w' = w := by
  have HI := Lib.hid (fun w => isbody_any who w)
  have HJ := Lib.hid (fun w => isday_any on w)
  have HK := Lib.hid (fun w => isday_any kn w)
  obtain ⟨b1, h1⟩ : ∃ b, bodyB who = b := ⟨_, rfl⟩
  obtain ⟨b2, h2⟩ : ∃ b, dayB on = b := ⟨_, rfl⟩
  obtain ⟨b3, h3⟩ : ∃ b, dayB kn = b := ⟨_, rfl⟩
  obtain ⟨z, hz⟩ : ∃ z, askC who on kn = z := ⟨_, rfl⟩
  have HZ := Lib.hid (show z = (if (b1 && b2 && b3) = true then 0 else 9) by rw [← hz, ← h1, ← h2, ← h3]; rfl)
  rw [hz]
  rw [h1] at HI
  rw [h2] at HJ
  rw [h3] at HK
  clear h1 h2 h3 hz
  cases b1 <;> cases b2 <;> cases b3 <;> (
    go_enter Tryz.func8, Tryz.ntmps8
    go_wp2_with fail
    refine (HI.out _).mono ?_
    rintro e w' ⟨rfl, rfl⟩
    go_wp2_with fail
    refine (HJ.out _).mono ?_
    rintro e w' ⟨rfl, rfl⟩
    go_wp2_with fail
    refine (HK.out _).mono ?_
    rintro e w' ⟨rfl, rfl⟩
    go_wp2_with fail
    go_ret
    exact ⟨by rw [HZ.out]; rfl, rfl⟩)
set_option maxRecDepth 20000 in
set_option maxHeartbeats 2000000 in
theorem fholds1 {q : Ask} (hq : Okq q) (E : Nat → Addr) (fb : Nat) (X : Nat → Prop) (d : Nat) (k s : List UInt8) (n : Int) (A : Option Addr) (c : Nat) (l : List Nd) (who : Int) (r : Bool × Nat) (hr : askH (d + 1) q (.mk k s n A c l) who = r) (w : World) (hN : InW w X (d + 1) (.mk k s n A c l)) (hL : Lk E 149 q fb w) :
    Calls Tryz.prog 9 #[.pointer (some ⟨fb, 0, none⟩), ndV (.mk k s n A c l), .int .i64 who, .int .i64 q.on, .int .i64 q.kn] w (BPost E r w) := by
  obtain ⟨W, hW⟩ : ∃ W, W = w.alloc (.cells (List.toArray [.string ⟨k.toArray⟩, .string ⟨s.toArray⟩, .int .i64 n, .slice A l.length c]) 44) := ⟨_, rfl⟩
  obtain ⟨B, hB⟩ : ∃ B, B = w.heap.size := ⟨_, rfl⟩
  have hbk := Blk.new w 44 [.string ⟨k.toArray⟩, .string ⟨s.toArray⟩, .int .i64 n, .slice A l.length c]
  have hx := ext_alloc w (.cells (List.toArray [.string ⟨k.toArray⟩, .string ⟨s.toArray⟩, .int .i64 n, .slice A l.length c]) 44)
  rw [← hW] at hx hbk
  rw [← hB] at hbk
  have HX := Lib.hid hx
  have y0 := hbk.cell 0 rfl
  have y1 := hbk.cell 1 rfl
  have y2 := hbk.cell 2 rfl
  have y3 := hbk.cell 3 rfl
  have HC := Lib.hid (fun wx (hb : Below W.heap.size W wx) => (by have h := pholds_any hq E fb X (d + 1) (.mk k s n A c l) who wx ((hN.ext hx).ext hb) ((hL.ext hx).ext hb); unfold ndV lkV at h; exact h : Calls Tryz.prog 42 #[.agg #[.pointer (some ⟨fb, 0, none⟩), .int .i64 who, .int .i64 q.on, .int .i64 q.kn, .nilFunc, .int .i64 4], .agg #[.string ⟨k.toArray⟩, .string ⟨s.toArray⟩, .int .i64 n, .slice A l.length c]] wx (BPost E (evH (d + 1) q (.mk k s n A c l) who) wx)))
  have HE := Lib.hid (hL.ext hx).er
  have HI := Lib.hid (fun w => somebody_any who w)
  have HJ := Lib.hid (fun w => day_any q.on w)
  have HK := Lib.hid (fun w => day_any q.kn w)
  unfold ndV
  obtain ⟨b1, h1⟩ : ∃ b, bodyB who = b := ⟨_, rfl⟩
  obtain ⟨b2, h2⟩ : ∃ b, dayB q.on = b := ⟨_, rfl⟩
  obtain ⟨b3, h3⟩ : ∃ b, dayB q.kn = b := ⟨_, rfl⟩
  obtain ⟨r1, hr1⟩ : ∃ r1, evH (d + 1) q (.mk k s n A c l) who = r1 := ⟨_, rfl⟩
  have HR := Lib.hid (show r = (if (b1 && b2 && b3) = true then r1 else (false, 9)) by rw [← hr, ← h1, ← h2, ← h3, ← hr1]; rfl)
  rw [h1] at HI
  rw [h2] at HJ
  rw [h3] at HK
  rw [hr1] at HC
  clear h1 h2 h3 hr hr1 hN hL hx hbk
  obtain ⟨on, hon⟩ : ∃ on, q.on = on := ⟨_, rfl⟩
  obtain ⟨kn, hkn⟩ : ∃ kn, q.kn = kn := ⟨_, rfl⟩
  rw [hon] at HC HJ ⊢
  rw [hkn] at HC HK ⊢
  clear hon hkn
  cases b1 with
  | false =>
    have hk8 := HE.out.v8
    unfold sentV at hk8
    go_enter Tryz.func9, Tryz.ntmps9
    go_upto_region 1 with fail
    rw [show w.alloc (.cells #[.string ⟨k.toArray⟩, .string ⟨s.toArray⟩, .int .i64 n, .slice A l.length c] 44) = W from hW.symm, ← hB]
    clear hW hB
    go_wp2_with fail
    refine (HI.out _).mono ?_
    rintro e w' ⟨rfl, rfl⟩
    go_wp2_with fail
    go_quiet (fail)
    go_wp2_with fail
    go_ret2
    exact ⟨by rw [HR.out]; rfl, ext_trans HX.out (ext_drewN _ _)⟩
  | true =>
    cases b2 with
    | false =>
      have hk8 := HE.out.v8
      unfold sentV at hk8
      go_enter Tryz.func9, Tryz.ntmps9
      go_upto_region 1 with fail
      rw [show w.alloc (.cells #[.string ⟨k.toArray⟩, .string ⟨s.toArray⟩, .int .i64 n, .slice A l.length c] 44) = W from hW.symm, ← hB]
      clear hW hB
      go_wp2_with fail
      refine (HI.out _).mono ?_
      rintro e w' ⟨rfl, rfl⟩
      go_wp2_with fail
      refine (HJ.out _).mono ?_
      rintro e w' ⟨rfl, rfl⟩
      go_wp2_with fail
      go_quiet (fail)
      go_wp2_with fail
      go_ret2
      exact ⟨by rw [HR.out]; rfl, ext_trans HX.out (ext_drewN _ _)⟩
    | true =>
      cases b3 with
      | false =>
        have hk8 := HE.out.v8
        unfold sentV at hk8
        go_enter Tryz.func9, Tryz.ntmps9
        go_upto_region 1 with fail
        rw [show w.alloc (.cells #[.string ⟨k.toArray⟩, .string ⟨s.toArray⟩, .int .i64 n, .slice A l.length c] 44) = W from hW.symm, ← hB]
        clear hW hB
        go_wp2_with fail
        refine (HI.out _).mono ?_
        rintro e w' ⟨rfl, rfl⟩
        go_wp2_with fail
        refine (HJ.out _).mono ?_
        rintro e w' ⟨rfl, rfl⟩
        go_wp2_with fail
        refine (HK.out _).mono ?_
        rintro e w' ⟨rfl, rfl⟩
        go_wp2_with fail
        go_quiet (fail)
        go_wp2_with fail
        go_ret2
        exact ⟨by rw [HR.out]; rfl, ext_trans HX.out (ext_drewN _ _)⟩
      | true =>
        go_enter Tryz.func9, Tryz.ntmps9
        go_upto_region 1 with fail
        rw [show w.alloc (.cells #[.string ⟨k.toArray⟩, .string ⟨s.toArray⟩, .int .i64 n, .slice A l.length c] 44) = W from hW.symm, ← hB]
        clear hW hB
        go_wp2_with fail
        refine (HI.out _).mono ?_
        rintro e w' ⟨rfl, rfl⟩
        go_wp2_with fail
        refine (HJ.out _).mono ?_
        rintro e w' ⟨rfl, rfl⟩
        go_wp2_with fail
        refine (HK.out _).mono ?_
        rintro e w' ⟨rfl, rfl⟩
        go_wp2_with fail
        refine (HC.out _ (Below.refl _ _)).mono ?_
        rintro e w1 ⟨rfl, hb⟩
        have HB := Lib.hid (ext_trans HX.out hb)
        clear hb
        obtain ⟨v, hv⟩ : ∃ v, v = r1.1 := ⟨_, rfl⟩
        go_wp2_with fail
        go_ret2
        exact ⟨by rw [HR.out]; rfl, HB.out⟩
theorem fholds_any {q : Ask} (hq : Okq q) (E : Nat → Addr) (fb : Nat) (X : Nat → Prop) : ∀ (d : Nat) (x : Nd) (who : Int) (r : Bool × Nat) (w : World), askH d q x who = r → InW w X d x → Lk E 149 q fb w → Calls Tryz.prog 9 #[.pointer (some ⟨fb, 0, none⟩), ndV x, .int .i64 who, .int .i64 q.on, .int .i64 q.kn] w (BPost E r w)
  | 0, _, _, _, _, _, h, _ => h.elim
  | d + 1, .mk k s n A c l, who, r, w, hr, hN, hL => fholds1 hq E fb X d k s n A c l who r hr w hN hL
set_option maxRecDepth 20000 in
set_option maxHeartbeats 2000000 in
theorem fsum1 {q : Ask} (hq : Okq q) (E : Nat → Addr) (fb : Nat) (X : Nat → Prop) (d : Nat) (k s : List UInt8) (n : Int) (A : Option Addr) (c : Nat) (l : List Nd) (who : Int) (r : Int × Nat) (hr : askS (d + 1) q (.mk k s n A c l) who = r) (w : World) (hN : InW w X (d + 1) (.mk k s n A c l)) (hL : Lk E 149 q fb w) :
    Calls Tryz.prog 13 #[.pointer (some ⟨fb, 0, none⟩), ndV (.mk k s n A c l), .int .i64 who, .int .i64 q.on, .int .i64 q.kn] w (SPost E r w) := by
  obtain ⟨W, hW⟩ : ∃ W, W = w.alloc (.cells (List.toArray [.string ⟨k.toArray⟩, .string ⟨s.toArray⟩, .int .i64 n, .slice A l.length c]) 44) := ⟨_, rfl⟩
  obtain ⟨B, hB⟩ : ∃ B, B = w.heap.size := ⟨_, rfl⟩
  have hbk := Blk.new w 44 [.string ⟨k.toArray⟩, .string ⟨s.toArray⟩, .int .i64 n, .slice A l.length c]
  have hx := ext_alloc w (.cells (List.toArray [.string ⟨k.toArray⟩, .string ⟨s.toArray⟩, .int .i64 n, .slice A l.length c]) 44)
  rw [← hW] at hx hbk
  rw [← hB] at hbk
  have HX := Lib.hid hx
  have y0 := hbk.cell 0 rfl
  have y1 := hbk.cell 1 rfl
  have y2 := hbk.cell 2 rfl
  have y3 := hbk.cell 3 rfl
  have HC := Lib.hid (fun wx (hb : Below W.heap.size W wx) => (by have h := psum_any hq E fb X (d + 1) (.mk k s n A c l) who wx ((hN.ext hx).ext hb) ((hL.ext hx).ext hb); unfold ndV lkV at h; exact h : Calls Tryz.prog 48 #[.agg #[.pointer (some ⟨fb, 0, none⟩), .int .i64 who, .int .i64 q.on, .int .i64 q.kn, .nilFunc, .int .i64 4], .agg #[.string ⟨k.toArray⟩, .string ⟨s.toArray⟩, .int .i64 n, .slice A l.length c]] wx (SPost E (evS (d + 1) q (.mk k s n A c l) who) wx)))
  have HE := Lib.hid (hL.ext hx).er
  have HI := Lib.hid (fun w => somebody_any who w)
  have HJ := Lib.hid (fun w => day_any q.on w)
  have HK := Lib.hid (fun w => day_any q.kn w)
  unfold ndV
  obtain ⟨b1, h1⟩ : ∃ b, bodyB who = b := ⟨_, rfl⟩
  obtain ⟨b2, h2⟩ : ∃ b, dayB q.on = b := ⟨_, rfl⟩
  obtain ⟨b3, h3⟩ : ∃ b, dayB q.kn = b := ⟨_, rfl⟩
  obtain ⟨r1, hr1⟩ : ∃ r1, evS (d + 1) q (.mk k s n A c l) who = r1 := ⟨_, rfl⟩
  have HR := Lib.hid (show r = (if (b1 && b2 && b3) = true then r1 else (0, 9)) by rw [← hr, ← h1, ← h2, ← h3, ← hr1]; rfl)
  rw [h1] at HI
  rw [h2] at HJ
  rw [h3] at HK
  rw [hr1] at HC
  clear h1 h2 h3 hr hr1 hN hL hx hbk
  obtain ⟨on, hon⟩ : ∃ on, q.on = on := ⟨_, rfl⟩
  obtain ⟨kn, hkn⟩ : ∃ kn, q.kn = kn := ⟨_, rfl⟩
  rw [hon] at HC HJ ⊢
  rw [hkn] at HC HK ⊢
  clear hon hkn
  cases b1 with
  | false =>
    have hk8 := HE.out.v8
    unfold sentV at hk8
    go_enter Tryz.func13, Tryz.ntmps13
    go_upto_region 1 with fail
    rw [show w.alloc (.cells #[.string ⟨k.toArray⟩, .string ⟨s.toArray⟩, .int .i64 n, .slice A l.length c] 44) = W from hW.symm, ← hB]
    clear hW hB
    go_wp2_with fail
    refine (HI.out _).mono ?_
    rintro e w' ⟨rfl, rfl⟩
    go_wp2_with fail
    go_quiet (fail)
    go_wp2_with fail
    go_ret2
    exact ⟨by rw [HR.out]; rfl, ext_trans HX.out (ext_drewN _ _)⟩
  | true =>
    cases b2 with
    | false =>
      have hk8 := HE.out.v8
      unfold sentV at hk8
      go_enter Tryz.func13, Tryz.ntmps13
      go_upto_region 1 with fail
      rw [show w.alloc (.cells #[.string ⟨k.toArray⟩, .string ⟨s.toArray⟩, .int .i64 n, .slice A l.length c] 44) = W from hW.symm, ← hB]
      clear hW hB
      go_wp2_with fail
      refine (HI.out _).mono ?_
      rintro e w' ⟨rfl, rfl⟩
      go_wp2_with fail
      refine (HJ.out _).mono ?_
      rintro e w' ⟨rfl, rfl⟩
      go_wp2_with fail
      go_quiet (fail)
      go_wp2_with fail
      go_ret2
      exact ⟨by rw [HR.out]; rfl, ext_trans HX.out (ext_drewN _ _)⟩
    | true =>
      cases b3 with
      | false =>
        have hk8 := HE.out.v8
        unfold sentV at hk8
        go_enter Tryz.func13, Tryz.ntmps13
        go_upto_region 1 with fail
        rw [show w.alloc (.cells #[.string ⟨k.toArray⟩, .string ⟨s.toArray⟩, .int .i64 n, .slice A l.length c] 44) = W from hW.symm, ← hB]
        clear hW hB
        go_wp2_with fail
        refine (HI.out _).mono ?_
        rintro e w' ⟨rfl, rfl⟩
        go_wp2_with fail
        refine (HJ.out _).mono ?_
        rintro e w' ⟨rfl, rfl⟩
        go_wp2_with fail
        refine (HK.out _).mono ?_
        rintro e w' ⟨rfl, rfl⟩
        go_wp2_with fail
        go_quiet (fail)
        go_wp2_with fail
        go_ret2
        exact ⟨by rw [HR.out]; rfl, ext_trans HX.out (ext_drewN _ _)⟩
      | true =>
        go_enter Tryz.func13, Tryz.ntmps13
        go_upto_region 1 with fail
        rw [show w.alloc (.cells #[.string ⟨k.toArray⟩, .string ⟨s.toArray⟩, .int .i64 n, .slice A l.length c] 44) = W from hW.symm, ← hB]
        clear hW hB
        go_wp2_with fail
        refine (HI.out _).mono ?_
        rintro e w' ⟨rfl, rfl⟩
        go_wp2_with fail
        refine (HJ.out _).mono ?_
        rintro e w' ⟨rfl, rfl⟩
        go_wp2_with fail
        refine (HK.out _).mono ?_
        rintro e w' ⟨rfl, rfl⟩
        go_wp2_with fail
        refine (HC.out _ (Below.refl _ _)).mono ?_
        rintro e w1 ⟨rfl, hb⟩
        have HB := Lib.hid (ext_trans HX.out hb)
        clear hb
        obtain ⟨v, hv⟩ : ∃ v, v = r1.1 := ⟨_, rfl⟩
        go_wp2_with fail
        go_ret2
        exact ⟨by rw [HR.out]; rfl, HB.out⟩
theorem fsum_any {q : Ask} (hq : Okq q) (E : Nat → Addr) (fb : Nat) (X : Nat → Prop) : ∀ (d : Nat) (x : Nd) (who : Int) (r : Int × Nat) (w : World), askS d q x who = r → InW w X d x → Lk E 149 q fb w → Calls Tryz.prog 13 #[.pointer (some ⟨fb, 0, none⟩), ndV x, .int .i64 who, .int .i64 q.on, .int .i64 q.kn] w (SPost E r w)
  | 0, _, _, _, _, _, h, _ => h.elim
  | d + 1, .mk k s n A c l, who, r, w, hr, hN, hL => fsum1 hq E fb X d k s n A c l who r hr w hN hL
theorem coded3_part (A : Nat → Addr) (c : Nat) (hc : c = 0 ∨ c = 3 ∨ c = 9) (w : World) (hE : Errs w A) :
    Calls Tryz.prog 12 #[partE c (sentV (A 2)) (sentV (A 8)), .int .i64 (c : Int)] w fun e w' => e = .returned (.bool true) ∧ Below w.heap.size w w' := by
  rcases hc with rfl | rfl | rfl
  · exact (coded3_nil 0 w).mono fun e w' ⟨h1, h2⟩ => ⟨h1, by rw [← h2]; exact Below.refl _ _⟩
  · exact (coded3_sent 2 (by omega) 3 A w hE).mono fun e w' ⟨h1, h2⟩ => ⟨h1, h2⟩
  · exact (coded3_sent 8 (by omega) 9 A w hE).mono fun e w' ⟨h1, h2⟩ => ⟨h1, h2⟩
theorem askq (l : List Fa) (on kn : Int) : Okq ⟨keepF l, on, kn⟩ where
  len := keep_len _ l rfl
  oks := keep_oks l
  kept := keep_kept l
  coin := fun y hy => by
    obtain ⟨_, k, hk⟩ := keep_code _ l rfl y hy
    cases h : coinB y.value with
    | true => rfl
    | false =>
      unfold codeF at hk
      rw [h] at hk
      by_cases h1 : 500 ≤ k
      · rw [if_pos h1] at hk; exact absurd hk (by decide)
      rw [if_neg h1] at hk
      by_cases h2 : wordB y.name = false
      · rw [if_pos h2] at hk; exact absurd hk (by decide)
      rw [if_neg h2] at hk
      by_cases h3 : kindB y = false
      · rw [if_pos h3] at hk; exact absurd hk (by decide)
      rw [if_neg h3, if_pos rfl] at hk
      exact absurd hk (by decide)
end Go.Proofs.YtnchlnfenebomaaGreatDoor.Hd

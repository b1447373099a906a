/- Cases: the document's plan in memory: fewMoves, the program's plan of it, its stages. -/
import Derived.Test.YtjfiodknjchngaaDoorCeO
import Derived.StillTailTactics
import Derived.BigQuiet
namespace Go.Proofs.YtjfiodknjchngaaDoor.Ce
open Go.RowKit Mem Nest Srs Cf Fk Msi CdP CdM Err Solve Sol App

/-- a plan of the document's among the arguments -/
structure PIn (w : World) (b o : Nat) (st : List UInt8) (fin : List (List UInt8)) (ms : List Mv) (FA : Option Addr) (fc : Nat) (MA : Option Addr) (mc : Nat) : Prop where
  c0 : w.cell? ⟨b, o, none⟩ = some (.string ⟨st.toArray⟩)
  c1 : w.cell? ⟨b, o + 1, none⟩ = some (.slice FA fin.length fc)
  c2 : w.cell? ⟨b, o + 2, none⟩ = some (.slice MA ms.length mc)
  f : Rd w FA (Srs.strs fin)
  m : Rd w MA (ms.flatMap mvCells)
  fnil : FA = none → fc = 0
  fl : fin.length ≤ 9223372036854775807
  ml : ms.length ≤ 9223372036854775807
theorem PIn.ext {w w' : World} {b o : Nat} {st : List UInt8} {fin : List (List UInt8)} {ms : List Mv} {FA : Option Addr} {fc : Nat} {MA : Option Addr} {mc : Nat} (h : PIn w b o st fin ms FA fc MA mc) (hb : Below w.heap.size w w') : PIn w' b o st fin ms FA fc MA mc :=
  ⟨cell_ext hb h.c0, cell_ext hb h.c1, cell_ext hb h.c2, h.f.ext hb, h.m.ext hb, h.fnil, h.fl, h.ml⟩
def FewPost (fin : List (List UInt8)) (ms : List Mv) (w : World) (e : Ending) (w' : World) : Prop := ∃ q : Bool, e = .returned (.bool q) ∧ (q = true → ms.length ≤ 125 ∧ fin.length ≤ 125) ∧ Below w.heap.size w w'
set_option maxRecDepth 100000 in
set_option maxHeartbeats 8000000 in
theorem cfew (b o : Nat) (st : List UInt8) (fin : List (List UInt8)) (ms : List Mv) (FA : Option Addr) (fc : Nat) (MA : Option Addr) (mc : Nat) (w : World) (h : PIn w b o st fin ms FA fc MA mc) :
    Calls Tryd.prog 16 #[.pointer (some ⟨b, o, none⟩)] w (FewPost fin ms w) := by
  have H := Lib.hid h
  clear h
  go_enter Tryd.func16, Tryd.ntmps16
  go_wp2_with fail
  go_loopw [3, 4] (fun s3 s4 wr => ∃ (n : Int) (k : Nat), s3 = .int .i64 n ∧ s4 = .int .i64 k ∧ k ≤ ms.length ∧ Hid (Below w.heap.size w wr)) (fun _ s4 _ => ms.length - (intOf s4).toNat)
  case atStart => exact ⟨0, 0, rfl, rfl, Nat.zero_le _, Below.refl _ _⟩
  case round =>
    obtain ⟨n, k, rfl, rfl, hk, HB⟩ := hrel
    have HP := Lib.hid (H.out.ext HB.out)
    have p1 := HP.out.c1
    have p2 := HP.out.c2
    have hml : (ms.length : Int) ≤ 9223372036854775807 := by have := H.out.ml; omega
    have hfl : (fin.length : Int) ≤ 9223372036854775807 := by have := H.out.fl; omega
    by_cases hlt : k < ms.length
    · have hcl : (k : Int) < (ms.length : Int) := by omega
      obtain ⟨bb, oo, e0, hx⟩ := mv_at HP.out.m hlt
      subst e0
      generalize ms[k] = x at hx
      obtain ⟨xn, xf, xt, xw, x1, x2, x3, x4⟩ := x
      obtain ⟨c0, c1, c2, c3, c4, c5, c6, c7⟩ := hx
      simp only at c0 c1 c2 c3 c4 c5 c6 c7
      go_wp2_with fail
      go_quiet (fail)
      have HBn := Lib.hid (ext_trans HB.out (ext_drewN wr nq))
      obtain ⟨wd, hwd⟩ : ∃ wd, wd = wr.drewN nq := ⟨_, rfl⟩
      have hb := ext_drewN wr nq
      rw [← hwd] at HBn hb ⊢
      have p1 := cell_ext hb p1
      have p2 := cell_ext hb p2
      have c4 := cell_ext hb c4
      have c5 := cell_ext hb c5
      clear hwd hb
      clear c0 c1 c2 c3 c6 c7
      generalize wrap64 (wrap64 (wrap64 (wrap64 (n + (xn.length : Int)) + (xf.length : Int)) + (xt.length : Int)) + (xw.length : Int)) = n2
      by_cases g1 : x2 = 1
      · subst g1
        by_cases g2 : 1500 < x1
        · by_cases g3 : x1 ≤ 100000
          · go_wp2_with fail
            go_ret
            exact ⟨false, rfl, (fun h => by cases h), HBn.out⟩
          · go_wp2_with fail
            go_roundw
            case rel => exact ⟨n2, k + 1, rfl, by go_num, by omega, HBn.out⟩
            case measure => show ms.length - (k + 1) < ms.length - k; omega
        · go_wp2_with fail
          go_roundw
          case rel => exact ⟨n2, k + 1, rfl, by go_num, by omega, HBn.out⟩
          case measure => show ms.length - (k + 1) < ms.length - k; omega
      · have g1' : (x2 == 1) = false := by simp [g1]
        clear g1
        go_wp2_with fail
        go_roundw
        case rel => exact ⟨n2, k + 1, rfl, by go_num, by omega, HBn.out⟩
        case measure => show ms.length - (k + 1) < ms.length - k; omega
    · have hcl : ¬ (k : Int) < (ms.length : Int) := by omega
      by_cases g1 : ms.length ≤ 125
      · have g1' : (ms.length : Int) ≤ 125 := by omega
        by_cases g2 : fin.length ≤ 125
        · have g2' : (fin.length : Int) ≤ 125 := by omega
          have HG := Lib.hid (And.intro g1 g2)
          clear g1 g2 hlt hk
          by_cases g3 : n ≤ 6000
          · go_wp2_with fail
            go_ret
            exact ⟨true, rfl, fun _ => HG.out, HB.out⟩
          · go_wp2_with fail
            go_ret
            exact ⟨false, rfl, (fun h => by cases h), HB.out⟩
        · have g2' : ¬ (fin.length : Int) ≤ 125 := by omega
          clear g1 g2 hlt hk
          go_wp2_with fail
          go_ret
          exact ⟨false, rfl, (fun h => by cases h), HB.out⟩
      · have g1' : ¬ (ms.length : Int) ≤ 125 := by omega
        clear g1 hlt hk
        go_wp2_with fail
        go_ret
        exact ⟨false, rfl, (fun h => by cases h), HB.out⟩
end Go.Proofs.YtjfiodknjchngaaDoor.Ce

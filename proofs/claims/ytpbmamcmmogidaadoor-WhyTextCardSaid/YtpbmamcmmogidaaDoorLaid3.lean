/- What a list of laid variables and the world's shape give coin.Read: two errors, the library's error, the library's bound. -/
import Derived.Test.YtpbmamcmmogidaaDoorLaid2
import Derived.Test.YtpbmamcmmogidaaDoorCnW
import Derived.ShapedOpen
namespace Go.Proofs.YtpbmamcmmogidaaDoor.Laid2
open Go.RowKit Go.ChangeShapes Err Tabs Cn

theorem sent_of {W : World} {L : List (String × DataW Unit)} (h : laidMetH Tryd.prog L W) (n : String) (b : List UInt8) (g : Nat) (hf : ((L.filter fun x => x.2.handleName?.isNone).filter fun x => x.1 == n) = [(n, sentD b)])
    (hg : Tryd.prog.globalNamed n = some g) (ht : (Tryd.prog.globals[g]?).map (·.type) = some 32) : ∃ a, W.cell? ⟨g, 0, none⟩ = some (sentV a) := by
  obtain ⟨h1, _⟩ := laidMetH_iff.1 h
  have h2 := h1.filter fun x => x.1 == n
  rw [hf] at h2
  obtain ⟨a, ha⟩ := sent_of_laid (b := b) h2 (List.Mem.head _) hg ht
  exact ⟨a, ha.v⟩
def bErrRange : List UInt8 := [118, 97, 108, 117, 101, 32, 111, 117, 116, 32, 111, 102, 32, 114, 97, 110, 103, 101]
def rangeName : String := "strconv.ErrRange"
theorem gRange : Tryd.prog.globalNamed rangeName = some 13 := by kernel_rfl
theorem tRange : (Tryd.prog.globals[13]?).map (·.type) = some 32 := by kernel_rfl
theorem max_of {W : World} (h : W.ShapedOpen Tryd.prog) : ∃ m, W.cell? ⟨15, 0, none⟩ = some (.int .i64 m) := Tryd.laysM146.s1_3 W h
def textName : String := "statute/api.ErrText"
def coinName : String := "statute/api.ErrCoin"
theorem ce_of {W : World} {L : List (String × DataW Unit)} (h : laidMetH Tryd.prog L W) (hS : W.ShapedOpen Tryd.prog)
    (ht : ((L.filter fun x => x.2.handleName?.isNone).filter fun x => x.1 == textName) = [(textName, sentD bErrText)])
    (hc : ((L.filter fun x => x.2.handleName?.isNone).filter fun x => x.1 == coinName) = [(coinName, sentD bErrCoin)])
    (hr : ((L.filter fun x => x.2.handleName?.isNone).filter fun x => x.1 == rangeName) = [(rangeName, sentD bErrRange)]) : ∃ A rv m, CE W A rv m := by
  obtain ⟨a0, h0⟩ := sent_of h textName bErrText _ ht gErrText tErrText
  obtain ⟨a2, h2⟩ := sent_of h coinName bErrCoin _ hc gErrCoin tErrCoin
  obtain ⟨ar, h3⟩ := sent_of h rangeName bErrRange _ hr gRange tRange
  obtain ⟨m, hm⟩ := max_of hS
  exact ⟨fun k => if k = 0 then a0 else a2, sentV ar, m, h0, h2, h3, ⟨_, _, rfl⟩, hm⟩
end Go.Proofs.YtpbmamcmmogidaaDoor.Laid2

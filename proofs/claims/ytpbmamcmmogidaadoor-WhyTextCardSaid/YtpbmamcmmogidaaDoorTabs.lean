/- Tables that the library's code reads: the word for the table of powers of ten, kept where the world only grows. -/
import Derived.Test.YtpbmamcmmogidaaDoorShelf
import Derived.Test.YtpbmamcmmogidaaDoorMem
import Derived.Lib.LaidTab
namespace Go.Proofs.YtpbmamcmmogidaaDoor.Tabs
open Go.RowKit Mem

/-- the table of powers of ten lies as it was laid -/
def Pow (w : World) : Prop := Lib.TabIs Tryd.prog w "internal/strconv.uint64pow10" .u64 Lib.pow10Tab
theorem var_below {w w' : World} {n : String} {cs : Array Value} (h : w.var? Tryd.prog n = some cs) (hb : Below w.heap.size w w') : w'.var? Tryd.prog n = some cs := by
  unfold World.var? at h ⊢
  obtain ⟨g, hg, h⟩ := Option.bind_eq_some_iff.1 h
  rw [hg, Option.bind_some]
  cases ho : w.heap[g]? with
  | none => rw [ho] at h; simp at h
  | some o => rw [hb.block g (Array.getElem?_eq_some_iff.1 ho).1]; exact h
theorem Pow.ext {w w' : World} (h : Pow w) (hb : Below w.heap.size w w') : Pow w' := var_below h hb
theorem below_grow (w : World) (q : Nat) (os : Array Obj) : Below w.heap.size w (Sort.grow (w.drewN q) os) :=
  ⟨rfl, rfl, rfl, by simp [Sort.grow], fun k hk => by
    show ((w.drewN q).heap ++ os)[k]? = _
    rw [Array.getElem?_append_left (show k < (w.drewN q).heap.size from hk)]
    rfl⟩
def StrPost (l : List UInt8) (w : World) (e : Ending) (w' : World) : Prop := e = .returned (.string ⟨l.toArray⟩) ∧ Below w.heap.size w w'
/-- strconv.Itoa -/
theorem itoa_any (n : Int) (h0 : -9223372036854775808 ≤ n) (h1 : n ≤ 9223372036854775807) (w : World) (hp : Pow w) :
    Calls Tryd.prog 85 #[.int .i64 n] w (StrPost (Lib.itoa n) w) :=
  (Tryd.strconv_Itoa n h0 h1 w hp).mono fun _ _ ⟨he, k, os, hw⟩ => ⟨he, hw ▸ below_grow w k os⟩
theorem itoa_nat (u : Nat) (h1 : u ≤ 9223372036854775807) (w : World) (hp : Pow w) :
    Calls Tryd.prog 85 #[.int .i64 (u : Int)] w (StrPost (Lib.decDigits u) w) := by
  have h := itoa_any (u : Int) (by omega) (by omega) w hp
  unfold Lib.itoa at h
  rw [if_neg (by omega), Int.toNat_natCast] at h
  exact h
end Go.Proofs.YtpbmamcmmogidaaDoor.Tabs

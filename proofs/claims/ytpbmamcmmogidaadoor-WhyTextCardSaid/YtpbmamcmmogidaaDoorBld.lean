/- strings.Builder at this dump: WriteString and WriteByte, laid by hand (two types of the laying's table that no body names here are given by their descriptions); the text that a builder holds, in words of lists. -/
import Derived.Test.YtpbmamcmmogidaaDoorShelf
import Derived.Test.YtpbmamcmmogidaaDoorMem
import Derived.Shelf.Strings.BuilderK
namespace Go.Proofs.YtpbmamcmmogidaaDoor.Bld
open Go.RowKit Go.Shelf Mem
def lays166_ren : Go.Shelf.Ren := ⟨fun | 166 => 67 | 240 => 123 | 276 => 164 | n => n, fun | 70 => 140 | 9 => 9 | 3 => 3 | 75 => 32 | 0 => 0 | 72 => 143 | 37 => 141 | 4 => 4 | 164 => 224 | 80 => 133 | 5 => 5 | 20 => 20 | n => n, fun | n => n⟩
theorem lays166 : Lays.n166 Tryd.prog lays166_ren := {
  mixed := by kernel_rfl
  f166 := Tryd.func67.trans (congrArg some (by kernel_rfl))
  f240 := Tryd.func123.trans (congrArg some (by kernel_rfl))
  f276 := Tryd.func164.trans (congrArg some (by kernel_rfl))
  t0 := Tryd.underlying0
  a0 := Tryd.isAgg0
  z0 := Tryd.sizeOf0
  v0 := Tryd.zeroValue0
  t3 := Tryd.underlying3
  a3 := Tryd.isAgg3
  z3 := Tryd.sizeOf3
  v3 := Tryd.zeroValue3
  t4 := Tryd.underlying4
  a4 := Tryd.isAgg4
  z4 := Tryd.sizeOf4
  v4 := Tryd.zeroValue4
  t9 := Tryd.underlying9
  a9 := Tryd.isAgg9
  z9 := Tryd.sizeOf9
  v9 := Tryd.zeroValue9
  t20 := Tryd.underlying20
  a20 := Tryd.isAgg20
  z20 := Tryd.sizeOf20
  v20 := Tryd.zeroValue20
  t37 := Tryd.underlying141
  a37 := Tryd.isAgg141
  z37 := Tryd.sizeOf141
  v37 := Tryd.zeroValue141
  t70 := Tryd.underlying140
  a70 := Tryd.isAgg140
  z70 := Tryd.sizeOf140
  v70 := Tryd.zeroValue140
  t72 := Tryd.underlying143
  a72 := Tryd.isAgg143
  z72 := Tryd.sizeOf143
  v72 := Tryd.zeroValue143
  t75 := Tryd.underlying32
  a75 := Tryd.isAgg32
  z75 := Tryd.sizeOf32
  v75 := Tryd.zeroValue32
  t164 := Tryd.underlying224
  a164 := Tryd.isAgg224
  z164 := Tryd.sizeOf224
  v164 := Tryd.zeroValue224 }
theorem extra166 : Builder.Extra Tryd.prog lays166_ren := {
  sizeBuilder := by kernel_rfl
  liesBuilder := by kernel_rfl
  t5 := Tryd.underlying5
  a5 := Tryd.isAgg5
  z5 := Tryd.sizeOf5
  v5 := Tryd.zeroValue5
  infoByte := by kernel_rfl
  cellsByte := by kernel_rfl
  sizeByte := by kernel_rfl
  neB5 := by decide }
def lays167_ren : Go.Shelf.Ren := ⟨fun | 167 => 69 | 240 => 123 | 276 => 164 | n => n, fun | 70 => 140 | 5 => 5 | 75 => 32 | 0 => 0 | 72 => 143 | 37 => 141 | 4 => 4 | 164 => 224 | 80 => 133 | 9 => 9 | 20 => 20 | n => n, fun | n => n⟩
theorem lays167 : Lays.n167 Tryd.prog lays167_ren := {
  mixed := by kernel_rfl
  f167 := Tryd.func69.trans (congrArg some (by kernel_rfl))
  f240 := Tryd.func123.trans (congrArg some (by kernel_rfl))
  f276 := Tryd.func164.trans (congrArg some (by kernel_rfl))
  t0 := Tryd.underlying0
  a0 := Tryd.isAgg0
  z0 := Tryd.sizeOf0
  v0 := Tryd.zeroValue0
  t4 := Tryd.underlying4
  a4 := Tryd.isAgg4
  z4 := Tryd.sizeOf4
  v4 := Tryd.zeroValue4
  t5 := Tryd.underlying5
  a5 := Tryd.isAgg5
  z5 := Tryd.sizeOf5
  v5 := Tryd.zeroValue5
  t9 := Tryd.underlying9
  a9 := Tryd.isAgg9
  z9 := Tryd.sizeOf9
  v9 := Tryd.zeroValue9
  t20 := Tryd.underlying20
  a20 := Tryd.isAgg20
  z20 := Tryd.sizeOf20
  v20 := Tryd.zeroValue20
  t37 := Tryd.underlying141
  a37 := Tryd.isAgg141
  z37 := Tryd.sizeOf141
  v37 := Tryd.zeroValue141
  t70 := Tryd.underlying140
  a70 := Tryd.isAgg140
  z70 := Tryd.sizeOf140
  v70 := Tryd.zeroValue140
  t72 := Tryd.underlying143
  a72 := Tryd.isAgg143
  z72 := Tryd.sizeOf143
  v72 := Tryd.zeroValue143
  t75 := Tryd.underlying32
  a75 := Tryd.isAgg32
  z75 := Tryd.sizeOf32
  v75 := Tryd.zeroValue32
  t164 := Tryd.underlying224
  a164 := Tryd.isAgg224
  z164 := Tryd.sizeOf224
  v164 := Tryd.zeroValue224 }
theorem extra167 : Builder.Extra Tryd.prog lays167_ren := {
  sizeBuilder := by kernel_rfl
  liesBuilder := by kernel_rfl
  t5 := Tryd.underlying5
  a5 := Tryd.isAgg5
  z5 := Tryd.sizeOf5
  v5 := Tryd.zeroValue5
  infoByte := by kernel_rfl
  cellsByte := by kernel_rfl
  sizeByte := by kernel_rfl
  neB5 := by decide }
/-- the builder in block b holds these bytes -/
def Bd (w : World) (B b : Nat) (l : List UInt8) : Prop := Lib.IsBuilderF 143 5 B b (Lib.byteCells l) w
/-- blocks that are not the builder's, and no bytes' rows, stand as they stood -/
abbrev Oth (b : Nat) (w w' : World) : Prop := Lib.OthersKept 5 (some b) w w'
theorem Bd.new (w : World) : Bd (w.alloc (.cells #[.pointer none, .slice none 0 0] 143)) w.heap.size w.heap.size [] :=
  Lib.IsBuilderF.of (.inl ⟨Nat.le_refl _, .slice none 0 0, heap_alloc_new w _, World.ownsRow_nil _ _ _ _, by simp [Value.ownBlock]⟩)
theorem at_ext {w w' : World} {B b : Nat} {p : Value} {bs : List Value} (h : Lib.BuilderAtF 143 5 B b p bs w) (hb : Below w.heap.size w w') : Lib.BuilderAtF 143 5 B b p bs w' := by
  have hlt := h.lt
  obtain ⟨hB, v, h1, hown, hne⟩ := h
  refine ⟨hB, v, by rw [hb.block b hlt]; exact h1, ?_, hne⟩
  exact hown.kept (row := none) ⟨hb.os, hb.tape, hb.output, hb.size, fun k hk _ => hb.block k hk⟩ (by cases v.ownBlock <;> simp)
theorem Bd.ext {w w' : World} {B b : Nat} {l : List UInt8} (h : Bd w B b l) (hb : Below w.heap.size w w') : Bd w' B b l :=
  h.elim (fun x => .inl (at_ext x hb)) (fun x => .inr (at_ext x hb))
theorem Bd.lt {w : World} {B b : Nat} {l : List UInt8} (h : Bd w B b l) : b < w.heap.size := by
  rcases h with h | h
  · exact h.lt
  · exact h.lt
theorem write_any (B b : Nat) (l m : List UInt8) (s : ByteArray) (hs : s = ⟨m.toArray⟩) (w : World) (h : Bd w B b l) (hl : l.length + m.length ≤ 140737488355328) (hB : B ≤ w.heap.size) :
    Calls Tryd.prog 67 #[.pointer (some ⟨b, 0, none⟩), .string s] w fun e w' => (∃ n, e = .returned (.tuple #[.int .i64 n, .nilIface])) ∧ Bd w' B b (l ++ m) ∧ Below B w w' ∧ Oth b w w' := by
  subst hs
  have e1 : Lib.byteCells l ++ Lib.strCells ⟨m.toArray⟩ = Lib.byteCells (l ++ m) := by simp [Lib.byteCells, Lib.strCells]
  have e2 : (Lib.byteCells l).length = l.length := by simp [Lib.byteCells]
  have e3 : (ByteArray.mk m.toArray).size = m.length := rfl
  refine (Any.Builder_WriteString_k lays166 extra166 B b (Lib.byteCells l) ⟨m.toArray⟩ w h (by rw [e2, e3]; exact hl) hB).mono ?_
  rintro e w' ⟨he, hb, hw, ho⟩
  rw [e1] at hb
  exact ⟨⟨_, he⟩, .inr hb, hw, ho⟩
theorem byte_any (B b : Nat) (l : List UInt8) (n : Int) (c : UInt8) (hc : n = (c.toNat : Int)) (w : World) (h : Bd w B b l) (hl : l.length + 1 ≤ 140737488355328) (hB : B ≤ w.heap.size) :
    Calls Tryd.prog 69 #[.pointer (some ⟨b, 0, none⟩), .int .u8 n] w fun e w' => e = .returned .nilIface ∧ Bd w' B b (l ++ [c]) ∧ Below B w w' ∧ Oth b w w' := by
  subst hc
  have e1 : Lib.byteCells l ++ [.int .u8 (c.toNat : Int)] = Lib.byteCells (l ++ [c]) := by simp [Lib.byteCells]
  have e2 : (Lib.byteCells l).length = l.length := by simp [Lib.byteCells]
  refine (Any.Builder_WriteByte_k lays167 extra167 B b (Lib.byteCells l) (c.toNat : Int) w h (by rw [e2]; exact hl) hB).mono ?_
  rintro e w' ⟨he, hb, hw, ho⟩
  rw [e1] at hb
  exact ⟨he, .inr hb, hw, ho⟩
theorem string_any (B b : Nat) (l : List UInt8) (w : World) (h : Bd w B b l) (hB : B ≤ w.heap.size) :
    Calls Tryd.prog 70 #[.pointer (some ⟨b, 0, none⟩)] w fun e w' => e = .returned (.string ⟨l.toArray⟩) ∧ Below B w w' :=
  (Any.Builder_String_any_k Tryd.lays169 Tryd.Builder_Extra_169 B b l w h hB).mono fun _ _ ⟨h1, _, h2, _⟩ => ⟨h1, h2⟩
end Go.Proofs.YtpbmamcmmogidaaDoor.Bld

/- Go's library at amounts' texts: Split at commas, Join, TrimLeft, IndexByte, Atoi: the laid contracts, in words of lists. -/
import Derived.Test.YtpbmamcmmogidaaDoorCnL
import Derived.Test.YtpbmamcmmogidaaDoorTabs
import Derived.Test.YtpbmamcmmogidaaDoorNest
import Derived.Lib.ConvBytes
namespace Go.Proofs.YtpbmamcmmogidaaDoor.Cn
open Go.RowKit Mem Rd Tabs

def strV (g : List UInt8) : Value := .string ⟨g.toArray⟩
theorem mk_toList (x : ByteArray) : (⟨x.data.toList.toArray⟩ : ByteArray) = x := by cases x; simp
theorem ba_len (l : List UInt8) : (ByteArray.mk l.toArray).size = l.length := rfl
theorem ba_take (l : List UInt8) (k : Nat) : (ByteArray.mk l.toArray).extract 0 k = ⟨(l.take k).toArray⟩ := by
  apply ByteArray.ext
  simp [List.extract_eq_take_drop]
theorem ba_cut (l : List UInt8) (i j : Nat) : (ByteArray.mk l.toArray).extract i j = ⟨((l.drop i).take (j - i)).toArray⟩ := by
  apply ByteArray.ext
  simp [List.extract_eq_take_drop]
theorem ba_cat (r l : List UInt8) : (ByteArray.mk r.toArray ++ ByteArray.mk l.toArray : ByteArray) = ⟨(r ++ l).toArray⟩ := by
  apply ByteArray.ext
  simp
def SplitPost (t : List UInt8) (w : World) (e : Ending) (w' : World) : Prop :=
  e = .returned (.slice (some ⟨w.heap.size, 0, none⟩) (grps t).length (grps t).length) ∧ w' = w.alloc (.cells ((grps t).map strV).toArray 9)
theorem split_any (t : List UInt8) (m : Int) (w : World) (hl : t.length ≤ 3000) (hm : w.cell? ⟨15, 0, none⟩ = some (.int .i64 m)) :
    Calls Tryd.prog 124 #[.string ⟨t.toArray⟩, .string ⟨#[44]⟩] w (SplitPost t w) := by
  have h := Tryd.strings_Split ⟨t.toArray⟩ ⟨#[44]⟩ m w (by rw [ba_len]; omega) hm (by decide)
  have e1 : (Lib.splitB ⟨#[44]⟩ 0 (Lib.countB ⟨t.toArray⟩ ⟨#[44]⟩) ⟨t.toArray⟩).map (·.data.toList) = grps t := by
    rw [Lib.splitB_data]
    exact split_grps t
  have e2 := Lib.splitB_all ⟨#[44]⟩ (by decide) 0 (Lib.countB ⟨t.toArray⟩ ⟨#[44]⟩) ⟨t.toArray⟩ rfl
  obtain ⟨xs, hx⟩ : ∃ xs, xs = Lib.splitB ⟨#[44]⟩ 0 (Lib.countB ⟨t.toArray⟩ ⟨#[44]⟩) ⟨t.toArray⟩ := ⟨_, rfl⟩
  rw [← hx] at e1 e2 h
  have e3 : (grps t).length = xs.length := by rw [← e1, List.length_map]
  have e4 : (grps t).map strV = xs.map Value.string := by
    rw [← e1, List.map_map]
    refine List.map_congr_left fun x _ => ?_
    show Value.string ⟨x.data.toList.toArray⟩ = _
    rw [mk_toList]
  refine h.mono fun e w' ⟨he, hw⟩ => ⟨?_, ?_⟩
  · rw [he, e3, e2]
  · rw [hw, e4]
theorem comma_any (t r : List UInt8) (h : 44 ∈ t) (w : World) : Calls Tryd.prog 258 #[.string ⟨(t ++ r).toArray⟩, .int .u8 44] w fun e w' => e = .returned (.int .i64 (comma t : Nat)) ∧ w = w' :=
  (Tryd.strings_IndexByte ⟨(t ++ r).toArray⟩ 44 w).mono fun _ _ ⟨h1, h2⟩ => ⟨by rw [h1]; exact congrArg (fun x => Ending.returned (.int .i64 x)) (index_byte t r h), h2.symm⟩
/-- strconv.Atoi of digits: their value; or an error -/
def AtoiPost (V : Nat) (w : World) (e : Ending) (w' : World) : Prop :=
  Below w.heap.size w w' ∧ ((V ≤ 9223372036854775807 ∧ e = .returned (.tuple #[.int .i64 (V : Int), .nilIface])) ∨ (9223372036854775807 < V ∧ ∃ (v : Int) (t : TypeId) (p : Value), e = .returned (.tuple #[.int .i64 v, .iface t p])))
theorem below_bytes (w : World) (e : TypeId) (s : ByteArray) : Below w.heap.size w (Lib.bytesWorld w e s) :=
  ⟨rfl, rfl, rfl, by rw [Lib.bytesWorld_size]; omega, fun k hk => Lib.bytesWorld_at_old w e s k hk⟩
theorem atoi_any (l : List UInt8) (h : ∀ c ∈ l, isD c = true) (hn : l ≠ []) (hl : l.length ≤ 4000) (rv : Value) (w : World) (hv : w.cell? ⟨13, 0, none⟩ = some rv) (hi : ∃ te pe, rv = .iface te pe) :
    Calls Tryd.prog 81 #[.string ⟨l.toArray⟩] w (AtoiPost (valD l) w) := by
  have ha := atoi_digits l h hn
  by_cases c : valD l ≤ 9223372036854775807
  · rw [if_pos c] at ha
    refine (Tryd.strconv_Atoi_ok ⟨l.toArray⟩ (by rw [ba_len]; omega) _ ha w).mono fun e w' ⟨he, hw⟩ => ⟨?_, .inl ⟨c, he⟩⟩
    rcases hw with rfl | ⟨t, rfl⟩
    · exact Below.refl _ _
    · exact below_bytes _ _ _
  · rw [if_neg c] at ha
    exact (Tryd.strconv_Atoi_range ⟨l.toArray⟩ (by rw [ba_len]; omega) ha rv w hv (.inr hi)).mono fun e w' ⟨N, he, _, _, hb⟩ => ⟨hb, .inr ⟨by omega, _, _, _, he⟩⟩
end Go.Proofs.YtpbmamcmmogidaaDoor.Cn

/- faulted of package statutelaw1: whether an error has a number and a place; errors as the program's readers give them. -/
import Derived.Test.YtflklbhgjfonbaaGreatDoorErr
import Derived.Test.YtflklbhgjfonbaaGreatDoorNest
namespace Go.Proofs.YtflklbhgjfonbaaGreatDoor.Flt
open Go.RowKit Err Mem

def faultV (b : Nat) : Value := .iface 47 (.pointer (some ⟨b, 0, none⟩))
/-- an error: nil, or an api.Fault with a place around a sentinel -/
def PErr (A : Nat → Addr) (w : World) (code at_ : Int) (v : Value) : Prop :=
  (code = 0 ∧ v = .nilIface) ∨ (∃ c : Nat, c < 11 ∧ code = c + 1 ∧ ∃ b, v = faultV b ∧ w.cell? ⟨b, 0, none⟩ = some (.int .i64 at_) ∧ w.cell? ⟨b, 1, none⟩ = some (sentV (A c)))
theorem PErr.ext {A : Nat → Addr} {w w' : World} {c a : Int} {v : Value} (h : PErr A w c a v) (hb : Below w.heap.size w w') : PErr A w' c a v := by
  rcases h with h | ⟨c', h1, h2, b, h3, h4, h5⟩
  · exact .inl h
  · exact .inr ⟨c', h1, h2, b, h3, cell_ext hb h4, cell_ext hb h5⟩
theorem ret_bool {a b : Bool} (h : a = b) : Ending.returned (.bool a) = .returned (.bool b) := by rw [h]
set_option maxHeartbeats 1000000 in
theorem faulted_same {A : Nat → Addr} {w : World} {c a at' : Int} {v : Value} (h : PErr A w c a v) (hE : Errs w A) (ha : c ≠ 0 → at' = a) :
    Calls Tryz.prog 9 #[v, .agg #[.int .i64 c, .int .i64 at']] w fun e w' => e = .returned (.bool true) ∧ Below w.heap.size w w' := by
  have HE := Lib.hid hE
  clear hE
  rcases h with ⟨rfl, rfl⟩ | ⟨k, hk, rfl, b, rfl, h1, h2⟩
  · go_enter Tryz.func9, Tryz.ntmps9
    go_wp2_with fail
    refine (code_nil _).mono ?_
    rintro e w' ⟨rfl, rfl⟩
    go_wp2_with fail
    go_ret
    exact ⟨ret_bool (by simp), ext_alloc w _⟩
  · obtain rfl : at' = a := ha (by omega)
    have H1 := Lib.hid h1
    have H2 := Lib.hid h2
    clear h1 h2 ha
    unfold faultV
    go_enter Tryz.func9, Tryz.ntmps9
    go_wp2_with fail
    refine (code_fault k hk A b 0 at' _ (HE.out.below (ext_alloc w _)) (cell_ext (ext_alloc w _) H1.out) (cell_ext (ext_alloc w _) H2.out)).mono ?_
    rintro e w1 ⟨rfl, hb⟩
    have HB := Lib.hid (ext_trans (ext_alloc w _) hb)
    have hN := Nest.Blk.new w 32 [.int .i64 ((k : Int) + 1), .int .i64 at']
    have g0 := cell_ext hb (hN.cell 0 rfl)
    have g1 := cell_ext hb (hN.cell 1 rfl)
    have hne : ((k : Int) + 1 == 0) = false := by rw [beq_eq_false_iff_ne]; omega
    clear hb hN
    go_wp2_with fail
    go_ret
    exact ⟨ret_bool (by simp), HB.out⟩
end Go.Proofs.YtflklbhgjfonbaaGreatDoor.Flt

/- Gaps: lengths that the walks want; a table's parts by place. -/
import Derived.Test.YtednlkchbjpabaaDoorGpV
import Derived.Test.YtednlkchbjpabaaDoorGpE
namespace Go.Proofs.YtednlkchbjpabaaDoor.Gp
open Go.RowKit Mem Nest Fk

/-- lengths that the walks want -/
structure SmallT (qms : List QnM) (ms : List RwM) : Prop where
  nm : ∀ q ∈ qms, q.name.length ≤ 9223372036854775807
  an : ∀ q ∈ qms, ∀ s ∈ q.ans, s.length ≤ 9223372036854775807
  al : ∀ q ∈ qms, q.ans.length ≤ 1048576
  ql : qms.length ≤ 1048576
  rl : ms.length ≤ 1048576
  out : ∀ r ∈ ms, r.out.length ≤ 9223372036854775807
  cl : ∀ r ∈ ms, r.cells.length ≤ 1048576
theorem qAt_m {qms : List QnM} {i : Nat} (h : i < qms.length) : qAt (qms.map QnM.qn) i = qms[i].qn := by simp [qAt, h]
theorem rAt_m {ms : List RwM} {i : Nat} (h : i < ms.length) : rAt (ms.map RwM.rw) i = ms[i].rw := by simp [rAt, h]
theorem txt_m {qms : List QnM} {i : Nat} (h : i < qms.length) : txtAt ((qms.map QnM.qn).map (·.name)) i = qms[i].name := by simp [txtAt, h, QnM.qn]
theorem cAt_m {r : RwM} {k : Nat} (h : k < r.cells.length) : cAt r.rw k = r.cells[k].l.getD [] := by simp [cAt, RwM.rw, h]
theorem nameF_succ (qs : List Qn) (i : Nat) : nameF qs (i + 1) = (nameF qs i || (qnB qs i || anyTo (ansB (qAt qs i).ans) (qAt qs i).ans.length)) := anyTo_succ _ _
theorem or_move (a b c : Bool) : (a || (b || c)) = ((a || b) || c) := by cases a <;> cases b <;> rfl
end Go.Proofs.YtednlkchbjpabaaDoor.Gp

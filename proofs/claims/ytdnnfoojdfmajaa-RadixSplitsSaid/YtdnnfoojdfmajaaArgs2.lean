/- A slice of calls as an argument. -/
import Derived.Test.YtdnnfoojdfmajaaArgs
import Derived.Test.YtdnnfoojdfmajaaA13
namespace Go.Proofs.Ytdnnfoojdfmajaa
open Go.ChangeShapes Go.WideShapes Go.ChangeAt Go.RowKit
def vb : Value → Bool
  | .bool b => b
  | _ => false
theorem acts_in {w : World} {ao : Option Addr} {len : Nat} {rows : Nat → List Value} (h : Flat.Rows w [.i .i64, .i .i64, .i .i64, .i .i64, .i .i64, .b] ao len rows) : ∃ z, Acts w ao len z := by
  refine ⟨fun j => ⟨Flat.iv ((rows j).getD 0 (.bool false)), Flat.iv ((rows j).getD 1 (.bool false)), Flat.iv ((rows j).getD 2 (.bool false)), Flat.iv ((rows j).getD 3 (.bool false)), Flat.iv ((rows j).getD 4 (.bool false)), vb ((rows j).getD 5 (.bool false))⟩, fun j hj => ?_⟩
  obtain ⟨hall, b, o, e, hcell⟩ := h j hj
  obtain ⟨x0, x1, x2, x3, x4, x5, hr, w0, w1, w2, w3, w4⟩ := act_cells hall
  rw [hr] at hcell
  have q0 := hcell 0 _ rfl
  have q1 := hcell 1 _ rfl
  have q2 := hcell 2 _ rfl
  have q3 := hcell 3 _ rfl
  have q4 := hcell 4 _ rfl
  have q5 := hcell 5 _ rfl
  simp only [List.length_cons, List.length_nil, Nat.zero_add, Nat.add_zero, Nat.reduceAdd, ← Nat.add_assoc] at q0 q1 q2 q3 q4 q5
  refine ⟨b, o, e, ?_⟩
  simp only [hr, List.getD_cons_zero, List.getD_cons_succ, Flat.iv, vb]
  exact ⟨q0, q1, q2, q3, q4, q5⟩
theorem u8_bounds {x : Int} (h : (Lit.int .u8 x).wf = true) : 0 ≤ x ∧ x ≤ 255 := by
  have hmin : IntKind.u8.min = 0 := rfl
  have hmax : IntKind.u8.max = 255 := rfl
  simp only [Lit.wf, Bool.and_eq_true, decide_eq_true_eq] at h
  omega
end Go.Proofs.Ytdnnfoojdfmajaa

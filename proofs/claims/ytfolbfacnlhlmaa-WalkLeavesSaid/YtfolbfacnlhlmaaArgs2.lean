/- A row of what was laid, as an argument. -/
import Derived.Test.YtfolbfacnlhlmaaArgs
import Derived.Test.YtfolbfacnlhlmaaW11
namespace Go.Proofs.Ytfolbfacnlhlmaa
open Go.ChangeShapes Go.WideShapes Go.ChangeAt Go.RowKit
def bvl : Value → Bool
  | .bool b => b
  | _ => false
theorem u64_bounds {x : Int} (h : (Lit.int .u64 x).wf = true) : 0 ≤ x ∧ x < 18446744073709551616 := by
  have hmin : IntKind.u64.min = 0 := rfl
  have hmax : IntKind.u64.max = 18446744073709551615 := rfl
  simp only [Lit.wf, Bool.and_eq_true, decide_eq_true_eq] at h
  omega
theorem lds_in {w : World} {ao : Option Addr} {len : Nat} {rows : Nat → List Value} (h : Flat.Rows w [.i .i64, .i .i64, .i .i64, .b, .b, .b, .b, .b, .b, .b, .i .u64] ao len rows) : ∃ z, Lds w ao len z := by
  refine ⟨fun j => ⟨Flat.iv ((rows j).getD 0 (.bool false)), Flat.iv ((rows j).getD 1 (.bool false)), Flat.iv ((rows j).getD 2 (.bool false)), bvl ((rows j).getD 3 (.bool false)), bvl ((rows j).getD 4 (.bool false)), bvl ((rows j).getD 5 (.bool false)), bvl ((rows j).getD 6 (.bool false)), bvl ((rows j).getD 7 (.bool false)), bvl ((rows j).getD 8 (.bool false)), bvl ((rows j).getD 9 (.bool false)), Flat.iv ((rows j).getD 10 (.bool false))⟩, fun j hj => ?_⟩
  obtain ⟨hall, b, o, e, hcell⟩ := h j hj
  obtain ⟨x0, x1, x2, x3, x4, x5, x6, x7, x8, x9, x10, hr, w0, w1, w2, w10⟩ := laid_cells hall
  rw [hr] at hcell
  have q0 := hcell 0 _ rfl
  have q1 := hcell 1 _ rfl
  have q2 := hcell 2 _ rfl
  have q3 := hcell 3 _ rfl
  have q4 := hcell 4 _ rfl
  have q5 := hcell 5 _ rfl
  have q6 := hcell 6 _ rfl
  have q7 := hcell 7 _ rfl
  have q8 := hcell 8 _ rfl
  have q9 := hcell 9 _ rfl
  have q10 := hcell 10 _ rfl
  simp only [List.length_cons, List.length_nil, Nat.zero_add, Nat.add_zero, Nat.reduceAdd, ← Nat.add_assoc] at q0 q1 q2 q3 q4 q5 q6 q7 q8 q9 q10
  have hu := u64_bounds w10
  refine ⟨b, o, e, ?_⟩
  simp only [hr, List.getD_cons_zero, List.getD_cons_succ, Flat.iv, bvl]
  exact ⟨⟨q0, q1, q2, q3, q4, q5, q6, q7, q8, q9, q10⟩, hu.1, hu.2⟩
end Go.Proofs.Ytfolbfacnlhlmaa

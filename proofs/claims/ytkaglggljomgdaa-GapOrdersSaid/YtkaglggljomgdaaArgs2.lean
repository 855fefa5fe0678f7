/- A slice of calls as an argument. -/
import Derived.Test.YtkaglggljomgdaaArgs
import Derived.Test.YtkaglggljomgdaaH25
namespace Go.Proofs.Ytkaglggljomgdaa
open Go.ChangeShapes Go.WideShapes Go.ChangeAt Go.RowKit
theorem acts_in {w : World} {ao : Option Addr} {len : Nat} {rows : Nat → List Value} (h : Flat.Rows w [.i .i64, .i .i64, .i .i64, .i .i64] ao len rows) : ∃ z, Acts w ao len z := by
  refine ⟨fun j k => Flat.iv ((rows j).getD k (.bool false)), fun j hj => ?_⟩
  obtain ⟨hall, b, o, e, hcell⟩ := h j hj
  obtain ⟨x0, x1, x2, x3, hr, w0, w1, w2, w3⟩ := act_cells hall
  rw [hr] at hcell
  have q0 := hcell 0 _ rfl
  have q1 := hcell 1 _ rfl
  have q2 := hcell 2 _ rfl
  have q3 := hcell 3 _ rfl
  simp only [List.length_cons, List.length_nil, Nat.zero_add, Nat.add_zero, Nat.reduceAdd, ← Nat.add_assoc] at q0 q1 q2 q3
  refine ⟨b, o, e, ?_⟩
  simp only [hr, List.getD_cons_zero, List.getD_cons_succ, Flat.iv]
  exact ⟨q0, q1, q2, q3⟩
end Go.Proofs.Ytkaglggljomgdaa

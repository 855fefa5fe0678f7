/- A slice of calls, and of numbers, as an argument. -/
import Derived.Test.YtekkblhghbkdiaaArgs
import Derived.Test.YtekkblhghbkdiaaP22
namespace Go.Proofs.Ytekkblhghbkdiaa
open Go.ChangeShapes Go.WideShapes Go.ChangeAt Go.RowKit
theorem num_leafs : Flat.Leafs Try.prog 3 [.i .i64] := Flat.leafs_int Try.underlying3 (by kernel_rfl)
theorem acts_in {w : World} {ao : Option Addr} {len : Nat} {rows : Nat → List Value} (h : Flat.Rows w [.i .i64, .i .i64, .i .i64] ao len rows) : ∃ z, Acts w ao len z := by
  refine ⟨fun j k => Flat.iv ((rows j).getD k (.bool false)), fun j hj => ?_⟩
  obtain ⟨hall, b, o, e, hcell⟩ := h j hj
  obtain ⟨x0, x1, x2, hr, w0, w1, w2⟩ := act_cells hall
  rw [hr] at hcell
  have q0 := hcell 0 _ rfl
  have q1 := hcell 1 _ rfl
  have q2 := hcell 2 _ rfl
  simp only [List.length_cons, List.length_nil, Nat.zero_add, Nat.add_zero, Nat.reduceAdd, ← Nat.add_assoc] at q0 q1 q2
  refine ⟨b, o, e, ?_⟩
  simp only [hr, List.getD_cons_zero, List.getD_cons_succ, Flat.iv]
  exact ⟨q0, q1, q2, w1⟩
theorem nums_in {w : World} {ao : Option Addr} {len : Nat} {rows : Nat → List Value} (h : Flat.Rows w [.i .i64] ao len rows) : ∃ y, Nums w ao len y := by
  refine ⟨fun j => Flat.iv ((rows j).getD 0 (.bool false)), fun j hj => ?_⟩
  obtain ⟨hall, b, o, e, hcell⟩ := h j hj
  cases hr : rows j with
  | nil => rw [hr] at hall; exact hall.elim
  | cons c l =>
    rw [hr] at hall hcell
    obtain ⟨⟨x0, rfl, w0⟩, hall⟩ := hall
    have q0 := hcell 0 _ rfl
    simp only [List.length_cons, List.length_nil, Nat.zero_add, Nat.add_zero, Nat.mul_one] at q0
    refine ⟨b, o, e, ?_⟩
    simp only [hr, List.getD_cons_zero, Flat.iv]
    exact ⟨q0, w0⟩
theorem u8_bounds {x : Int} (h : (Lit.int .u8 x).wf = true) : 0 ≤ x ∧ x ≤ 255 := by
  have hmin : IntKind.u8.min = 0 := rfl
  have hmax : IntKind.u8.max = 255 := rfl
  simp only [Lit.wf, Bool.and_eq_true, decide_eq_true_eq] at h
  omega
end Go.Proofs.Ytekkblhghbkdiaa

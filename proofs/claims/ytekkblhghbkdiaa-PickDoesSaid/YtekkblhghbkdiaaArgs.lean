/- The structs as arguments: their cells. -/
import Derived.Test.YtekkblhghbkdiaaFlat
import Derived.Test.YtekkblhghbkdiaaProg
import Derived.KernelRfl
namespace Go.Proofs.Ytekkblhghbkdiaa
open Go.ChangeShapes Go.WideShapes Go.ChangeAt Go.RowKit
theorem act_leafs : Flat.Leafs Try.prog 33 [.i .i64, .i .i64, .i .i64] := Flat.leafs_struct [[.i .i64], [.i .i64], [.i .i64]] Try.underlying33 (by kernel_rfl) ⟨rfl, Flat.leafs_int Try.underlying3 (by kernel_rfl), rfl, Flat.leafs_int Try.underlying3 (by kernel_rfl), rfl, Flat.leafs_int Try.underlying3 (by kernel_rfl), trivial⟩
theorem act_cells {cs : List Value} (h : Flat.All2 [.i .i64, .i .i64, .i .i64] cs) : ∃ (x0 : Int) (x1 : Int) (x2 : Int), cs = [.int .i64 x0, .int .i64 x1, .int .i64 x2] ∧ (Lit.int .i64 x0).wf = true ∧ (Lit.int .i64 x1).wf = true ∧ (Lit.int .i64 x2).wf = true := by
  cases cs with | nil => exact h.elim | cons c0 cs =>
  obtain ⟨⟨x0, rfl, w0⟩, h⟩ := h
  cases cs with | nil => exact h.elim | cons c1 cs =>
  obtain ⟨⟨x1, rfl, w1⟩, h⟩ := h
  cases cs with | nil => exact h.elim | cons c2 cs =>
  obtain ⟨⟨x2, rfl, w2⟩, h⟩ := h
  cases cs with | cons c cs => exact h.elim | nil =>
  exact ⟨x0, x1, x2, rfl, w0, w1, w2⟩
end Go.Proofs.Ytekkblhghbkdiaa

/- The structs as arguments: their cells. -/
import Derived.Test.YtdnnfoojdfmajaaFlat
import Derived.Test.YtdnnfoojdfmajaaProg
import Derived.KernelRfl
namespace Go.Proofs.Ytdnnfoojdfmajaa
open Go.ChangeShapes Go.WideShapes Go.ChangeAt Go.RowKit
theorem act_leafs : Flat.Leafs Try.prog 52 [.i .i64, .i .i64, .i .i64, .i .i64, .i .i64, .b] := Flat.leafs_struct [[.i .i64], [.i .i64], [.i .i64], [.i .i64], [.i .i64], [.b]] Try.underlying52 (by kernel_rfl) ⟨rfl, Flat.leafs_int Try.underlying3 (by kernel_rfl), rfl, Flat.leafs_int Try.underlying3 (by kernel_rfl), rfl, Flat.leafs_int Try.underlying3 (by kernel_rfl), rfl, Flat.leafs_int Try.underlying3 (by kernel_rfl), rfl, Flat.leafs_int Try.underlying3 (by kernel_rfl), rfl, Flat.leafs_bool Try.underlying4 (by kernel_rfl), trivial⟩
theorem act_cells {cs : List Value} (h : Flat.All2 [.i .i64, .i .i64, .i .i64, .i .i64, .i .i64, .b] cs) : ∃ (x0 : Int) (x1 : Int) (x2 : Int) (x3 : Int) (x4 : Int) (x5 : Bool), cs = [.int .i64 x0, .int .i64 x1, .int .i64 x2, .int .i64 x3, .int .i64 x4, .bool x5] ∧ (Lit.int .i64 x0).wf = true ∧ (Lit.int .i64 x1).wf = true ∧ (Lit.int .i64 x2).wf = true ∧ (Lit.int .i64 x3).wf = true ∧ (Lit.int .i64 x4).wf = true := by
  cases cs with | nil => exact h.elim | cons c0 cs =>
  obtain ⟨⟨x0, rfl, w0⟩, h⟩ := h
  cases cs with | nil => exact h.elim | cons c1 cs =>
  obtain ⟨⟨x1, rfl, w1⟩, h⟩ := h
  cases cs with | nil => exact h.elim | cons c2 cs =>
  obtain ⟨⟨x2, rfl, w2⟩, h⟩ := h
  cases cs with | nil => exact h.elim | cons c3 cs =>
  obtain ⟨⟨x3, rfl, w3⟩, h⟩ := h
  cases cs with | nil => exact h.elim | cons c4 cs =>
  obtain ⟨⟨x4, rfl, w4⟩, h⟩ := h
  cases cs with | nil => exact h.elim | cons c5 cs =>
  obtain ⟨⟨x5, rfl⟩, h⟩ := h
  cases cs with | cons c cs => exact h.elim | nil =>
  exact ⟨x0, x1, x2, x3, x4, x5, rfl, w0, w1, w2, w3, w4⟩
end Go.Proofs.Ytdnnfoojdfmajaa

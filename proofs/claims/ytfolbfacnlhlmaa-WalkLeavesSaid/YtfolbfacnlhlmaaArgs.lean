/- The structs as arguments: their cells. -/
import Derived.Test.YtfolbfacnlhlmaaFlat
import Derived.Test.YtfolbfacnlhlmaaProg
import Derived.KernelRfl
namespace Go.Proofs.Ytfolbfacnlhlmaa
open Go.ChangeShapes Go.WideShapes Go.ChangeAt Go.RowKit
theorem ent_leafs : Flat.Leafs Try.prog 24 [.i .i64, .b, .b, .b, .b, .b, .b] := Flat.leafs_struct [[.i .i64], [.b], [.b], [.b], [.b], [.b], [.b]] Try.underlying24 (by kernel_rfl) ⟨rfl, Flat.leafs_int Try.underlying3 (by kernel_rfl), rfl, Flat.leafs_bool Try.underlying4 (by kernel_rfl), rfl, Flat.leafs_bool Try.underlying4 (by kernel_rfl), rfl, Flat.leafs_bool Try.underlying4 (by kernel_rfl), rfl, Flat.leafs_bool Try.underlying4 (by kernel_rfl), rfl, Flat.leafs_bool Try.underlying4 (by kernel_rfl), rfl, Flat.leafs_bool Try.underlying4 (by kernel_rfl), trivial⟩
theorem laid_leafs : Flat.Leafs Try.prog 27 [.i .i64, .i .i64, .i .i64, .b, .b, .b, .b, .b, .b, .b, .i .u64] := Flat.leafs_struct [[.i .i64], [.i .i64], [.i .i64, .b, .b, .b, .b, .b, .b], [.b], [.i .u64]] Try.underlying27 (by kernel_rfl) ⟨rfl, Flat.leafs_int Try.underlying3 (by kernel_rfl), rfl, Flat.leafs_int Try.underlying3 (by kernel_rfl), rfl, ent_leafs, rfl, Flat.leafs_bool Try.underlying4 (by kernel_rfl), rfl, Flat.leafs_int Try.underlying25 (by kernel_rfl), trivial⟩
theorem laid_cells {cs : List Value} (h : Flat.All2 [.i .i64, .i .i64, .i .i64, .b, .b, .b, .b, .b, .b, .b, .i .u64] cs) : ∃ (x0 : Int) (x1 : Int) (x2 : Int) (x3 : Bool) (x4 : Bool) (x5 : Bool) (x6 : Bool) (x7 : Bool) (x8 : Bool) (x9 : Bool) (x10 : Int), cs = [.int .i64 x0, .int .i64 x1, .int .i64 x2, .bool x3, .bool x4, .bool x5, .bool x6, .bool x7, .bool x8, .bool x9, .int .u64 x10] ∧ (Lit.int .i64 x0).wf = true ∧ (Lit.int .i64 x1).wf = true ∧ (Lit.int .i64 x2).wf = true ∧ (Lit.int .u64 x10).wf = true := by
  cases cs with | nil => exact h.elim | cons c0 cs =>
  obtain ⟨⟨x0, rfl, w0⟩, h⟩ := h
  cases cs with | nil => exact h.elim | cons c1 cs =>
  obtain ⟨⟨x1, rfl, w1⟩, h⟩ := h
  cases cs with | nil => exact h.elim | cons c2 cs =>
  obtain ⟨⟨x2, rfl, w2⟩, h⟩ := h
  cases cs with | nil => exact h.elim | cons c3 cs =>
  obtain ⟨⟨x3, rfl⟩, h⟩ := h
  cases cs with | nil => exact h.elim | cons c4 cs =>
  obtain ⟨⟨x4, rfl⟩, h⟩ := h
  cases cs with | nil => exact h.elim | cons c5 cs =>
  obtain ⟨⟨x5, rfl⟩, h⟩ := h
  cases cs with | nil => exact h.elim | cons c6 cs =>
  obtain ⟨⟨x6, rfl⟩, h⟩ := h
  cases cs with | nil => exact h.elim | cons c7 cs =>
  obtain ⟨⟨x7, rfl⟩, h⟩ := h
  cases cs with | nil => exact h.elim | cons c8 cs =>
  obtain ⟨⟨x8, rfl⟩, h⟩ := h
  cases cs with | nil => exact h.elim | cons c9 cs =>
  obtain ⟨⟨x9, rfl⟩, h⟩ := h
  cases cs with | nil => exact h.elim | cons c10 cs =>
  obtain ⟨⟨x10, rfl, w10⟩, h⟩ := h
  cases cs with | cons c cs => exact h.elim | nil =>
  exact ⟨x0, x1, x2, x3, x4, x5, x6, x7, x8, x9, x10, rfl, w0, w1, w2, w10⟩
end Go.Proofs.Ytfolbfacnlhlmaa

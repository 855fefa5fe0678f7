/- The entry as an argument: its seven cells. -/
import Derived.Test.YtnbolfjijhbfbaaFlat
import Derived.Test.YtnbolfjijhbfbaaProg
import Derived.KernelRfl
namespace Go.Proofs.Ytnbolfjijhbfbaa
open Go.ChangeShapes Go.WideShapes Go.ChangeAt Go.RowKit
theorem ent_leafs : Flat.Leafs Try.prog 23 [.i .i64, .b, .b, .b, .b, .b, .b] := Flat.leafs_struct [[.i .i64], [.b], [.b], [.b], [.b], [.b], [.b]] Try.underlying23 (by kernel_rfl) ⟨rfl, Flat.leafs_int Try.underlying3 (by kernel_rfl), rfl, Flat.leafs_bool Try.underlying4 (by kernel_rfl), rfl, Flat.leafs_bool Try.underlying4 (by kernel_rfl), rfl, Flat.leafs_bool Try.underlying4 (by kernel_rfl), rfl, Flat.leafs_bool Try.underlying4 (by kernel_rfl), rfl, Flat.leafs_bool Try.underlying4 (by kernel_rfl), rfl, Flat.leafs_bool Try.underlying4 (by kernel_rfl), trivial⟩
theorem ent_cells {cs : List Value} (h : Flat.All2 [.i .i64, .b, .b, .b, .b, .b, .b] cs) : ∃ (x0 : Int) (x1 : Bool) (x2 : Bool) (x3 : Bool) (x4 : Bool) (x5 : Bool) (x6 : Bool), cs = [.int .i64 x0, .bool x1, .bool x2, .bool x3, .bool x4, .bool x5, .bool x6] ∧ (Lit.int .i64 x0).wf = true := by
  cases cs with | nil => exact h.elim | cons c0 cs =>
  obtain ⟨⟨x0, rfl, w0⟩, h⟩ := h
  cases cs with | nil => exact h.elim | cons c1 cs =>
  obtain ⟨⟨x1, rfl⟩, h⟩ := h
  cases cs with | nil => exact h.elim | cons c2 cs =>
  obtain ⟨⟨x2, rfl⟩, h⟩ := h
  cases cs with | nil => exact h.elim | cons c3 cs =>
  obtain ⟨⟨x3, rfl⟩, h⟩ := h
  cases cs with | nil => exact h.elim | cons c4 cs =>
  obtain ⟨⟨x4, rfl⟩, h⟩ := h
  cases cs with | nil => exact h.elim | cons c5 cs =>
  obtain ⟨⟨x5, rfl⟩, h⟩ := h
  cases cs with | nil => exact h.elim | cons c6 cs =>
  obtain ⟨⟨x6, rfl⟩, h⟩ := h
  cases cs with | cons c cs => exact h.elim | nil =>
  exact ⟨x0, x1, x2, x3, x4, x5, x6, rfl, w0⟩
/-- The bounds of a word. -/
theorem u64_bounds {x : Int} (h : (Lit.int .u64 x).wf = true) : 0 ≤ x ∧ x < 18446744073709551616 := by
  have hmin : IntKind.u64.min = 0 := rfl
  have hmax : IntKind.u64.max = 18446744073709551615 := rfl
  simp only [Lit.wf, Bool.and_eq_true, decide_eq_true_eq] at h
  omega
end Go.Proofs.Ytnbolfjijhbfbaa

/- The structs as arguments: their cells. -/
import Derived.Test.YtmjkcmpanoepgaaFlat
import Derived.Test.YtmjkcmpanoepgaaProg
import Derived.KernelRfl
namespace Go.Proofs.Ytmjkcmpanoepgaa
open Go.ChangeShapes Go.WideShapes Go.ChangeAt Go.RowKit
theorem act_leafs : Flat.Leafs Try.prog 44 [.i .i64, .i .i64, .i .i64, .i .i64, .i .u64] := Flat.leafs_struct [[.i .i64], [.i .i64], [.i .i64], [.i .i64], [.i .u64]] Try.underlying44 (by kernel_rfl) ⟨rfl, Flat.leafs_int Try.underlying3 (by kernel_rfl), rfl, Flat.leafs_int Try.underlying3 (by kernel_rfl), rfl, Flat.leafs_int Try.underlying3 (by kernel_rfl), rfl, Flat.leafs_int Try.underlying3 (by kernel_rfl), rfl, Flat.leafs_int Try.underlying22 (by kernel_rfl), trivial⟩
theorem act_cells {cs : List Value} (h : Flat.All2 [.i .i64, .i .i64, .i .i64, .i .i64, .i .u64] cs) : ∃ (x0 : Int) (x1 : Int) (x2 : Int) (x3 : Int) (x4 : Int), cs = [.int .i64 x0, .int .i64 x1, .int .i64 x2, .int .i64 x3, .int .u64 x4] ∧ (Lit.int .i64 x0).wf = true ∧ (Lit.int .i64 x1).wf = true ∧ (Lit.int .i64 x2).wf = true ∧ (Lit.int .i64 x3).wf = true ∧ (Lit.int .u64 x4).wf = true := by
  cases cs with | nil => exact h.elim | cons c0 cs =>
  obtain ⟨⟨x0, rfl, w0⟩, h⟩ := h
  cases cs with | nil => exact h.elim | cons c1 cs =>
  obtain ⟨⟨x1, rfl, w1⟩, h⟩ := h
  cases cs with | nil => exact h.elim | cons c2 cs =>
  obtain ⟨⟨x2, rfl, w2⟩, h⟩ := h
  cases cs with | nil => exact h.elim | cons c3 cs =>
  obtain ⟨⟨x3, rfl, w3⟩, h⟩ := h
  cases cs with | nil => exact h.elim | cons c4 cs =>
  obtain ⟨⟨x4, rfl, w4⟩, h⟩ := h
  cases cs with | cons c cs => exact h.elim | nil =>
  exact ⟨x0, x1, x2, x3, x4, rfl, w0, w1, w2, w3, w4⟩
theorem two_leafs : Flat.Leafs Try.prog 34 [.i .u16, .i .u16, .i .u64, .i .u64] := Flat.leafs_struct [[.i .u16], [.i .u16], [.i .u64], [.i .u64]] Try.underlying34 (by kernel_rfl) ⟨rfl, Flat.leafs_int Try.underlying32 (by kernel_rfl), rfl, Flat.leafs_int Try.underlying32 (by kernel_rfl), rfl, Flat.leafs_int Try.underlying22 (by kernel_rfl), rfl, Flat.leafs_int Try.underlying22 (by kernel_rfl), trivial⟩
theorem two_cells {cs : List Value} (h : Flat.All2 [.i .u16, .i .u16, .i .u64, .i .u64] cs) : ∃ (x0 : Int) (x1 : Int) (x2 : Int) (x3 : Int), cs = [.int .u16 x0, .int .u16 x1, .int .u64 x2, .int .u64 x3] ∧ (Lit.int .u16 x0).wf = true ∧ (Lit.int .u16 x1).wf = true ∧ (Lit.int .u64 x2).wf = true ∧ (Lit.int .u64 x3).wf = true := by
  cases cs with | nil => exact h.elim | cons c0 cs =>
  obtain ⟨⟨x0, rfl, w0⟩, h⟩ := h
  cases cs with | nil => exact h.elim | cons c1 cs =>
  obtain ⟨⟨x1, rfl, w1⟩, h⟩ := h
  cases cs with | nil => exact h.elim | cons c2 cs =>
  obtain ⟨⟨x2, rfl, w2⟩, h⟩ := h
  cases cs with | nil => exact h.elim | cons c3 cs =>
  obtain ⟨⟨x3, rfl, w3⟩, h⟩ := h
  cases cs with | cons c cs => exact h.elim | nil =>
  exact ⟨x0, x1, x2, x3, rfl, w0, w1, w2, w3⟩

theorem u64_bounds {x : Int} (h : (Lit.int .u64 x).wf = true) : 0 ≤ x ∧ x < 18446744073709551616 := by
  have hmin : IntKind.u64.min = 0 := rfl
  have hmax : IntKind.u64.max = 18446744073709551615 := rfl
  simp only [Lit.wf, Bool.and_eq_true, decide_eq_true_eq] at h
  omega
theorem u16_bounds {x : Int} (h : (Lit.int .u16 x).wf = true) : 0 ≤ x ∧ x ≤ 65535 := by
  have hmin : IntKind.u16.min = 0 := rfl
  have hmax : IntKind.u16.max = 65535 := rfl
  simp only [Lit.wf, Bool.and_eq_true, decide_eq_true_eq] at h
  omega
theorem u8_bounds {x : Int} (h : (Lit.int .u8 x).wf = true) : 0 ≤ x ∧ x ≤ 255 := by
  have hmin : IntKind.u8.min = 0 := rfl
  have hmax : IntKind.u8.max = 255 := rfl
  simp only [Lit.wf, Bool.and_eq_true, decide_eq_true_eq] at h
  omega
theorem i64_bounds {x : Int} (h : (Lit.int .i64 x).wf = true) : -9223372036854775808 ≤ x ∧ x < 9223372036854775808 := by
  have hmin : IntKind.i64.min = -9223372036854775808 := rfl
  have hmax : IntKind.i64.max = 9223372036854775807 := rfl
  simp only [Lit.wf, Bool.and_eq_true, decide_eq_true_eq] at h
  omega
end Go.Proofs.Ytmjkcmpanoepgaa

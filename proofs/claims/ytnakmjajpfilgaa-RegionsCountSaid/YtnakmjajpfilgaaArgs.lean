/- The structs as arguments: their cells. -/
import Derived.Test.YtnakmjajpfilgaaFlat
import Derived.Test.YtnakmjajpfilgaaD13
import Derived.KernelRfl
namespace Go.Proofs.Ytnakmjajpfilgaa
open Go.ChangeShapes Go.WideShapes Go.ChangeAt Go.RowKit
theorem act_leafs : Flat.Leafs Try.prog 40 [.i .i64, .i .i64, .i .i64] := Flat.leafs_struct [[.i .i64], [.i .i64], [.i .i64]] Try.underlying40 (by kernel_rfl) ⟨rfl, Flat.leafs_int Try.underlying3 (by kernel_rfl), rfl, Flat.leafs_int Try.underlying3 (by kernel_rfl), rfl, Flat.leafs_int Try.underlying3 (by kernel_rfl), trivial⟩
theorem act_cells {cs : List Value} (h : Flat.All2 [.i .i64, .i .i64, .i .i64] cs) : ∃ (x0 : Int) (x1 : Int) (x2 : Int), cs = [.int .i64 x0, .int .i64 x1, .int .i64 x2] ∧ (Lit.int .i64 x0).wf = true ∧ (Lit.int .i64 x1).wf = true ∧ (Lit.int .i64 x2).wf = true := by
  cases cs with | nil => exact h.elim | cons c0 cs =>
  obtain ⟨⟨x0, rfl, w0⟩, h⟩ := h
  cases cs with | nil => exact h.elim | cons c1 cs =>
  obtain ⟨⟨x1, rfl, w1⟩, h⟩ := h
  cases cs with | nil => exact h.elim | cons c2 cs =>
  obtain ⟨⟨x2, rfl, w2⟩, h⟩ := h
  cases cs with | cons c cs => exact h.elim | nil =>
  exact ⟨x0, x1, x2, rfl, w0, w1, w2⟩
theorem acts_in {w : World} {ao : Option Addr} {len : Nat} {rows : Nat → List Value} (h : Flat.Rows w [.i .i64, .i .i64, .i .i64] ao len rows) : ∃ z, Acts w ao len z := by
  refine ⟨fun j k => Flat.iv ((rows j).getD k (.bool false)), fun j hj => ?_⟩
  obtain ⟨hall, b, o, e, hcell⟩ := h j hj
  obtain ⟨x0, x1, x2, hr, w0, w1, w2⟩ := act_cells hall
  rw [hr] at hcell
  have q0 := hcell 0 _ rfl
  have q1 := hcell 1 _ rfl
  have q2 := hcell 2 _ rfl
  simp only [List.length_cons, List.length_nil, Nat.zero_add, Nat.add_zero, Nat.reduceAdd, ← Nat.add_assoc] at q0 q1 q2
  refine ⟨b, o, e, ?_⟩
  simp only [hr, List.getD_cons_zero, List.getD_cons_succ, Flat.iv]
  exact ⟨q0, q1, q2⟩
end Go.Proofs.Ytnakmjajpfilgaa

/- Parts of the proofs of layer 7 (walk): contracts of its functions, and the laws' walks. -/
import Derived.Test.YtfolbfacnlhlmaaProg
import Derived.WalkKit
import Derived.WalkSpells
import Derived.WalkLawsBesides
import Derived.BigQuiet
import Derived.Deep.QuietTactic
import Derived.Lib.Hide
import Derived.Deep.RegionHeld3
import Derived.Deep.DeepCutAuto
import Derived.KernelRfl
import Derived.Deep.OwnRows
import Derived.Laws.CopyOwn
import Derived.Laws.CopyRow
import Derived.StillTailTactics
import Derived.Deep.RegionLaw
import Derived.WalkMore
import Derived.Test.YtfolbfacnlhlmaaW6
namespace Go.Proofs.Ytfolbfacnlhlmaa
open Go.RowKit
set_option linter.unusedVariables false
set_option linter.unusedSimpArgs false

theorem row9 {w : World} {B : Nat} {c0 c1 c2 c3 c4 c5 c6 c7 c8 : Value} {t : TypeId} (h : w.heap[B]? = some (.cells #[c0, c1, c2, c3, c4, c5, c6, c7, c8] t (0, 0))) :
    w.cell? ⟨B, 0, none⟩ = some c0 ∧ w.cell? ⟨B, 1, none⟩ = some c1 ∧ w.cell? ⟨B, 2, none⟩ = some c2 ∧ w.cell? ⟨B, 3, none⟩ = some c3 ∧ w.cell? ⟨B, 4, none⟩ = some c4 ∧ w.cell? ⟨B, 5, none⟩ = some c5 ∧ w.cell? ⟨B, 6, none⟩ = some c6 ∧ w.cell? ⟨B, 7, none⟩ = some c7 ∧ w.cell? ⟨B, 8, none⟩ = some c8 :=
  ⟨cell_of_row w B 0 _ t _ h, cell_of_row w B 1 _ t _ h, cell_of_row w B 2 _ t _ h, cell_of_row w B 3 _ t _ h, cell_of_row w B 4 _ t _ h, cell_of_row w B 5 _ t _ h, cell_of_row w B 6 _ t _ h, cell_of_row w B 7 _ t _ h, cell_of_row w B 8 _ t _ h⟩
theorem row7 {w : World} {B : Nat} {c0 c1 c2 c3 c4 c5 c6 : Value} {t : TypeId} (h : w.heap[B]? = some (.cells #[c0, c1, c2, c3, c4, c5, c6] t (0, 0))) :
    w.cell? ⟨B, 0, none⟩ = some c0 ∧ w.cell? ⟨B, 1, none⟩ = some c1 ∧ w.cell? ⟨B, 2, none⟩ = some c2 ∧ w.cell? ⟨B, 3, none⟩ = some c3 ∧ w.cell? ⟨B, 4, none⟩ = some c4 ∧ w.cell? ⟨B, 5, none⟩ = some c5 ∧ w.cell? ⟨B, 6, none⟩ = some c6 :=
  ⟨cell_of_row w B 0 _ t _ h, cell_of_row w B 1 _ t _ h, cell_of_row w B 2 _ t _ h, cell_of_row w B 3 _ t _ h, cell_of_row w B 4 _ t _ h, cell_of_row w B 5 _ t _ h, cell_of_row w B 6 _ t _ h⟩
theorem Sq.set_low {w : World} {e : TypeId} {sz : Nat} {v : Value} {n c i m : Nat} {u : Value} {xs : List Value} (hl : ∀ b, b ∈ vblk v → m ≤ b) (hc : c < m) (h : Sq w e sz v n xs) : Sq (w.setCell ⟨c, i, none⟩ u) e sz v n xs :=
  h.of_blocks fun b hb => Below.heap_setCell _ _ _ _ (show b ≠ c by have := hl b hb; omega)
theorem st9_cells {w : World} {B : Nat} {c0 c1 c2 c3 c4 c5 c6 c7 c8 d0 d1 d2 d3 d4 d5 d6 d7 d8 : Value} (k0 : w.cell? ⟨B, 0, none⟩ = some d0) (k1 : w.cell? ⟨B, 1, none⟩ = some d1) (k2 : w.cell? ⟨B, 2, none⟩ = some d2) (k3 : w.cell? ⟨B, 3, none⟩ = some d3) (k4 : w.cell? ⟨B, 4, none⟩ = some d4) (k5 : w.cell? ⟨B, 5, none⟩ = some d5) (k6 : w.cell? ⟨B, 6, none⟩ = some d6) (k7 : w.cell? ⟨B, 7, none⟩ = some d7) (k8 : w.cell? ⟨B, 8, none⟩ = some d8) : (((((((((w.setCell ⟨B, 0, none⟩ c0).setCell ⟨B, 1, none⟩ c1).setCell ⟨B, 2, none⟩ c2).setCell ⟨B, 3, none⟩ c3).setCell ⟨B, 4, none⟩ c4).setCell ⟨B, 5, none⟩ c5).setCell ⟨B, 6, none⟩ c6).setCell ⟨B, 7, none⟩ c7).setCell ⟨B, 8, none⟩ c8).cell? ⟨B, 0, none⟩ = some c0 ∧ (((((((((w.setCell ⟨B, 0, none⟩ c0).setCell ⟨B, 1, none⟩ c1).setCell ⟨B, 2, none⟩ c2).setCell ⟨B, 3, none⟩ c3).setCell ⟨B, 4, none⟩ c4).setCell ⟨B, 5, none⟩ c5).setCell ⟨B, 6, none⟩ c6).setCell ⟨B, 7, none⟩ c7).setCell ⟨B, 8, none⟩ c8).cell? ⟨B, 1, none⟩ = some c1 ∧ (((((((((w.setCell ⟨B, 0, none⟩ c0).setCell ⟨B, 1, none⟩ c1).setCell ⟨B, 2, none⟩ c2).setCell ⟨B, 3, none⟩ c3).setCell ⟨B, 4, none⟩ c4).setCell ⟨B, 5, none⟩ c5).setCell ⟨B, 6, none⟩ c6).setCell ⟨B, 7, none⟩ c7).setCell ⟨B, 8, none⟩ c8).cell? ⟨B, 2, none⟩ = some c2 ∧ (((((((((w.setCell ⟨B, 0, none⟩ c0).setCell ⟨B, 1, none⟩ c1).setCell ⟨B, 2, none⟩ c2).setCell ⟨B, 3, none⟩ c3).setCell ⟨B, 4, none⟩ c4).setCell ⟨B, 5, none⟩ c5).setCell ⟨B, 6, none⟩ c6).setCell ⟨B, 7, none⟩ c7).setCell ⟨B, 8, none⟩ c8).cell? ⟨B, 3, none⟩ = some c3 ∧ (((((((((w.setCell ⟨B, 0, none⟩ c0).setCell ⟨B, 1, none⟩ c1).setCell ⟨B, 2, none⟩ c2).setCell ⟨B, 3, none⟩ c3).setCell ⟨B, 4, none⟩ c4).setCell ⟨B, 5, none⟩ c5).setCell ⟨B, 6, none⟩ c6).setCell ⟨B, 7, none⟩ c7).setCell ⟨B, 8, none⟩ c8).cell? ⟨B, 4, none⟩ = some c4 ∧ (((((((((w.setCell ⟨B, 0, none⟩ c0).setCell ⟨B, 1, none⟩ c1).setCell ⟨B, 2, none⟩ c2).setCell ⟨B, 3, none⟩ c3).setCell ⟨B, 4, none⟩ c4).setCell ⟨B, 5, none⟩ c5).setCell ⟨B, 6, none⟩ c6).setCell ⟨B, 7, none⟩ c7).setCell ⟨B, 8, none⟩ c8).cell? ⟨B, 5, none⟩ = some c5 ∧ (((((((((w.setCell ⟨B, 0, none⟩ c0).setCell ⟨B, 1, none⟩ c1).setCell ⟨B, 2, none⟩ c2).setCell ⟨B, 3, none⟩ c3).setCell ⟨B, 4, none⟩ c4).setCell ⟨B, 5, none⟩ c5).setCell ⟨B, 6, none⟩ c6).setCell ⟨B, 7, none⟩ c7).setCell ⟨B, 8, none⟩ c8).cell? ⟨B, 6, none⟩ = some c6 ∧ (((((((((w.setCell ⟨B, 0, none⟩ c0).setCell ⟨B, 1, none⟩ c1).setCell ⟨B, 2, none⟩ c2).setCell ⟨B, 3, none⟩ c3).setCell ⟨B, 4, none⟩ c4).setCell ⟨B, 5, none⟩ c5).setCell ⟨B, 6, none⟩ c6).setCell ⟨B, 7, none⟩ c7).setCell ⟨B, 8, none⟩ c8).cell? ⟨B, 7, none⟩ = some c7 ∧ (((((((((w.setCell ⟨B, 0, none⟩ c0).setCell ⟨B, 1, none⟩ c1).setCell ⟨B, 2, none⟩ c2).setCell ⟨B, 3, none⟩ c3).setCell ⟨B, 4, none⟩ c4).setCell ⟨B, 5, none⟩ c5).setCell ⟨B, 6, none⟩ c6).setCell ⟨B, 7, none⟩ c7).setCell ⟨B, 8, none⟩ c8).cell? ⟨B, 8, none⟩ = some c8 := by
  refine ⟨?_, ?_, ?_, ?_, ?_, ?_, ?_, ?_, ?_⟩ <;> simp [go_sem, k0, k1, k2, k3, k4, k5, k6, k7, k8]
theorem st9_below {C : Nat} {u w : World} {B : Nat} {c0 c1 c2 c3 c4 c5 c6 c7 c8 : Value} (h : Below C u w) (hb : C ≤ B) : Below C u (((((((((w.setCell ⟨B, 0, none⟩ c0).setCell ⟨B, 1, none⟩ c1).setCell ⟨B, 2, none⟩ c2).setCell ⟨B, 3, none⟩ c3).setCell ⟨B, 4, none⟩ c4).setCell ⟨B, 5, none⟩ c5).setCell ⟨B, 6, none⟩ c6).setCell ⟨B, 7, none⟩ c7).setCell ⟨B, 8, none⟩ c8) := (Below.setCell (Below.setCell (Below.setCell (Below.setCell (Below.setCell (Below.setCell (Below.setCell (Below.setCell (Below.setCell h hb _) hb _) hb _) hb _) hb _) hb _) hb _) hb _) hb _)
theorem st9_sq {w : World} {e : TypeId} {sz : Nat} {v : Value} {n m B : Nat} {xs : List Value} {c0 c1 c2 c3 c4 c5 c6 c7 c8 : Value} (hl : ∀ b, b ∈ vblk v → m ≤ b) (hc : B < m) (h : Sq w e sz v n xs) : Sq (((((((((w.setCell ⟨B, 0, none⟩ c0).setCell ⟨B, 1, none⟩ c1).setCell ⟨B, 2, none⟩ c2).setCell ⟨B, 3, none⟩ c3).setCell ⟨B, 4, none⟩ c4).setCell ⟨B, 5, none⟩ c5).setCell ⟨B, 6, none⟩ c6).setCell ⟨B, 7, none⟩ c7).setCell ⟨B, 8, none⟩ c8) e sz v n xs := (Sq.set_low hl hc (Sq.set_low hl hc (Sq.set_low hl hc (Sq.set_low hl hc (Sq.set_low hl hc (Sq.set_low hl hc (Sq.set_low hl hc (Sq.set_low hl hc (Sq.set_low hl hc h)))))))))
theorem st9_other {w : World} {D : Nat} {d0 d1 d2 d3 d4 d5 d6 d7 d8 : Value} {B i : Nat} (h : B ≠ D) : (((((((((w.setCell ⟨D, 0, none⟩ d0).setCell ⟨D, 1, none⟩ d1).setCell ⟨D, 2, none⟩ d2).setCell ⟨D, 3, none⟩ d3).setCell ⟨D, 4, none⟩ d4).setCell ⟨D, 5, none⟩ d5).setCell ⟨D, 6, none⟩ d6).setCell ⟨D, 7, none⟩ d7).setCell ⟨D, 8, none⟩ d8).cell? ⟨B, i, none⟩ = w.cell? ⟨B, i, none⟩ := by
  refine World.cell?_of_block (w := w) ?_
  iterate 9 rw [Below.heap_setCell _ _ _ _ (show B ≠ D from h)]
theorem st99_cells {w : World} {B D : Nat} {c0 c1 c2 c3 c4 c5 c6 c7 c8 d0 d1 d2 d3 d4 d5 d6 d7 d8 x0 x1 x2 x3 x4 x5 x6 x7 x8 : Value} (k0 : w.cell? ⟨B, 0, none⟩ = some x0) (k1 : w.cell? ⟨B, 1, none⟩ = some x1) (k2 : w.cell? ⟨B, 2, none⟩ = some x2) (k3 : w.cell? ⟨B, 3, none⟩ = some x3) (k4 : w.cell? ⟨B, 4, none⟩ = some x4) (k5 : w.cell? ⟨B, 5, none⟩ = some x5) (k6 : w.cell? ⟨B, 6, none⟩ = some x6) (k7 : w.cell? ⟨B, 7, none⟩ = some x7) (k8 : w.cell? ⟨B, 8, none⟩ = some x8) (h : B ≠ D) : ((((((((((((((((((w.setCell ⟨D, 0, none⟩ d0).setCell ⟨D, 1, none⟩ d1).setCell ⟨D, 2, none⟩ d2).setCell ⟨D, 3, none⟩ d3).setCell ⟨D, 4, none⟩ d4).setCell ⟨D, 5, none⟩ d5).setCell ⟨D, 6, none⟩ d6).setCell ⟨D, 7, none⟩ d7).setCell ⟨D, 8, none⟩ d8).setCell ⟨B, 0, none⟩ c0).setCell ⟨B, 1, none⟩ c1).setCell ⟨B, 2, none⟩ c2).setCell ⟨B, 3, none⟩ c3).setCell ⟨B, 4, none⟩ c4).setCell ⟨B, 5, none⟩ c5).setCell ⟨B, 6, none⟩ c6).setCell ⟨B, 7, none⟩ c7).setCell ⟨B, 8, none⟩ c8).cell? ⟨B, 0, none⟩ = some c0 ∧ ((((((((((((((((((w.setCell ⟨D, 0, none⟩ d0).setCell ⟨D, 1, none⟩ d1).setCell ⟨D, 2, none⟩ d2).setCell ⟨D, 3, none⟩ d3).setCell ⟨D, 4, none⟩ d4).setCell ⟨D, 5, none⟩ d5).setCell ⟨D, 6, none⟩ d6).setCell ⟨D, 7, none⟩ d7).setCell ⟨D, 8, none⟩ d8).setCell ⟨B, 0, none⟩ c0).setCell ⟨B, 1, none⟩ c1).setCell ⟨B, 2, none⟩ c2).setCell ⟨B, 3, none⟩ c3).setCell ⟨B, 4, none⟩ c4).setCell ⟨B, 5, none⟩ c5).setCell ⟨B, 6, none⟩ c6).setCell ⟨B, 7, none⟩ c7).setCell ⟨B, 8, none⟩ c8).cell? ⟨B, 1, none⟩ = some c1 ∧ ((((((((((((((((((w.setCell ⟨D, 0, none⟩ d0).setCell ⟨D, 1, none⟩ d1).setCell ⟨D, 2, none⟩ d2).setCell ⟨D, 3, none⟩ d3).setCell ⟨D, 4, none⟩ d4).setCell ⟨D, 5, none⟩ d5).setCell ⟨D, 6, none⟩ d6).setCell ⟨D, 7, none⟩ d7).setCell ⟨D, 8, none⟩ d8).setCell ⟨B, 0, none⟩ c0).setCell ⟨B, 1, none⟩ c1).setCell ⟨B, 2, none⟩ c2).setCell ⟨B, 3, none⟩ c3).setCell ⟨B, 4, none⟩ c4).setCell ⟨B, 5, none⟩ c5).setCell ⟨B, 6, none⟩ c6).setCell ⟨B, 7, none⟩ c7).setCell ⟨B, 8, none⟩ c8).cell? ⟨B, 2, none⟩ = some c2 ∧ ((((((((((((((((((w.setCell ⟨D, 0, none⟩ d0).setCell ⟨D, 1, none⟩ d1).setCell ⟨D, 2, none⟩ d2).setCell ⟨D, 3, none⟩ d3).setCell ⟨D, 4, none⟩ d4).setCell ⟨D, 5, none⟩ d5).setCell ⟨D, 6, none⟩ d6).setCell ⟨D, 7, none⟩ d7).setCell ⟨D, 8, none⟩ d8).setCell ⟨B, 0, none⟩ c0).setCell ⟨B, 1, none⟩ c1).setCell ⟨B, 2, none⟩ c2).setCell ⟨B, 3, none⟩ c3).setCell ⟨B, 4, none⟩ c4).setCell ⟨B, 5, none⟩ c5).setCell ⟨B, 6, none⟩ c6).setCell ⟨B, 7, none⟩ c7).setCell ⟨B, 8, none⟩ c8).cell? ⟨B, 3, none⟩ = some c3 ∧ ((((((((((((((((((w.setCell ⟨D, 0, none⟩ d0).setCell ⟨D, 1, none⟩ d1).setCell ⟨D, 2, none⟩ d2).setCell ⟨D, 3, none⟩ d3).setCell ⟨D, 4, none⟩ d4).setCell ⟨D, 5, none⟩ d5).setCell ⟨D, 6, none⟩ d6).setCell ⟨D, 7, none⟩ d7).setCell ⟨D, 8, none⟩ d8).setCell ⟨B, 0, none⟩ c0).setCell ⟨B, 1, none⟩ c1).setCell ⟨B, 2, none⟩ c2).setCell ⟨B, 3, none⟩ c3).setCell ⟨B, 4, none⟩ c4).setCell ⟨B, 5, none⟩ c5).setCell ⟨B, 6, none⟩ c6).setCell ⟨B, 7, none⟩ c7).setCell ⟨B, 8, none⟩ c8).cell? ⟨B, 4, none⟩ = some c4 ∧ ((((((((((((((((((w.setCell ⟨D, 0, none⟩ d0).setCell ⟨D, 1, none⟩ d1).setCell ⟨D, 2, none⟩ d2).setCell ⟨D, 3, none⟩ d3).setCell ⟨D, 4, none⟩ d4).setCell ⟨D, 5, none⟩ d5).setCell ⟨D, 6, none⟩ d6).setCell ⟨D, 7, none⟩ d7).setCell ⟨D, 8, none⟩ d8).setCell ⟨B, 0, none⟩ c0).setCell ⟨B, 1, none⟩ c1).setCell ⟨B, 2, none⟩ c2).setCell ⟨B, 3, none⟩ c3).setCell ⟨B, 4, none⟩ c4).setCell ⟨B, 5, none⟩ c5).setCell ⟨B, 6, none⟩ c6).setCell ⟨B, 7, none⟩ c7).setCell ⟨B, 8, none⟩ c8).cell? ⟨B, 5, none⟩ = some c5 ∧ ((((((((((((((((((w.setCell ⟨D, 0, none⟩ d0).setCell ⟨D, 1, none⟩ d1).setCell ⟨D, 2, none⟩ d2).setCell ⟨D, 3, none⟩ d3).setCell ⟨D, 4, none⟩ d4).setCell ⟨D, 5, none⟩ d5).setCell ⟨D, 6, none⟩ d6).setCell ⟨D, 7, none⟩ d7).setCell ⟨D, 8, none⟩ d8).setCell ⟨B, 0, none⟩ c0).setCell ⟨B, 1, none⟩ c1).setCell ⟨B, 2, none⟩ c2).setCell ⟨B, 3, none⟩ c3).setCell ⟨B, 4, none⟩ c4).setCell ⟨B, 5, none⟩ c5).setCell ⟨B, 6, none⟩ c6).setCell ⟨B, 7, none⟩ c7).setCell ⟨B, 8, none⟩ c8).cell? ⟨B, 6, none⟩ = some c6 ∧ ((((((((((((((((((w.setCell ⟨D, 0, none⟩ d0).setCell ⟨D, 1, none⟩ d1).setCell ⟨D, 2, none⟩ d2).setCell ⟨D, 3, none⟩ d3).setCell ⟨D, 4, none⟩ d4).setCell ⟨D, 5, none⟩ d5).setCell ⟨D, 6, none⟩ d6).setCell ⟨D, 7, none⟩ d7).setCell ⟨D, 8, none⟩ d8).setCell ⟨B, 0, none⟩ c0).setCell ⟨B, 1, none⟩ c1).setCell ⟨B, 2, none⟩ c2).setCell ⟨B, 3, none⟩ c3).setCell ⟨B, 4, none⟩ c4).setCell ⟨B, 5, none⟩ c5).setCell ⟨B, 6, none⟩ c6).setCell ⟨B, 7, none⟩ c7).setCell ⟨B, 8, none⟩ c8).cell? ⟨B, 7, none⟩ = some c7 ∧ ((((((((((((((((((w.setCell ⟨D, 0, none⟩ d0).setCell ⟨D, 1, none⟩ d1).setCell ⟨D, 2, none⟩ d2).setCell ⟨D, 3, none⟩ d3).setCell ⟨D, 4, none⟩ d4).setCell ⟨D, 5, none⟩ d5).setCell ⟨D, 6, none⟩ d6).setCell ⟨D, 7, none⟩ d7).setCell ⟨D, 8, none⟩ d8).setCell ⟨B, 0, none⟩ c0).setCell ⟨B, 1, none⟩ c1).setCell ⟨B, 2, none⟩ c2).setCell ⟨B, 3, none⟩ c3).setCell ⟨B, 4, none⟩ c4).setCell ⟨B, 5, none⟩ c5).setCell ⟨B, 6, none⟩ c6).setCell ⟨B, 7, none⟩ c7).setCell ⟨B, 8, none⟩ c8).cell? ⟨B, 8, none⟩ = some c8 :=
  st9_cells (w := (((((((((w.setCell ⟨D, 0, none⟩ d0).setCell ⟨D, 1, none⟩ d1).setCell ⟨D, 2, none⟩ d2).setCell ⟨D, 3, none⟩ d3).setCell ⟨D, 4, none⟩ d4).setCell ⟨D, 5, none⟩ d5).setCell ⟨D, 6, none⟩ d6).setCell ⟨D, 7, none⟩ d7).setCell ⟨D, 8, none⟩ d8)) ((st9_other h).trans k0) ((st9_other h).trans k1) ((st9_other h).trans k2) ((st9_other h).trans k3) ((st9_other h).trans k4) ((st9_other h).trans k5) ((st9_other h).trans k6) ((st9_other h).trans k7) ((st9_other h).trans k8)
theorem below_drewX {B : Nat} {a w : World} (h : Below B a w) : Below B a w.drew := ⟨h.os, h.tape, h.output, h.size, h.block⟩
theorem RI_of {w : World} {v : Value} {n : Nat} {zs : List Int} (h : Sq w 3 1 v n (nm zs)) (hn : zs.length = n) : RI w v zs := by
  subst hn; exact RV.of_own h
theorem res26 (tmps : Array Value) (w : World) (B : Nat) (c0 c1 c2 c3 c4 c5 c6 c7 c8 v7 v8 v9 : Value) (h6 : tmps[6]?.getD undef = .pointer (some ⟨B, 0, none⟩)) (h7 : tmps[7]?.getD undef = v7) (h8 : tmps[8]?.getD undef = v8) (h9 : tmps[9]?.getD undef = v9) (k0 : w.cell? ⟨B, 0, none⟩ = some c0) (k1 : w.cell? ⟨B, 1, none⟩ = some c1) (k2 : w.cell? ⟨B, 2, none⟩ = some c2) (k3 : w.cell? ⟨B, 3, none⟩ = some c3) (k4 : w.cell? ⟨B, 4, none⟩ = some c4) (k5 : w.cell? ⟨B, 5, none⟩ = some c5) (k6 : w.cell? ⟨B, 6, none⟩ = some c6) (k7 : w.cell? ⟨B, 7, none⟩ = some c7) (k8 : w.cell? ⟨B, 8, none⟩ = some c8) : (results Try.f26 tmps).run Try.prog w = .ok (.tuple #[.agg #[c0, c1, c2, c3, c4, c5, c6, c7, c8], v7, v8, v9]) w := by
  simp [results, Try.results26, go_sem, h6, h7, h8, h9, k0, k1, k2, k3, k4, k5, k6, k7, k8]
theorem res26d (tmps : Array Value) (w : World) (B : Nat) (c0 c1 c2 c3 c4 c5 c6 c7 c8 v7 v8 v9 : Value) (h6 : tmps[6]?.getD undef = .pointer (some ⟨B, 0, none⟩)) (h7 : tmps[7]?.getD undef = v7) (h8 : tmps[8]?.getD undef = v8) (h9 : tmps[9]?.getD undef = v9) (k0 : w.cell? ⟨B, 0, none⟩ = some c0) (k1 : w.cell? ⟨B, 1, none⟩ = some c1) (k2 : w.cell? ⟨B, 2, none⟩ = some c2) (k3 : w.cell? ⟨B, 3, none⟩ = some c3) (k4 : w.cell? ⟨B, 4, none⟩ = some c4) (k5 : w.cell? ⟨B, 5, none⟩ = some c5) (k6 : w.cell? ⟨B, 6, none⟩ = some c6) (k7 : w.cell? ⟨B, 7, none⟩ = some c7) (k8 : w.cell? ⟨B, 8, none⟩ = some c8) : (results Try.f26 tmps).run Try.prog w.drew = .ok (.tuple #[.agg #[c0, c1, c2, c3, c4, c5, c6, c7, c8], v7, v8, v9]) w.drew :=
  res26 tmps w.drew B c0 c1 c2 c3 c4 c5 c6 c7 c8 v7 v8 v9 h6 h7 h8 h9 k0 k1 k2 k3 k4 k5 k6 k7 k8
theorem ok_p {x : Int} (h : E.unok x = true) (h0 : x ≠ 0) (h9 : E.tb x 9 = false) : E.tb x 0 = true := by
  have hr := ok_fr h
  have h' := h
  simp only [E.unok, Bool.and_eq_true, beq_iff_eq] at h
  have hc := h.1.2
  unfold E.unc E.chk at hc
  rw [if_neg (by omega), if_neg (by omega), h9] at hc
  cases h0' : E.tb x 0
  · exfalso
    rw [h0'] at hc
    simp only [Bool.false_eq_true, if_false] at hc
    by_cases hz : x / 4096 = 0
    · rw [if_pos hz] at hc
      refine ok_nz h' h0 ⟨hz, h0', ?_, ?_, h9, ?_, ?_⟩ <;> revert hc <;> cases E.tb x 1 <;> cases E.tb x 7 <;> cases E.tb x 5 <;> cases E.tb x 6 <;> simp
    · rw [if_neg hz] at hc; omega
  · rfl
theorem dwn_le (page o : Int) (hp : 0 ≤ page ∧ page < 4096) : 0 ≤ G.dwn page o ∧ G.dwn page o ≤ page := by
  unfold G.dwn
  split
  · rename_i ho
    have ho' : 0 ≤ o ∧ o ≤ 8 := by simpa [G.ord] using ho
    have : 1 ≤ G.two o := by
      have hc : o = 0 ∨ o = 1 ∨ o = 2 ∨ o = 3 ∨ o = 4 ∨ o = 5 ∨ o = 6 ∨ o = 7 ∨ o = 8 := by omega
      rcases hc with rfl | rfl | rfl | rfl | rfl | rfl | rfl | rfl | rfl <;> decide
    have h1 := Int.emod_nonneg page (show G.two o ≠ 0 by omega)
    have h2 : page % G.two o + G.two o * (page / G.two o) = page := by first | exact Int.emod_add_mul_ediv page _ | exact Int.emod_add_ediv page _
    have h3 : 0 ≤ G.two o * (page / G.two o) := Int.mul_nonneg (by omega) (Int.ediv_nonneg hp.1 (by omega))
    omega
  · omega
theorem thr_form {n : Nat} {fr o : Int} {r : WR} (h : thr n fr o = false) : (if thr n fr o = false then FORM else r) = FORM := if_pos h
theorem thr_leaf {n : Nat} {fr o : Int} {q : Prop} [Decidable q] {r s : WR} (h : thr n fr o = true) (hq : q := by decide) : (if thr n fr o = false then FORM else if q then r else s) = r := by rw [if_neg (by rw [h]; decide), if_pos hq]
theorem thr_next {n : Nat} {fr o : Int} {q : Prop} [Decidable q] {r s : WR} (h : thr n fr o = true) (hq : ¬ q := by decide) : (if thr n fr o = false then FORM else if q then r else s) = s := by rw [if_neg (by rw [h]; decide), if_neg hq]
theorem LVF : LV FORM.x FORM.lev FORM.frm = .agg #[.int .i64 0, .bool false, .bool false, .bool false, .bool false, .bool false, .bool false, .int .i64 0, .int .i64 0] := by unfold FORM; exact LV0
theorem LVN (P : List Int) : LV (WR.mk 0 0 0 0 6 P).x (WR.mk 0 0 0 0 6 P).lev (WR.mk 0 0 0 0 6 P).frm = .agg #[.int .i64 0, .bool false, .bool false, .bool false, .bool false, .bool false, .bool false, .int .i64 0, .int .i64 0] := LV0
theorem ent_yes' {x : Int} (h : E.unok x = true) : E.unEnt x = .agg #[.int .i64 (x / 4096), .bool (E.tb x 0), .bool (E.tb x 1), .bool (E.tb x 7), .bool (E.tb x 9), .bool (E.tb x 5), .bool (E.tb x 6)] := E.ent_yes h
theorem une_yes' {x : Int} (h : E.unok x = true) : E.une x = 0 := E.une_yes h
theorem ent_no' {x : Int} (h : E.unok x = false) : E.unEnt x = .agg #[.int .i64 0, .bool false, .bool false, .bool false, .bool false, .bool false, .bool false] := E.ent_no h
theorem une_no' {x : Int} (h : E.unok x = false) : E.une x = 5 := E.une_no h
set_option maxRecDepth 100000 in
set_option maxHeartbeats 8000000 in
theorem walk_any (g b n : Nat) (f : Nat → Int) (t0 : Nat) (page : Int) (w : World) (h : Mem w g b n f) (hp : 0 ≤ page ∧ page < 4096) (hr : t0 < n / 64) :
    Calls Try.prog 26 #[.pointer (some ⟨g, 0, none⟩), .int .i64 t0, .int .i64 page] w fun e w' => ∃ v, e = .returned (.tuple #[LV (wk n f page 4 t0 []).x (wk n f page 4 t0 []).lev (wk n f page 4 t0 []).frm, v, .int .i64 (wk n f page 4 t0 []).at_, .int .i64 (wk n f page 4 t0 []).err]) ∧ RI w' v (wk n f page 4 t0 []).path ∧ Below w.heap.size w w' := by
  obtain ⟨R, hR⟩ : ∃ R, R = wk n f page 4 t0 [] := ⟨_, rfl⟩
  rw [← hR]
  have HR0 := Lib.hid hR.symm
  clear hR
  have hn : n ≤ 65536 := h.2.2.2.2.1
  have hgb := h.lt
  have d0 : decide ((t0 : Int) < 0) = false := decide_eq_false (by omega)
  have d1 : decide ((n : Int) / 64 ≤ (t0 : Int)) = false := decide_eq_false (by omega)
  have hA := ((Below.refl w.heap.size w).alloc (Nat.le_refl _) (Obj.cells #[.pointer (some ⟨g, 0, none⟩)] 28 (0, 0))).alloc (by simp) (Obj.cells #[.int .i64 0, .bool false, .bool false, .bool false, .bool false, .bool false, .bool false, .int .i64 0, .int .i64 0] 41 (0, 0))
  have HB := Lib.hid hA
  have HM := Lib.hid h
  clear hA h
  obtain ⟨i0, hi0, hz0, hz1, hz2⟩ := info_parts (show (Try.prog.info? 3).map (fun i => (i.zero, i.size, i.bytes)) = some (some (.int .i64 0), 1, 8) by kernel_rfl)
  go_enter Try.func26, Try.ntmps26
  go_wp2_with fail
  go_step3
  go_wp2_with fail
  refine (G.digits_any page _ hp.1 hp.2).mono ?_
  rintro e w1 ⟨v, rfl, hri, hb⟩
  have hri4 : RV w1 1 v 4 (nm (G.digs page)) := hri
  rcases hri4.cases (by omega) with ⟨h0, _⟩ | ⟨_, db, o, dcap, rfl, hdc1, hdc2, hd⟩
  · omega
  have HB1 := Lib.hid (HB.out.trans (hb.mono HB.out.size))
  have hz : w.heap.size + 1 < w1.heap.size := by have := hb.size; simp at this; omega
  obtain ⟨hcc, hff⟩ := bcell hb
  have c0 : w1.cell? ⟨w.heap.size, 0, none⟩ = some (.pointer (some ⟨g, 0, none⟩)) := by rw [hcc _ _ (by simp <;> omega)]; simp [go_sem]
  have HM1 := Lib.hid (HM.out.below HB1.out)
  obtain ⟨w5, hw5⟩ : ∃ w5, w5 = w1.alloc (Obj.cells #[.int .i64 0, .bool false, .bool false, .bool false, .bool false, .bool false, .bool false, .int .i64 0, .int .i64 0] 41 (0, 0)) := ⟨_, rfl⟩
  have hA5 : Below w1.heap.size w1 w5 := by rw [hw5]; exact (Below.refl _ w1).alloc (Nat.le_refl _) _
  have HB5 := Lib.hid (HB1.out.trans (hA5.mono HB1.out.size))
  have HD := Lib.hid (fun j u hj => cell_keep hA5 (hd j u hj))
  have hc5 : w5.cell? ⟨w.heap.size, 0, none⟩ = some (.pointer (some ⟨g, 0, none⟩)) := cell_keep hA5 c0
  have HM5 := Lib.hid (HM1.out.below hA5)
  have hz5 : w5.heap.size = w1.heap.size + 1 := by rw [hw5, World.size_alloc]
  have HQ2 : RowKit.Hid (w5.heap[w1.heap.size]? = some (.cells #[.int .i64 0, .bool false, .bool false, .bool false, .bool false, .bool false, .bool false, .int .i64 0, .int .i64 0] 41 (0, 0))) := Lib.hid (by rw [hw5]; exact Deep.blk_alloc_new _ _)
  have HQ1 : RowKit.Hid (w5.heap[w.heap.size + 1]? = some (.cells #[.int .i64 0, .bool false, .bool false, .bool false, .bool false, .bool false, .bool false, .int .i64 0, .int .i64 0] 41 (0, 0))) := Lib.hid (by
    rw [hA5.block _ hz, hb.block _ (by simp)]
    have h1 := Deep.blk_alloc_new (w.alloc (Obj.cells #[.pointer (some ⟨g, 0, none⟩)] 28 (0, 0))) (Obj.cells #[.int .i64 0, .bool false, .bool false, .bool false, .bool false, .bool false, .bool false, .int .i64 0, .int .i64 0] 41 (0, 0))
    rw [World.size_alloc] at h1
    exact h1)
  clear hri hri4 hb hcc hff hA5 hd
  go_wp2_with (go_at_call 21; refine (frames_any g b n f _ HM1.out).mono ?_; rintro e w2 ⟨rfl, rfl⟩)
  go_step3
  rw [← hw5]
  clear hw5
  go_wp2_with fail
  go_loopw [12, 13, 17] (fun p t l wr => ∃ (k tt pl cap : Nat) (P : List Int) (ao : Option Addr), k ≤ 3 ∧ tt < n / 64 ∧ pl + k = 3 ∧ l = .int .i64 k ∧ t = .int .i64 tt ∧ p = .slice ao pl cap ∧ RowKit.Hid (P.length = pl ∧ wk n f page (k + 1) tt P = R ∧ Sq wr 3 1 (.slice ao pl cap) pl (nm P) ∧ Chg [] (vblk (.slice ao pl cap)) w5 wr)) (fun _ _ l _ => (intOf l).toNat)
  case atStart => exact ⟨3, t0, 0, 0, [], none, by omega, hr, rfl, rfl, rfl, rfl, Lib.hid ⟨rfl, HR0.out, Sq.nil _ _ _, Chg.refl _ _⟩⟩
  case round =>
    obtain ⟨k, tt, pl, cap, P, ao, hk, htt, hplk, rfl, rfl, rfl, HI⟩ := hrel
    have hb5 : Below w5.heap.size w5 wr := HI.out.2.2.2.below (fun b hb => by simp at hb) (Nat.le_refl _)
    have c0r := cell_keep hb5 hc5
    have hcases : k = 0 ∨ k = 1 ∨ k = 2 ∨ k = 3 := by omega
    rcases hcases with rfl | rfl | rfl | rfl
    ·
      have hdd := cell_keep hb5 (HD.out 3 (.int .i64 (page % 8)) rfl)
      obtain ⟨a, ha⟩ : ∃ a : Nat, page % 8 = (a : Int) := ⟨(page % 8).toNat, by omega⟩
      have ha8 : a < 8 := by omega
      rw [ha] at hdd
      obtain ⟨x, hx⟩ : ∃ x, wd f (64 * tt + 8 * a) = x := ⟨_, rfl⟩
      have hst := wk_st n f page 0 tt P x a ha.symm (by rw [← hx, Int.toNat_natCast])
      rw [HI.out.2.1] at hst
      obtain ⟨rest, hrest⟩ : ∃ r, wk n f page 0 (x / 4096).toNat (P ++ [(tt : Int)]) = r := ⟨_, rfl⟩
      rw [hrest] at hst
      have HST := Lib.hid hst.symm
      have HREST := Lib.hid hrest
      obtain rfl : pl = 3 := by omega
      have hA9 : Below wr.heap.size wr (wr.alloc (.cells #[.int .i64 tt] 3)) := (Below.refl _ wr).alloc (Nat.le_refl _) _
      have hown9 := HI.out.2.2.1.below hA9
      have hnew9 := news_alloc wr #[.int .i64 tt] 3
      have HC9 := Lib.hid (HI.out.2.2.2.trans (Chg.of_below hA9))
      have HPL := Lib.hid HI.out.1
      have HX := Lib.hid hx
      have HA := Lib.hid ha
      have hxr := wd_range f HM1.out.2.2.2.2.2.2 (64 * tt + 8 * a)
      rw [hx] at hxr
      clear hst hrest hA9 HI ha hx
      go_wp2_with (at_builtin; refine wpList_append_any _ rfl (.tmp 48) (.tmp 50) 45 rfl 3 i0 (.int .i64 0) 1 8 Try.underlying45 hi0 hz0 hz1 hz2 rfl (by decide) (.slice ao 3 cap) 3 (nm P) rfl hown9 (some ⟨wr.heap.size, 0, none⟩) 1 1 (nm [(tt : Int)]) rfl (fun h => by cases h) rfl (fun a ha => by cases ha; exact hnew9) (nm_onecell _) (by unfold maxLen; omega) (by omega) ?_; intro v' w4 hown4 hgr4; obtain ⟨ao4, cap4, rfl, _, _⟩ := Sq.slice hown4; have HO4 := Lib.hid (nm_append P [(tt : Int)] ▸ hown4); have HC4 := Lib.hid (HC9.out.trans hgr4); clear hown4 hgr4 hown9 hnew9 hdd c0r; have hb4 := HC4.out.below (fun b hb => by simp at hb) (Nat.le_refl _); have hdd := HA.out ▸ cell_keep hb4 (HD.out 3 (.int .i64 (page % 8)) rfl); (try rw [Nat.add_zero] at hdd); have c04 := cell_keep hb4 hc5; have HM4 := Lib.hid (HM5.out.below hb4))
      refine (word_ok g b n f tt a _ HM4.out htt ha8).mono ?_
      rintro e w6 ⟨rfl, hb6⟩
      rw [HX.out]
      have hb46 : w5.heap.size ≤ w6.heap.size := Nat.le_trans hb4.size hb6.size
      have hb5w : Below w5.heap.size w5 w6 := hb4.trans (hb6.mono hb4.size)
      have HB6 := Lib.hid (HB5.out.trans (hb5w.mono HB5.out.size))
      have c06 := cell_keep hb6 c04
      have q2 : w6.heap[w1.heap.size]? = some (.cells #[.int .i64 0, .bool false, .bool false, .bool false, .bool false, .bool false, .bool false, .int .i64 0, .int .i64 0] 41 (0, 0)) := (hb5w.block _ (by omega)).trans HQ2.out
      have q1 : w6.heap[w.heap.size + 1]? = some (.cells #[.int .i64 0, .bool false, .bool false, .bool false, .bool false, .bool false, .bool false, .int .i64 0, .int .i64 0] 41 (0, 0)) := (hb5w.block _ (by omega)).trans HQ1.out
      clear hdd hb4 c04
      by_cases hok : E.unok x = true
      · by_cases hx0 : x = 0
        · subst hx0
          rw [ent0, une0]
          go_upto_region 17 with fail
          have hA7 : Below w6.heap.size w6 (w6.alloc (.cells #[.int .i64 0, .bool false, .bool false, .bool false, .bool false, .bool false, .bool false] 24)) := (Below.refl _ w6).alloc (Nat.le_refl _) _
          have q3 : (w6.alloc (.cells #[.int .i64 0, .bool false, .bool false, .bool false, .bool false, .bool false, .bool false] 24)).heap[w6.heap.size]? = some (.cells #[.int .i64 0, .bool false, .bool false, .bool false, .bool false, .bool false, .bool false] 24 (0, 0)) := Deep.blk_alloc_new _ _
          have q2' := (hA7.block _ (lt_of_block q2)).trans q2
          have q1' := (hA7.block _ (lt_of_block q1)).trans q1
          have HB7 := Lib.hid (HB6.out.trans (hA7.mono HB6.out.size))
          have HO7 := Lib.hid ((HO4.out.below hb6).below hA7)
          have HC7 := Lib.hid ((HC4.out.trans (Chg.of_below hb6)).trans (Chg.of_below hA7))
          have HLOW : RowKit.Hid (∀ b, b ∈ vblk (.slice ao4 (3 + 1) cap4) → w5.heap.size ≤ b) := Lib.hid (HC4.out.ge (fun b hb => by simp at hb) (Nat.le_refl _))
          have c07 := cell_keep hA7 c06
          have HM7 := Lib.hid ((HM4.out.below hb6).below hA7)
          have hz7 : w6.heap.size < (w6.alloc (.cells #[.int .i64 0, .bool false, .bool false, .bool false, .bool false, .bool false, .bool false] 24)).heap.size := by rw [World.size_alloc]; omega
          clear hA7
          generalize w6.alloc (.cells #[.int .i64 0, .bool false, .bool false, .bool false, .bool false, .bool false, .bool false] 24) = w7 at *
          obtain ⟨e0, e1, e2, e3, e4, e5, e6⟩ := row7 q3
          obtain ⟨a0, a1, a2, a3, a4, a5, a6, a7, a8⟩ := row9 q1'
          obtain ⟨b0, b1, b2, b3, b4, b5, b6, b7, b8⟩ := row9 q2'
          have fz1 := fun j => frozen_of_row w7 (w.heap.size + 1) j _ 41 q1'
          have fz2 := fun j => frozen_of_row w7 w1.heap.size j _ 41 q2'
          have HSZ : w.heap.size + 1 < w1.heap.size ∧ w1.heap.size < w5.heap.size ∧ w5.heap.size ≤ w6.heap.size ∧ w6.heap.size < w7.heap.size := ⟨hz, by omega, hb46, hz7⟩
          clear q1 q2 q1' q2' q3 hb6 hb5w c06 hb46 hxr
          have hR : R = ⟨0, 0, 0, 0, 6, P ++ [(tt : Int)]⟩ := by rw [← HST.out]; unfold st; rw [if_neg (by rw [hok]; decide), if_pos rfl]
          go_wp2_with fail
          try rw [Exit.noGoto_ret]
          refine bodyPost_ret (v := .tuple #[.agg #[.int .i64 0, .bool false, .bool false, .bool false, .bool false, .bool false, .bool false, .int .i64 0, .int .i64 0], .slice ao4 (3 + 1) cap4, .int .i64 0, .int .i64 6]) ?_ rfl ?_
          · obtain ⟨k0, k1, k2, k3, k4, k5, k6, k7, k8⟩ := st9_cells a0 a1 a2 a3 a4 a5 a6 a7 a8
            exact res26 _ _ (w.heap.size + 1) _ _ _ _ _ _ _ _ _ _ _ _ rfl rfl rfl rfl k0 k1 k2 k3 k4 k5 k6 k7 k8
          refine ⟨_, by rw [hR, LVN], ?_, st9_below HB7.out (Nat.le_succ _)⟩
          rw [hR]
          refine RI_of ?_ (by rw [List.length_append, HPL.out] <;> rfl)
          exact st9_sq HLOW.out (by omega) HO7.out
        · have hfr := ok_fr hok
          have hpp := ok_p hok hx0
          have hst1 : R = (if bd x 0 = true then FORM else if thr n (x / 4096) (od x 0) = false then FORM else if E.tb x 7 = true ∨ 0 = 0 then ⟨x, (0 : Nat), x / 4096 + page - G.dwn page (od x 0), a, 0, P ++ [(tt : Int)]⟩ else rest) := by rw [← HST.out]; unfold st; rw [if_neg (by rw [hok]; decide), if_neg hx0]
          have HLV := Lib.hid (fun lev frm => LV_yes (lev := lev) (frm := frm) hok)
          have HST2 := Lib.hid hst1
          rw [ent_yes' hok, une_yes' hok]
          unfold bd od at HST2
          clear hst1 hx0 hok HST
          obtain ⟨fr, hgfr⟩ : ∃ fr, x / 4096 = fr := ⟨_, rfl⟩
          have HFR := Lib.hid hgfr
          rw [hgfr] at hfr HST2 HLV HREST ⊢
          clear hgfr
          generalize E.tb x 7 = hu at *
          generalize E.tb x 9 = he at *
          generalize E.tb x 0 = p at *
          generalize E.tb x 1 = wq at *
          generalize E.tb x 5 = us at *
          generalize E.tb x 6 = di at *
          go_upto_region 17 with fail
          have hA7 : Below w6.heap.size w6 (w6.alloc (.cells #[.int .i64 fr, .bool p, .bool wq, .bool hu, .bool he, .bool us, .bool di] 24)) := (Below.refl _ w6).alloc (Nat.le_refl _) _
          have q3 : (w6.alloc (.cells #[.int .i64 fr, .bool p, .bool wq, .bool hu, .bool he, .bool us, .bool di] 24)).heap[w6.heap.size]? = some (.cells #[.int .i64 fr, .bool p, .bool wq, .bool hu, .bool he, .bool us, .bool di] 24 (0, 0)) := Deep.blk_alloc_new _ _
          have q2' := (hA7.block _ (lt_of_block q2)).trans q2
          have q1' := (hA7.block _ (lt_of_block q1)).trans q1
          have HB7 := Lib.hid (HB6.out.trans (hA7.mono HB6.out.size))
          have HO7 := Lib.hid ((HO4.out.below hb6).below hA7)
          have HC7 := Lib.hid ((HC4.out.trans (Chg.of_below hb6)).trans (Chg.of_below hA7))
          have HLOW : RowKit.Hid (∀ b, b ∈ vblk (.slice ao4 (3 + 1) cap4) → w5.heap.size ≤ b) := Lib.hid (HC4.out.ge (fun b hb => by simp at hb) (Nat.le_refl _))
          have c07 := cell_keep hA7 c06
          have HM7 := Lib.hid ((HM4.out.below hb6).below hA7)
          have hz7 : w6.heap.size < (w6.alloc (.cells #[.int .i64 fr, .bool p, .bool wq, .bool hu, .bool he, .bool us, .bool di] 24)).heap.size := by rw [World.size_alloc]; omega
          clear hA7
          generalize w6.alloc (.cells #[.int .i64 fr, .bool p, .bool wq, .bool hu, .bool he, .bool us, .bool di] 24) = w7 at *
          obtain ⟨e0, e1, e2, e3, e4, e5, e6⟩ := row7 q3
          obtain ⟨a0, a1, a2, a3, a4, a5, a6, a7, a8⟩ := row9 q1'
          obtain ⟨b0, b1, b2, b3, b4, b5, b6, b7, b8⟩ := row9 q2'
          have fz1 := fun j => frozen_of_row w7 (w.heap.size + 1) j _ 41 q1'
          have fz2 := fun j => frozen_of_row w7 w1.heap.size j _ 41 q2'
          have HSZ : w.heap.size + 1 < w1.heap.size ∧ w1.heap.size < w5.heap.size ∧ w5.heap.size ≤ w6.heap.size ∧ w6.heap.size < w7.heap.size := ⟨hz, by omega, hb46, hz7⟩
          clear q1 q2 q1' q2' q3 hb6 hb5w c06 hb46 hxr
          cases he
          · cases hu
            ·
              obtain rfl : p = true := hpp rfl
              go_wp2_with fail
              refine (there_any g b n w.heap.size f fr 0 _ HM7.out hfr (by omega) c07).mono ?_
              rintro e w8 ⟨rfl, j, rfl⟩
              cases hth : thr n fr 0
              ·
                go_wp2_with fail
                have hR : R = FORM := by rw [HST2.out]; exact thr_form hth
                try rw [Exit.noGoto_ret]
                refine bodyPost_ret (v := .tuple #[.agg #[.int .i64 0, .bool false, .bool false, .bool false, .bool false, .bool false, .bool false, .int .i64 0, .int .i64 0], .slice none 0 0, .int .i64 0, .int .i64 5]) ?_ rfl ?_
                · obtain ⟨k0, k1, k2, k3, k4, k5, k6, k7, k8⟩ := st9_cells (w := w7.drewN j) a0 a1 a2 a3 a4 a5 a6 a7 a8
                  exact res26 _ _ (w.heap.size + 1) _ _ _ _ _ _ _ _ _ _ _ _ rfl rfl rfl rfl k0 k1 k2 k3 k4 k5 k6 k7 k8
                exact ⟨_, by rw [hR, LVF]; rfl, by rw [hR]; exact RV.nil _ _, st9_below (below_drewN HB7.out j) (Nat.le_succ _)⟩
              · have hd := dwn_le page 0 hp
                have hR : R = ⟨x, (0 : Nat), fr + page - G.dwn page 0, a, 0, P ++ [(tt : Int)]⟩ := by rw [HST2.out]; exact thr_leaf hth
                have HRR := Lib.hid hR
                clear hR hth
                have HDN := Lib.hid (fun w => G.down_any page 0 w (by omega) (by omega))
                generalize G.dwn page 0 = dd at *
                have hw1 : IntKind.i64.wrap (fr + page) = fr + page := by rw [IntKind.wrap_i64]; omega
                have hw2 : IntKind.i64.wrap (fr + page - dd) = fr + page - dd := by rw [IntKind.wrap_i64]; omega
                go_upto_region 29 with fail
                obtain ⟨w8, hw8⟩ : ∃ w8, w8 = w7.drewN j := ⟨_, rfl⟩
                have hc8 : ∀ q, w8.cell? q = w7.cell? q := fun q => by rw [hw8]; rfl
                have hf8 : ∀ q, w8.frozen? q = w7.frozen? q := fun q => by rw [hw8]; rfl
                have HB8 : RowKit.Hid (Below w.heap.size w w8) := Lib.hid (by rw [hw8]; exact below_drewN HB7.out j)
                have HO8 : RowKit.Hid (Sq w8 3 1 (.slice ao4 (3 + 1) cap4) (3 + 1) (nm (P ++ [(tt : Int)]))) := Lib.hid (by rw [hw8]; exact Sq.drewN HO7.out j)
                rw [← hc8] at e0
                rw [← hc8] at e1
                rw [← hc8] at e2
                rw [← hc8] at e3
                rw [← hc8] at e4
                rw [← hc8] at e5
                rw [← hc8] at e6
                rw [← hc8] at a0
                rw [← hc8] at a1
                rw [← hc8] at a2
                rw [← hc8] at a3
                rw [← hc8] at a4
                rw [← hc8] at a5
                rw [← hc8] at a6
                rw [← hc8] at a7
                rw [← hc8] at a8
                rw [← hc8] at b0
                rw [← hc8] at b1
                rw [← hc8] at b2
                rw [← hc8] at b3
                rw [← hc8] at b4
                rw [← hc8] at b5
                rw [← hc8] at b6
                rw [← hc8] at b7
                rw [← hc8] at b8
                replace fz1 := fun j => (hf8 _).trans (fz1 j)
                replace fz2 := fun j => (hf8 _).trans (fz2 j)
                rw [← hw8]
                clear hc8 hf8 hw8 HB7 HO7 HC7 HM7 c07
                go_still_tail 11, (by kernel_rfl)
                still_call ((HDN.out _).mono fun _ _ h => ⟨h.1, h.2.symm⟩)
                repeat still_step
                refine wpStill_nil ?_
                change wpList _ _ _ _ _ (World.drew _)
                go_wp2_with fail
                try rw [Exit.noGoto_ret]
                refine bodyPost_ret (v := .tuple #[.agg #[.int .i64 fr, .bool true, .bool wq, .bool false, .bool false, .bool us, .bool di, .int .i64 0, .int .i64 (fr + page - dd)], .slice ao4 (3 + 1) cap4, .int .i64 a, .int .i64 0]) ?_ rfl ?_
                · obtain ⟨k0, k1, k2, k3, k4, k5, k6, k7, k8⟩ := st99_cells (w := w8) (B := w.heap.size + 1) (D := w1.heap.size) a0 a1 a2 a3 a4 a5 a6 a7 a8 (by omega)
                  exact res26d _ _ (w.heap.size + 1) _ _ _ _ _ _ _ _ _ _ _ _ rfl rfl rfl rfl k0 k1 k2 k3 k4 k5 k6 k7 k8
                refine ⟨.slice ao4 (3 + 1) cap4, ?_, ?_, ?_⟩
                · rw [HRR.out]
                  show _ = Ending.returned (.tuple #[LV x ((0 : Nat) : Int) (fr + page - dd), _, .int .i64 a, .int .i64 0])
                  rw [HLV.out] <;> rfl
                · rw [HRR.out]
                  refine RI_of ?_ (by rw [List.length_append, HPL.out] <;> rfl)
                  refine Sq.drew ?_
                  refine st9_sq HLOW.out (by omega) ?_
                  exact st9_sq HLOW.out (by omega) HO8.out
                · refine below_drewX ?_
                  refine st9_below ?_ (Nat.le_succ _)
                  exact st9_below HB8.out (by omega)
            ·
              obtain rfl : p = true := hpp rfl
              go_wp2_with fail
              have hR : R = FORM := by rw [HST2.out]; rfl
              try rw [Exit.noGoto_ret]
              refine bodyPost_ret (v := .tuple #[.agg #[.int .i64 0, .bool false, .bool false, .bool false, .bool false, .bool false, .bool false, .int .i64 0, .int .i64 0], .slice none 0 0, .int .i64 0, .int .i64 5]) ?_ rfl ?_
              · obtain ⟨k0, k1, k2, k3, k4, k5, k6, k7, k8⟩ := st9_cells a0 a1 a2 a3 a4 a5 a6 a7 a8
                exact res26 _ _ (w.heap.size + 1) _ _ _ _ _ _ _ _ _ _ _ _ rfl rfl rfl rfl k0 k1 k2 k3 k4 k5 k6 k7 k8
              exact ⟨_, by rw [hR, LVF]; rfl, by rw [hR]; exact RV.nil _ _, st9_below HB7.out (Nat.le_succ _)⟩
          · cases hu
            ·
              clear hpp
              go_wp2_with fail
              refine (there_any g b n w.heap.size f fr 0 _ HM7.out hfr (by omega) c07).mono ?_
              rintro e w8 ⟨rfl, j, rfl⟩
              cases hth : thr n fr 0
              ·
                go_wp2_with fail
                have hR : R = FORM := by rw [HST2.out]; exact thr_form hth
                try rw [Exit.noGoto_ret]
                refine bodyPost_ret (v := .tuple #[.agg #[.int .i64 0, .bool false, .bool false, .bool false, .bool false, .bool false, .bool false, .int .i64 0, .int .i64 0], .slice none 0 0, .int .i64 0, .int .i64 5]) ?_ rfl ?_
                · obtain ⟨k0, k1, k2, k3, k4, k5, k6, k7, k8⟩ := st9_cells (w := w7.drewN j) a0 a1 a2 a3 a4 a5 a6 a7 a8
                  exact res26 _ _ (w.heap.size + 1) _ _ _ _ _ _ _ _ _ _ _ _ rfl rfl rfl rfl k0 k1 k2 k3 k4 k5 k6 k7 k8
                exact ⟨_, by rw [hR, LVF]; rfl, by rw [hR]; exact RV.nil _ _, st9_below (below_drewN HB7.out j) (Nat.le_succ _)⟩
              · have hd := dwn_le page 0 hp
                have hR : R = ⟨x, (0 : Nat), fr + page - G.dwn page 0, a, 0, P ++ [(tt : Int)]⟩ := by rw [HST2.out]; exact thr_leaf hth
                have HRR := Lib.hid hR
                clear hR hth
                have HDN := Lib.hid (fun w => G.down_any page 0 w (by omega) (by omega))
                generalize G.dwn page 0 = dd at *
                have hw1 : IntKind.i64.wrap (fr + page) = fr + page := by rw [IntKind.wrap_i64]; omega
                have hw2 : IntKind.i64.wrap (fr + page - dd) = fr + page - dd := by rw [IntKind.wrap_i64]; omega
                go_upto_region 29 with fail
                obtain ⟨w8, hw8⟩ : ∃ w8, w8 = w7.drewN j := ⟨_, rfl⟩
                have hc8 : ∀ q, w8.cell? q = w7.cell? q := fun q => by rw [hw8]; rfl
                have hf8 : ∀ q, w8.frozen? q = w7.frozen? q := fun q => by rw [hw8]; rfl
                have HB8 : RowKit.Hid (Below w.heap.size w w8) := Lib.hid (by rw [hw8]; exact below_drewN HB7.out j)
                have HO8 : RowKit.Hid (Sq w8 3 1 (.slice ao4 (3 + 1) cap4) (3 + 1) (nm (P ++ [(tt : Int)]))) := Lib.hid (by rw [hw8]; exact Sq.drewN HO7.out j)
                rw [← hc8] at e0
                rw [← hc8] at e1
                rw [← hc8] at e2
                rw [← hc8] at e3
                rw [← hc8] at e4
                rw [← hc8] at e5
                rw [← hc8] at e6
                rw [← hc8] at a0
                rw [← hc8] at a1
                rw [← hc8] at a2
                rw [← hc8] at a3
                rw [← hc8] at a4
                rw [← hc8] at a5
                rw [← hc8] at a6
                rw [← hc8] at a7
                rw [← hc8] at a8
                rw [← hc8] at b0
                rw [← hc8] at b1
                rw [← hc8] at b2
                rw [← hc8] at b3
                rw [← hc8] at b4
                rw [← hc8] at b5
                rw [← hc8] at b6
                rw [← hc8] at b7
                rw [← hc8] at b8
                replace fz1 := fun j => (hf8 _).trans (fz1 j)
                replace fz2 := fun j => (hf8 _).trans (fz2 j)
                rw [← hw8]
                clear hc8 hf8 hw8 HB7 HO7 HC7 HM7 c07
                go_still_tail 11, (by kernel_rfl)
                still_call ((HDN.out _).mono fun _ _ h => ⟨h.1, h.2.symm⟩)
                repeat still_step
                refine wpStill_nil ?_
                change wpList _ _ _ _ _ (World.drew _)
                go_wp2_with fail
                try rw [Exit.noGoto_ret]
                refine bodyPost_ret (v := .tuple #[.agg #[.int .i64 fr, .bool p, .bool wq, .bool false, .bool true, .bool us, .bool di, .int .i64 0, .int .i64 (fr + page - dd)], .slice ao4 (3 + 1) cap4, .int .i64 a, .int .i64 0]) ?_ rfl ?_
                · obtain ⟨k0, k1, k2, k3, k4, k5, k6, k7, k8⟩ := st99_cells (w := w8) (B := w.heap.size + 1) (D := w1.heap.size) a0 a1 a2 a3 a4 a5 a6 a7 a8 (by omega)
                  exact res26d _ _ (w.heap.size + 1) _ _ _ _ _ _ _ _ _ _ _ _ rfl rfl rfl rfl k0 k1 k2 k3 k4 k5 k6 k7 k8
                refine ⟨.slice ao4 (3 + 1) cap4, ?_, ?_, ?_⟩
                · rw [HRR.out]
                  show _ = Ending.returned (.tuple #[LV x ((0 : Nat) : Int) (fr + page - dd), _, .int .i64 a, .int .i64 0])
                  rw [HLV.out] <;> rfl
                · rw [HRR.out]
                  refine RI_of ?_ (by rw [List.length_append, HPL.out] <;> rfl)
                  refine Sq.drew ?_
                  refine st9_sq HLOW.out (by omega) ?_
                  exact st9_sq HLOW.out (by omega) HO8.out
                · refine below_drewX ?_
                  refine st9_below ?_ (Nat.le_succ _)
                  exact st9_below HB8.out (by omega)
            ·
              clear hpp
              go_wp2_with fail
              have hR : R = FORM := by rw [HST2.out]; rfl
              try rw [Exit.noGoto_ret]
              refine bodyPost_ret (v := .tuple #[.agg #[.int .i64 0, .bool false, .bool false, .bool false, .bool false, .bool false, .bool false, .int .i64 0, .int .i64 0], .slice none 0 0, .int .i64 0, .int .i64 5]) ?_ rfl ?_
              · obtain ⟨k0, k1, k2, k3, k4, k5, k6, k7, k8⟩ := st9_cells a0 a1 a2 a3 a4 a5 a6 a7 a8
                exact res26 _ _ (w.heap.size + 1) _ _ _ _ _ _ _ _ _ _ _ _ rfl rfl rfl rfl k0 k1 k2 k3 k4 k5 k6 k7 k8
              exact ⟨_, by rw [hR, LVF]; rfl, by rw [hR]; exact RV.nil _ _, st9_below HB7.out (Nat.le_succ _)⟩
      · have hok' : E.unok x = false := by simpa using hok
        rw [ent_no' hok', une_no' hok']
        go_upto_region 17 with fail
        have hA7 : Below w6.heap.size w6 (w6.alloc (.cells #[.int .i64 0, .bool false, .bool false, .bool false, .bool false, .bool false, .bool false] 24)) := (Below.refl _ w6).alloc (Nat.le_refl _) _
        have q3 : (w6.alloc (.cells #[.int .i64 0, .bool false, .bool false, .bool false, .bool false, .bool false, .bool false] 24)).heap[w6.heap.size]? = some (.cells #[.int .i64 0, .bool false, .bool false, .bool false, .bool false, .bool false, .bool false] 24 (0, 0)) := Deep.blk_alloc_new _ _
        have q2' := (hA7.block _ (lt_of_block q2)).trans q2
        have q1' := (hA7.block _ (lt_of_block q1)).trans q1
        have HB7 := Lib.hid (HB6.out.trans (hA7.mono HB6.out.size))
        have HO7 := Lib.hid ((HO4.out.below hb6).below hA7)
        have HC7 := Lib.hid ((HC4.out.trans (Chg.of_below hb6)).trans (Chg.of_below hA7))
        have HLOW : RowKit.Hid (∀ b, b ∈ vblk (.slice ao4 (3 + 1) cap4) → w5.heap.size ≤ b) := Lib.hid (HC4.out.ge (fun b hb => by simp at hb) (Nat.le_refl _))
        have c07 := cell_keep hA7 c06
        have HM7 := Lib.hid ((HM4.out.below hb6).below hA7)
        have hz7 : w6.heap.size < (w6.alloc (.cells #[.int .i64 0, .bool false, .bool false, .bool false, .bool false, .bool false, .bool false] 24)).heap.size := by rw [World.size_alloc]; omega
        clear hA7
        generalize w6.alloc (.cells #[.int .i64 0, .bool false, .bool false, .bool false, .bool false, .bool false, .bool false] 24) = w7 at *
        obtain ⟨e0, e1, e2, e3, e4, e5, e6⟩ := row7 q3
        obtain ⟨a0, a1, a2, a3, a4, a5, a6, a7, a8⟩ := row9 q1'
        obtain ⟨b0, b1, b2, b3, b4, b5, b6, b7, b8⟩ := row9 q2'
        have fz1 := fun j => frozen_of_row w7 (w.heap.size + 1) j _ 41 q1'
        have fz2 := fun j => frozen_of_row w7 w1.heap.size j _ 41 q2'
        have HSZ : w.heap.size + 1 < w1.heap.size ∧ w1.heap.size < w5.heap.size ∧ w5.heap.size ≤ w6.heap.size ∧ w6.heap.size < w7.heap.size := ⟨hz, by omega, hb46, hz7⟩
        clear q1 q2 q1' q2' q3 hb6 hb5w c06 hb46 hxr
        go_wp2_with fail
        have hR : R = FORM := by rw [← HST.out]; unfold st; rw [if_pos hok']
        try rw [Exit.noGoto_ret]
        refine bodyPost_ret (v := .tuple #[.agg #[.int .i64 0, .bool false, .bool false, .bool false, .bool false, .bool false, .bool false, .int .i64 0, .int .i64 0], .slice none 0 0, .int .i64 0, .int .i64 5]) ?_ rfl ?_
        · obtain ⟨k0, k1, k2, k3, k4, k5, k6, k7, k8⟩ := st9_cells a0 a1 a2 a3 a4 a5 a6 a7 a8
          exact res26 _ _ (w.heap.size + 1) _ _ _ _ _ _ _ _ _ _ _ _ rfl rfl rfl rfl k0 k1 k2 k3 k4 k5 k6 k7 k8
        exact ⟨_, by rw [hR, LVF]; rfl, by rw [hR]; exact RV.nil _ _, st9_below HB7.out (Nat.le_succ _)⟩
    ·
      have hdd := cell_keep hb5 (HD.out 2 (.int .i64 (page / 8 % 8)) rfl)
      obtain ⟨a, ha⟩ : ∃ a : Nat, page / 8 % 8 = (a : Int) := ⟨(page / 8 % 8).toNat, by omega⟩
      have ha8 : a < 8 := by omega
      rw [ha] at hdd
      obtain ⟨x, hx⟩ : ∃ x, wd f (64 * tt + 8 * a) = x := ⟨_, rfl⟩
      have hst := wk_st n f page 1 tt P x a ha.symm (by rw [← hx, Int.toNat_natCast])
      rw [HI.out.2.1] at hst
      obtain ⟨rest, hrest⟩ : ∃ r, wk n f page 1 (x / 4096).toNat (P ++ [(tt : Int)]) = r := ⟨_, rfl⟩
      rw [hrest] at hst
      have HST := Lib.hid hst.symm
      have HREST := Lib.hid hrest
      obtain rfl : pl = 2 := by omega
      have hA9 : Below wr.heap.size wr (wr.alloc (.cells #[.int .i64 tt] 3)) := (Below.refl _ wr).alloc (Nat.le_refl _) _
      have hown9 := HI.out.2.2.1.below hA9
      have hnew9 := news_alloc wr #[.int .i64 tt] 3
      have HC9 := Lib.hid (HI.out.2.2.2.trans (Chg.of_below hA9))
      have HPL := Lib.hid HI.out.1
      have HX := Lib.hid hx
      have HA := Lib.hid ha
      have hxr := wd_range f HM1.out.2.2.2.2.2.2 (64 * tt + 8 * a)
      rw [hx] at hxr
      clear hst hrest hA9 HI ha hx
      go_wp2_with (at_builtin; refine wpList_append_any _ rfl (.tmp 48) (.tmp 50) 45 rfl 3 i0 (.int .i64 0) 1 8 Try.underlying45 hi0 hz0 hz1 hz2 rfl (by decide) (.slice ao 2 cap) 2 (nm P) rfl hown9 (some ⟨wr.heap.size, 0, none⟩) 1 1 (nm [(tt : Int)]) rfl (fun h => by cases h) rfl (fun a ha => by cases ha; exact hnew9) (nm_onecell _) (by unfold maxLen; omega) (by omega) ?_; intro v' w4 hown4 hgr4; obtain ⟨ao4, cap4, rfl, _, _⟩ := Sq.slice hown4; have HO4 := Lib.hid (nm_append P [(tt : Int)] ▸ hown4); have HC4 := Lib.hid (HC9.out.trans hgr4); clear hown4 hgr4 hown9 hnew9 hdd c0r; have hb4 := HC4.out.below (fun b hb => by simp at hb) (Nat.le_refl _); have hdd := HA.out ▸ cell_keep hb4 (HD.out 2 (.int .i64 (page / 8 % 8)) rfl); (try rw [Nat.add_zero] at hdd); have c04 := cell_keep hb4 hc5; have HM4 := Lib.hid (HM5.out.below hb4))
      refine (word_ok g b n f tt a _ HM4.out htt ha8).mono ?_
      rintro e w6 ⟨rfl, hb6⟩
      rw [HX.out]
      have hb46 : w5.heap.size ≤ w6.heap.size := Nat.le_trans hb4.size hb6.size
      have hb5w : Below w5.heap.size w5 w6 := hb4.trans (hb6.mono hb4.size)
      have HB6 := Lib.hid (HB5.out.trans (hb5w.mono HB5.out.size))
      have c06 := cell_keep hb6 c04
      have q2 : w6.heap[w1.heap.size]? = some (.cells #[.int .i64 0, .bool false, .bool false, .bool false, .bool false, .bool false, .bool false, .int .i64 0, .int .i64 0] 41 (0, 0)) := (hb5w.block _ (by omega)).trans HQ2.out
      have q1 : w6.heap[w.heap.size + 1]? = some (.cells #[.int .i64 0, .bool false, .bool false, .bool false, .bool false, .bool false, .bool false, .int .i64 0, .int .i64 0] 41 (0, 0)) := (hb5w.block _ (by omega)).trans HQ1.out
      clear hdd hb4 c04
      by_cases hok : E.unok x = true
      · by_cases hx0 : x = 0
        · subst hx0
          rw [ent0, une0]
          go_upto_region 17 with fail
          have hA7 : Below w6.heap.size w6 (w6.alloc (.cells #[.int .i64 0, .bool false, .bool false, .bool false, .bool false, .bool false, .bool false] 24)) := (Below.refl _ w6).alloc (Nat.le_refl _) _
          have q3 : (w6.alloc (.cells #[.int .i64 0, .bool false, .bool false, .bool false, .bool false, .bool false, .bool false] 24)).heap[w6.heap.size]? = some (.cells #[.int .i64 0, .bool false, .bool false, .bool false, .bool false, .bool false, .bool false] 24 (0, 0)) := Deep.blk_alloc_new _ _
          have q2' := (hA7.block _ (lt_of_block q2)).trans q2
          have q1' := (hA7.block _ (lt_of_block q1)).trans q1
          have HB7 := Lib.hid (HB6.out.trans (hA7.mono HB6.out.size))
          have HO7 := Lib.hid ((HO4.out.below hb6).below hA7)
          have HC7 := Lib.hid ((HC4.out.trans (Chg.of_below hb6)).trans (Chg.of_below hA7))
          have HLOW : RowKit.Hid (∀ b, b ∈ vblk (.slice ao4 (2 + 1) cap4) → w5.heap.size ≤ b) := Lib.hid (HC4.out.ge (fun b hb => by simp at hb) (Nat.le_refl _))
          have c07 := cell_keep hA7 c06
          have HM7 := Lib.hid ((HM4.out.below hb6).below hA7)
          have hz7 : w6.heap.size < (w6.alloc (.cells #[.int .i64 0, .bool false, .bool false, .bool false, .bool false, .bool false, .bool false] 24)).heap.size := by rw [World.size_alloc]; omega
          clear hA7
          generalize w6.alloc (.cells #[.int .i64 0, .bool false, .bool false, .bool false, .bool false, .bool false, .bool false] 24) = w7 at *
          obtain ⟨e0, e1, e2, e3, e4, e5, e6⟩ := row7 q3
          obtain ⟨a0, a1, a2, a3, a4, a5, a6, a7, a8⟩ := row9 q1'
          obtain ⟨b0, b1, b2, b3, b4, b5, b6, b7, b8⟩ := row9 q2'
          have fz1 := fun j => frozen_of_row w7 (w.heap.size + 1) j _ 41 q1'
          have fz2 := fun j => frozen_of_row w7 w1.heap.size j _ 41 q2'
          have HSZ : w.heap.size + 1 < w1.heap.size ∧ w1.heap.size < w5.heap.size ∧ w5.heap.size ≤ w6.heap.size ∧ w6.heap.size < w7.heap.size := ⟨hz, by omega, hb46, hz7⟩
          clear q1 q2 q1' q2' q3 hb6 hb5w c06 hb46 hxr
          have hR : R = ⟨0, 0, 0, 0, 6, P ++ [(tt : Int)]⟩ := by rw [← HST.out]; unfold st; rw [if_neg (by rw [hok]; decide), if_pos rfl]
          go_wp2_with fail
          try rw [Exit.noGoto_ret]
          refine bodyPost_ret (v := .tuple #[.agg #[.int .i64 0, .bool false, .bool false, .bool false, .bool false, .bool false, .bool false, .int .i64 0, .int .i64 0], .slice ao4 (2 + 1) cap4, .int .i64 0, .int .i64 6]) ?_ rfl ?_
          · obtain ⟨k0, k1, k2, k3, k4, k5, k6, k7, k8⟩ := st9_cells a0 a1 a2 a3 a4 a5 a6 a7 a8
            exact res26 _ _ (w.heap.size + 1) _ _ _ _ _ _ _ _ _ _ _ _ rfl rfl rfl rfl k0 k1 k2 k3 k4 k5 k6 k7 k8
          refine ⟨_, by rw [hR, LVN], ?_, st9_below HB7.out (Nat.le_succ _)⟩
          rw [hR]
          refine RI_of ?_ (by rw [List.length_append, HPL.out] <;> rfl)
          exact st9_sq HLOW.out (by omega) HO7.out
        · have hfr := ok_fr hok
          have hpp := ok_p hok hx0
          have hst1 : R = (if bd x 1 = true then FORM else if thr n (x / 4096) (od x 1) = false then FORM else if E.tb x 7 = true ∨ 1 = 0 then ⟨x, (1 : Nat), x / 4096 + page - G.dwn page (od x 1), a, 0, P ++ [(tt : Int)]⟩ else rest) := by rw [← HST.out]; unfold st; rw [if_neg (by rw [hok]; decide), if_neg hx0]
          have HLV := Lib.hid (fun lev frm => LV_yes (lev := lev) (frm := frm) hok)
          have HST2 := Lib.hid hst1
          rw [ent_yes' hok, une_yes' hok]
          unfold bd od at HST2
          clear hst1 hx0 hok HST
          obtain ⟨fr, hgfr⟩ : ∃ fr, x / 4096 = fr := ⟨_, rfl⟩
          have HFR := Lib.hid hgfr
          rw [hgfr] at hfr HST2 HLV HREST ⊢
          clear hgfr
          generalize E.tb x 7 = hu at *
          generalize E.tb x 9 = he at *
          generalize E.tb x 0 = p at *
          generalize E.tb x 1 = wq at *
          generalize E.tb x 5 = us at *
          generalize E.tb x 6 = di at *
          go_upto_region 17 with fail
          have hA7 : Below w6.heap.size w6 (w6.alloc (.cells #[.int .i64 fr, .bool p, .bool wq, .bool hu, .bool he, .bool us, .bool di] 24)) := (Below.refl _ w6).alloc (Nat.le_refl _) _
          have q3 : (w6.alloc (.cells #[.int .i64 fr, .bool p, .bool wq, .bool hu, .bool he, .bool us, .bool di] 24)).heap[w6.heap.size]? = some (.cells #[.int .i64 fr, .bool p, .bool wq, .bool hu, .bool he, .bool us, .bool di] 24 (0, 0)) := Deep.blk_alloc_new _ _
          have q2' := (hA7.block _ (lt_of_block q2)).trans q2
          have q1' := (hA7.block _ (lt_of_block q1)).trans q1
          have HB7 := Lib.hid (HB6.out.trans (hA7.mono HB6.out.size))
          have HO7 := Lib.hid ((HO4.out.below hb6).below hA7)
          have HC7 := Lib.hid ((HC4.out.trans (Chg.of_below hb6)).trans (Chg.of_below hA7))
          have HLOW : RowKit.Hid (∀ b, b ∈ vblk (.slice ao4 (2 + 1) cap4) → w5.heap.size ≤ b) := Lib.hid (HC4.out.ge (fun b hb => by simp at hb) (Nat.le_refl _))
          have c07 := cell_keep hA7 c06
          have HM7 := Lib.hid ((HM4.out.below hb6).below hA7)
          have hz7 : w6.heap.size < (w6.alloc (.cells #[.int .i64 fr, .bool p, .bool wq, .bool hu, .bool he, .bool us, .bool di] 24)).heap.size := by rw [World.size_alloc]; omega
          clear hA7
          generalize w6.alloc (.cells #[.int .i64 fr, .bool p, .bool wq, .bool hu, .bool he, .bool us, .bool di] 24) = w7 at *
          obtain ⟨e0, e1, e2, e3, e4, e5, e6⟩ := row7 q3
          obtain ⟨a0, a1, a2, a3, a4, a5, a6, a7, a8⟩ := row9 q1'
          obtain ⟨b0, b1, b2, b3, b4, b5, b6, b7, b8⟩ := row9 q2'
          have fz1 := fun j => frozen_of_row w7 (w.heap.size + 1) j _ 41 q1'
          have fz2 := fun j => frozen_of_row w7 w1.heap.size j _ 41 q2'
          have HSZ : w.heap.size + 1 < w1.heap.size ∧ w1.heap.size < w5.heap.size ∧ w5.heap.size ≤ w6.heap.size ∧ w6.heap.size < w7.heap.size := ⟨hz, by omega, hb46, hz7⟩
          clear q1 q2 q1' q2' q3 hb6 hb5w c06 hb46 hxr
          cases he
          · cases hu
            ·
              obtain rfl : p = true := hpp rfl
              go_wp2_with fail
              refine (there_any g b n w.heap.size f fr 0 _ HM7.out hfr (by omega) c07).mono ?_
              rintro e w8 ⟨rfl, j, rfl⟩
              cases hth : thr n fr 0
              ·
                go_wp2_with fail
                have hR : R = FORM := by rw [HST2.out]; exact thr_form hth
                try rw [Exit.noGoto_ret]
                refine bodyPost_ret (v := .tuple #[.agg #[.int .i64 0, .bool false, .bool false, .bool false, .bool false, .bool false, .bool false, .int .i64 0, .int .i64 0], .slice none 0 0, .int .i64 0, .int .i64 5]) ?_ rfl ?_
                · obtain ⟨k0, k1, k2, k3, k4, k5, k6, k7, k8⟩ := st9_cells (w := w7.drewN j) a0 a1 a2 a3 a4 a5 a6 a7 a8
                  exact res26 _ _ (w.heap.size + 1) _ _ _ _ _ _ _ _ _ _ _ _ rfl rfl rfl rfl k0 k1 k2 k3 k4 k5 k6 k7 k8
                exact ⟨_, by rw [hR, LVF]; rfl, by rw [hR]; exact RV.nil _ _, st9_below (below_drewN HB7.out j) (Nat.le_succ _)⟩
              · have hR : R = rest := by rw [HST2.out]; exact thr_next hth
                have HRR := Lib.hid (HREST.out.trans hR.symm)
                have hlt := thr_lt hth (.inl rfl)
                have hft : ((fr.toNat : Nat) : Int) = fr := by omega
                clear hR
                go_wp2_with fail
                go_roundw
                case rel => exact ⟨0, fr.toNat, 3, cap4, P ++ [(tt : Int)], ao4, by omega, by omega, rfl, by go_num, by rw [hft], rfl, Lib.hid ⟨by rw [List.length_append, HPL.out] <;> rfl, HRR.out, Sq.drewN HO7.out j, Chg.drewN HC7.out j⟩⟩
                case measure => simp [intOf]
            ·
              obtain rfl : p = true := hpp rfl
              go_wp2_with fail
              refine (there_any g b n w.heap.size f fr 3 _ HM7.out hfr (by omega) c07).mono ?_
              rintro e w8 ⟨rfl, j, rfl⟩
              cases hth : thr n fr 3
              ·
                go_wp2_with fail
                have hR : R = FORM := by rw [HST2.out]; exact thr_form hth
                try rw [Exit.noGoto_ret]
                refine bodyPost_ret (v := .tuple #[.agg #[.int .i64 0, .bool false, .bool false, .bool false, .bool false, .bool false, .bool false, .int .i64 0, .int .i64 0], .slice none 0 0, .int .i64 0, .int .i64 5]) ?_ rfl ?_
                · obtain ⟨k0, k1, k2, k3, k4, k5, k6, k7, k8⟩ := st9_cells (w := w7.drewN j) a0 a1 a2 a3 a4 a5 a6 a7 a8
                  exact res26 _ _ (w.heap.size + 1) _ _ _ _ _ _ _ _ _ _ _ _ rfl rfl rfl rfl k0 k1 k2 k3 k4 k5 k6 k7 k8
                exact ⟨_, by rw [hR, LVF]; rfl, by rw [hR]; exact RV.nil _ _, st9_below (below_drewN HB7.out j) (Nat.le_succ _)⟩
              · have hd := dwn_le page 3 hp
                have hR : R = ⟨x, (1 : Nat), fr + page - G.dwn page 3, a, 0, P ++ [(tt : Int)]⟩ := by rw [HST2.out]; exact thr_leaf hth
                have HRR := Lib.hid hR
                clear hR hth
                have HDN := Lib.hid (fun w => G.down_any page 3 w (by omega) (by omega))
                generalize G.dwn page 3 = dd at *
                have hw1 : IntKind.i64.wrap (fr + page) = fr + page := by rw [IntKind.wrap_i64]; omega
                have hw2 : IntKind.i64.wrap (fr + page - dd) = fr + page - dd := by rw [IntKind.wrap_i64]; omega
                go_upto_region 29 with fail
                obtain ⟨w8, hw8⟩ : ∃ w8, w8 = w7.drewN j := ⟨_, rfl⟩
                have hc8 : ∀ q, w8.cell? q = w7.cell? q := fun q => by rw [hw8]; rfl
                have hf8 : ∀ q, w8.frozen? q = w7.frozen? q := fun q => by rw [hw8]; rfl
                have HB8 : RowKit.Hid (Below w.heap.size w w8) := Lib.hid (by rw [hw8]; exact below_drewN HB7.out j)
                have HO8 : RowKit.Hid (Sq w8 3 1 (.slice ao4 (2 + 1) cap4) (2 + 1) (nm (P ++ [(tt : Int)]))) := Lib.hid (by rw [hw8]; exact Sq.drewN HO7.out j)
                rw [← hc8] at e0
                rw [← hc8] at e1
                rw [← hc8] at e2
                rw [← hc8] at e3
                rw [← hc8] at e4
                rw [← hc8] at e5
                rw [← hc8] at e6
                rw [← hc8] at a0
                rw [← hc8] at a1
                rw [← hc8] at a2
                rw [← hc8] at a3
                rw [← hc8] at a4
                rw [← hc8] at a5
                rw [← hc8] at a6
                rw [← hc8] at a7
                rw [← hc8] at a8
                rw [← hc8] at b0
                rw [← hc8] at b1
                rw [← hc8] at b2
                rw [← hc8] at b3
                rw [← hc8] at b4
                rw [← hc8] at b5
                rw [← hc8] at b6
                rw [← hc8] at b7
                rw [← hc8] at b8
                replace fz1 := fun j => (hf8 _).trans (fz1 j)
                replace fz2 := fun j => (hf8 _).trans (fz2 j)
                rw [← hw8]
                clear hc8 hf8 hw8 HB7 HO7 HC7 HM7 c07
                go_still_tail 11, (by kernel_rfl)
                still_call ((HDN.out _).mono fun _ _ h => ⟨h.1, h.2.symm⟩)
                repeat still_step
                refine wpStill_nil ?_
                change wpList _ _ _ _ _ (World.drew _)
                go_wp2_with fail
                try rw [Exit.noGoto_ret]
                refine bodyPost_ret (v := .tuple #[.agg #[.int .i64 fr, .bool true, .bool wq, .bool true, .bool false, .bool us, .bool di, .int .i64 1, .int .i64 (fr + page - dd)], .slice ao4 (2 + 1) cap4, .int .i64 a, .int .i64 0]) ?_ rfl ?_
                · obtain ⟨k0, k1, k2, k3, k4, k5, k6, k7, k8⟩ := st99_cells (w := w8) (B := w.heap.size + 1) (D := w1.heap.size) a0 a1 a2 a3 a4 a5 a6 a7 a8 (by omega)
                  exact res26d _ _ (w.heap.size + 1) _ _ _ _ _ _ _ _ _ _ _ _ rfl rfl rfl rfl k0 k1 k2 k3 k4 k5 k6 k7 k8
                refine ⟨.slice ao4 (2 + 1) cap4, ?_, ?_, ?_⟩
                · rw [HRR.out]
                  show _ = Ending.returned (.tuple #[LV x ((1 : Nat) : Int) (fr + page - dd), _, .int .i64 a, .int .i64 0])
                  rw [HLV.out] <;> rfl
                · rw [HRR.out]
                  refine RI_of ?_ (by rw [List.length_append, HPL.out] <;> rfl)
                  refine Sq.drew ?_
                  refine st9_sq HLOW.out (by omega) ?_
                  exact st9_sq HLOW.out (by omega) HO8.out
                · refine below_drewX ?_
                  refine st9_below ?_ (Nat.le_succ _)
                  exact st9_below HB8.out (by omega)
          · cases hu
            ·
              clear hpp
              go_wp2_with fail
              have hR : R = FORM := by rw [HST2.out]; rfl
              try rw [Exit.noGoto_ret]
              refine bodyPost_ret (v := .tuple #[.agg #[.int .i64 0, .bool false, .bool false, .bool false, .bool false, .bool false, .bool false, .int .i64 0, .int .i64 0], .slice none 0 0, .int .i64 0, .int .i64 5]) ?_ rfl ?_
              · obtain ⟨k0, k1, k2, k3, k4, k5, k6, k7, k8⟩ := st9_cells a0 a1 a2 a3 a4 a5 a6 a7 a8
                exact res26 _ _ (w.heap.size + 1) _ _ _ _ _ _ _ _ _ _ _ _ rfl rfl rfl rfl k0 k1 k2 k3 k4 k5 k6 k7 k8
              exact ⟨_, by rw [hR, LVF]; rfl, by rw [hR]; exact RV.nil _ _, st9_below HB7.out (Nat.le_succ _)⟩
            ·
              clear hpp
              go_wp2_with fail
              have hR : R = FORM := by rw [HST2.out]; rfl
              try rw [Exit.noGoto_ret]
              refine bodyPost_ret (v := .tuple #[.agg #[.int .i64 0, .bool false, .bool false, .bool false, .bool false, .bool false, .bool false, .int .i64 0, .int .i64 0], .slice none 0 0, .int .i64 0, .int .i64 5]) ?_ rfl ?_
              · obtain ⟨k0, k1, k2, k3, k4, k5, k6, k7, k8⟩ := st9_cells a0 a1 a2 a3 a4 a5 a6 a7 a8
                exact res26 _ _ (w.heap.size + 1) _ _ _ _ _ _ _ _ _ _ _ _ rfl rfl rfl rfl k0 k1 k2 k3 k4 k5 k6 k7 k8
              exact ⟨_, by rw [hR, LVF]; rfl, by rw [hR]; exact RV.nil _ _, st9_below HB7.out (Nat.le_succ _)⟩
      · have hok' : E.unok x = false := by simpa using hok
        rw [ent_no' hok', une_no' hok']
        go_upto_region 17 with fail
        have hA7 : Below w6.heap.size w6 (w6.alloc (.cells #[.int .i64 0, .bool false, .bool false, .bool false, .bool false, .bool false, .bool false] 24)) := (Below.refl _ w6).alloc (Nat.le_refl _) _
        have q3 : (w6.alloc (.cells #[.int .i64 0, .bool false, .bool false, .bool false, .bool false, .bool false, .bool false] 24)).heap[w6.heap.size]? = some (.cells #[.int .i64 0, .bool false, .bool false, .bool false, .bool false, .bool false, .bool false] 24 (0, 0)) := Deep.blk_alloc_new _ _
        have q2' := (hA7.block _ (lt_of_block q2)).trans q2
        have q1' := (hA7.block _ (lt_of_block q1)).trans q1
        have HB7 := Lib.hid (HB6.out.trans (hA7.mono HB6.out.size))
        have HO7 := Lib.hid ((HO4.out.below hb6).below hA7)
        have HC7 := Lib.hid ((HC4.out.trans (Chg.of_below hb6)).trans (Chg.of_below hA7))
        have HLOW : RowKit.Hid (∀ b, b ∈ vblk (.slice ao4 (2 + 1) cap4) → w5.heap.size ≤ b) := Lib.hid (HC4.out.ge (fun b hb => by simp at hb) (Nat.le_refl _))
        have c07 := cell_keep hA7 c06
        have HM7 := Lib.hid ((HM4.out.below hb6).below hA7)
        have hz7 : w6.heap.size < (w6.alloc (.cells #[.int .i64 0, .bool false, .bool false, .bool false, .bool false, .bool false, .bool false] 24)).heap.size := by rw [World.size_alloc]; omega
        clear hA7
        generalize w6.alloc (.cells #[.int .i64 0, .bool false, .bool false, .bool false, .bool false, .bool false, .bool false] 24) = w7 at *
        obtain ⟨e0, e1, e2, e3, e4, e5, e6⟩ := row7 q3
        obtain ⟨a0, a1, a2, a3, a4, a5, a6, a7, a8⟩ := row9 q1'
        obtain ⟨b0, b1, b2, b3, b4, b5, b6, b7, b8⟩ := row9 q2'
        have fz1 := fun j => frozen_of_row w7 (w.heap.size + 1) j _ 41 q1'
        have fz2 := fun j => frozen_of_row w7 w1.heap.size j _ 41 q2'
        have HSZ : w.heap.size + 1 < w1.heap.size ∧ w1.heap.size < w5.heap.size ∧ w5.heap.size ≤ w6.heap.size ∧ w6.heap.size < w7.heap.size := ⟨hz, by omega, hb46, hz7⟩
        clear q1 q2 q1' q2' q3 hb6 hb5w c06 hb46 hxr
        go_wp2_with fail
        have hR : R = FORM := by rw [← HST.out]; unfold st; rw [if_pos hok']
        try rw [Exit.noGoto_ret]
        refine bodyPost_ret (v := .tuple #[.agg #[.int .i64 0, .bool false, .bool false, .bool false, .bool false, .bool false, .bool false, .int .i64 0, .int .i64 0], .slice none 0 0, .int .i64 0, .int .i64 5]) ?_ rfl ?_
        · obtain ⟨k0, k1, k2, k3, k4, k5, k6, k7, k8⟩ := st9_cells a0 a1 a2 a3 a4 a5 a6 a7 a8
          exact res26 _ _ (w.heap.size + 1) _ _ _ _ _ _ _ _ _ _ _ _ rfl rfl rfl rfl k0 k1 k2 k3 k4 k5 k6 k7 k8
        exact ⟨_, by rw [hR, LVF]; rfl, by rw [hR]; exact RV.nil _ _, st9_below HB7.out (Nat.le_succ _)⟩
    ·
      have hdd := cell_keep hb5 (HD.out 1 (.int .i64 (page / 64 % 8)) rfl)
      obtain ⟨a, ha⟩ : ∃ a : Nat, page / 64 % 8 = (a : Int) := ⟨(page / 64 % 8).toNat, by omega⟩
      have ha8 : a < 8 := by omega
      rw [ha] at hdd
      obtain ⟨x, hx⟩ : ∃ x, wd f (64 * tt + 8 * a) = x := ⟨_, rfl⟩
      have hst := wk_st n f page 2 tt P x a ha.symm (by rw [← hx, Int.toNat_natCast])
      rw [HI.out.2.1] at hst
      obtain ⟨rest, hrest⟩ : ∃ r, wk n f page 2 (x / 4096).toNat (P ++ [(tt : Int)]) = r := ⟨_, rfl⟩
      rw [hrest] at hst
      have HST := Lib.hid hst.symm
      have HREST := Lib.hid hrest
      obtain rfl : pl = 1 := by omega
      have hA9 : Below wr.heap.size wr (wr.alloc (.cells #[.int .i64 tt] 3)) := (Below.refl _ wr).alloc (Nat.le_refl _) _
      have hown9 := HI.out.2.2.1.below hA9
      have hnew9 := news_alloc wr #[.int .i64 tt] 3
      have HC9 := Lib.hid (HI.out.2.2.2.trans (Chg.of_below hA9))
      have HPL := Lib.hid HI.out.1
      have HX := Lib.hid hx
      have HA := Lib.hid ha
      have hxr := wd_range f HM1.out.2.2.2.2.2.2 (64 * tt + 8 * a)
      rw [hx] at hxr
      clear hst hrest hA9 HI ha hx
      go_wp2_with (at_builtin; refine wpList_append_any _ rfl (.tmp 48) (.tmp 50) 45 rfl 3 i0 (.int .i64 0) 1 8 Try.underlying45 hi0 hz0 hz1 hz2 rfl (by decide) (.slice ao 1 cap) 1 (nm P) rfl hown9 (some ⟨wr.heap.size, 0, none⟩) 1 1 (nm [(tt : Int)]) rfl (fun h => by cases h) rfl (fun a ha => by cases ha; exact hnew9) (nm_onecell _) (by unfold maxLen; omega) (by omega) ?_; intro v' w4 hown4 hgr4; obtain ⟨ao4, cap4, rfl, _, _⟩ := Sq.slice hown4; have HO4 := Lib.hid (nm_append P [(tt : Int)] ▸ hown4); have HC4 := Lib.hid (HC9.out.trans hgr4); clear hown4 hgr4 hown9 hnew9 hdd c0r; have hb4 := HC4.out.below (fun b hb => by simp at hb) (Nat.le_refl _); have hdd := HA.out ▸ cell_keep hb4 (HD.out 1 (.int .i64 (page / 64 % 8)) rfl); (try rw [Nat.add_zero] at hdd); have c04 := cell_keep hb4 hc5; have HM4 := Lib.hid (HM5.out.below hb4))
      refine (word_ok g b n f tt a _ HM4.out htt ha8).mono ?_
      rintro e w6 ⟨rfl, hb6⟩
      rw [HX.out]
      have hb46 : w5.heap.size ≤ w6.heap.size := Nat.le_trans hb4.size hb6.size
      have hb5w : Below w5.heap.size w5 w6 := hb4.trans (hb6.mono hb4.size)
      have HB6 := Lib.hid (HB5.out.trans (hb5w.mono HB5.out.size))
      have c06 := cell_keep hb6 c04
      have q2 : w6.heap[w1.heap.size]? = some (.cells #[.int .i64 0, .bool false, .bool false, .bool false, .bool false, .bool false, .bool false, .int .i64 0, .int .i64 0] 41 (0, 0)) := (hb5w.block _ (by omega)).trans HQ2.out
      have q1 : w6.heap[w.heap.size + 1]? = some (.cells #[.int .i64 0, .bool false, .bool false, .bool false, .bool false, .bool false, .bool false, .int .i64 0, .int .i64 0] 41 (0, 0)) := (hb5w.block _ (by omega)).trans HQ1.out
      clear hdd hb4 c04
      by_cases hok : E.unok x = true
      · by_cases hx0 : x = 0
        · subst hx0
          rw [ent0, une0]
          go_upto_region 17 with fail
          have hA7 : Below w6.heap.size w6 (w6.alloc (.cells #[.int .i64 0, .bool false, .bool false, .bool false, .bool false, .bool false, .bool false] 24)) := (Below.refl _ w6).alloc (Nat.le_refl _) _
          have q3 : (w6.alloc (.cells #[.int .i64 0, .bool false, .bool false, .bool false, .bool false, .bool false, .bool false] 24)).heap[w6.heap.size]? = some (.cells #[.int .i64 0, .bool false, .bool false, .bool false, .bool false, .bool false, .bool false] 24 (0, 0)) := Deep.blk_alloc_new _ _
          have q2' := (hA7.block _ (lt_of_block q2)).trans q2
          have q1' := (hA7.block _ (lt_of_block q1)).trans q1
          have HB7 := Lib.hid (HB6.out.trans (hA7.mono HB6.out.size))
          have HO7 := Lib.hid ((HO4.out.below hb6).below hA7)
          have HC7 := Lib.hid ((HC4.out.trans (Chg.of_below hb6)).trans (Chg.of_below hA7))
          have HLOW : RowKit.Hid (∀ b, b ∈ vblk (.slice ao4 (1 + 1) cap4) → w5.heap.size ≤ b) := Lib.hid (HC4.out.ge (fun b hb => by simp at hb) (Nat.le_refl _))
          have c07 := cell_keep hA7 c06
          have HM7 := Lib.hid ((HM4.out.below hb6).below hA7)
          have hz7 : w6.heap.size < (w6.alloc (.cells #[.int .i64 0, .bool false, .bool false, .bool false, .bool false, .bool false, .bool false] 24)).heap.size := by rw [World.size_alloc]; omega
          clear hA7
          generalize w6.alloc (.cells #[.int .i64 0, .bool false, .bool false, .bool false, .bool false, .bool false, .bool false] 24) = w7 at *
          obtain ⟨e0, e1, e2, e3, e4, e5, e6⟩ := row7 q3
          obtain ⟨a0, a1, a2, a3, a4, a5, a6, a7, a8⟩ := row9 q1'
          obtain ⟨b0, b1, b2, b3, b4, b5, b6, b7, b8⟩ := row9 q2'
          have fz1 := fun j => frozen_of_row w7 (w.heap.size + 1) j _ 41 q1'
          have fz2 := fun j => frozen_of_row w7 w1.heap.size j _ 41 q2'
          have HSZ : w.heap.size + 1 < w1.heap.size ∧ w1.heap.size < w5.heap.size ∧ w5.heap.size ≤ w6.heap.size ∧ w6.heap.size < w7.heap.size := ⟨hz, by omega, hb46, hz7⟩
          clear q1 q2 q1' q2' q3 hb6 hb5w c06 hb46 hxr
          have hR : R = ⟨0, 0, 0, 0, 6, P ++ [(tt : Int)]⟩ := by rw [← HST.out]; unfold st; rw [if_neg (by rw [hok]; decide), if_pos rfl]
          go_wp2_with fail
          try rw [Exit.noGoto_ret]
          refine bodyPost_ret (v := .tuple #[.agg #[.int .i64 0, .bool false, .bool false, .bool false, .bool false, .bool false, .bool false, .int .i64 0, .int .i64 0], .slice ao4 (1 + 1) cap4, .int .i64 0, .int .i64 6]) ?_ rfl ?_
          · obtain ⟨k0, k1, k2, k3, k4, k5, k6, k7, k8⟩ := st9_cells a0 a1 a2 a3 a4 a5 a6 a7 a8
            exact res26 _ _ (w.heap.size + 1) _ _ _ _ _ _ _ _ _ _ _ _ rfl rfl rfl rfl k0 k1 k2 k3 k4 k5 k6 k7 k8
          refine ⟨_, by rw [hR, LVN], ?_, st9_below HB7.out (Nat.le_succ _)⟩
          rw [hR]
          refine RI_of ?_ (by rw [List.length_append, HPL.out] <;> rfl)
          exact st9_sq HLOW.out (by omega) HO7.out
        · have hfr := ok_fr hok
          have hpp := ok_p hok hx0
          have hst1 : R = (if bd x 2 = true then FORM else if thr n (x / 4096) (od x 2) = false then FORM else if E.tb x 7 = true ∨ 2 = 0 then ⟨x, (2 : Nat), x / 4096 + page - G.dwn page (od x 2), a, 0, P ++ [(tt : Int)]⟩ else rest) := by rw [← HST.out]; unfold st; rw [if_neg (by rw [hok]; decide), if_neg hx0]
          have HLV := Lib.hid (fun lev frm => LV_yes (lev := lev) (frm := frm) hok)
          have HST2 := Lib.hid hst1
          rw [ent_yes' hok, une_yes' hok]
          unfold bd od at HST2
          clear hst1 hx0 hok HST
          obtain ⟨fr, hgfr⟩ : ∃ fr, x / 4096 = fr := ⟨_, rfl⟩
          have HFR := Lib.hid hgfr
          rw [hgfr] at hfr HST2 HLV HREST ⊢
          clear hgfr
          generalize E.tb x 7 = hu at *
          generalize E.tb x 9 = he at *
          generalize E.tb x 0 = p at *
          generalize E.tb x 1 = wq at *
          generalize E.tb x 5 = us at *
          generalize E.tb x 6 = di at *
          go_upto_region 17 with fail
          have hA7 : Below w6.heap.size w6 (w6.alloc (.cells #[.int .i64 fr, .bool p, .bool wq, .bool hu, .bool he, .bool us, .bool di] 24)) := (Below.refl _ w6).alloc (Nat.le_refl _) _
          have q3 : (w6.alloc (.cells #[.int .i64 fr, .bool p, .bool wq, .bool hu, .bool he, .bool us, .bool di] 24)).heap[w6.heap.size]? = some (.cells #[.int .i64 fr, .bool p, .bool wq, .bool hu, .bool he, .bool us, .bool di] 24 (0, 0)) := Deep.blk_alloc_new _ _
          have q2' := (hA7.block _ (lt_of_block q2)).trans q2
          have q1' := (hA7.block _ (lt_of_block q1)).trans q1
          have HB7 := Lib.hid (HB6.out.trans (hA7.mono HB6.out.size))
          have HO7 := Lib.hid ((HO4.out.below hb6).below hA7)
          have HC7 := Lib.hid ((HC4.out.trans (Chg.of_below hb6)).trans (Chg.of_below hA7))
          have HLOW : RowKit.Hid (∀ b, b ∈ vblk (.slice ao4 (1 + 1) cap4) → w5.heap.size ≤ b) := Lib.hid (HC4.out.ge (fun b hb => by simp at hb) (Nat.le_refl _))
          have c07 := cell_keep hA7 c06
          have HM7 := Lib.hid ((HM4.out.below hb6).below hA7)
          have hz7 : w6.heap.size < (w6.alloc (.cells #[.int .i64 fr, .bool p, .bool wq, .bool hu, .bool he, .bool us, .bool di] 24)).heap.size := by rw [World.size_alloc]; omega
          clear hA7
          generalize w6.alloc (.cells #[.int .i64 fr, .bool p, .bool wq, .bool hu, .bool he, .bool us, .bool di] 24) = w7 at *
          obtain ⟨e0, e1, e2, e3, e4, e5, e6⟩ := row7 q3
          obtain ⟨a0, a1, a2, a3, a4, a5, a6, a7, a8⟩ := row9 q1'
          obtain ⟨b0, b1, b2, b3, b4, b5, b6, b7, b8⟩ := row9 q2'
          have fz1 := fun j => frozen_of_row w7 (w.heap.size + 1) j _ 41 q1'
          have fz2 := fun j => frozen_of_row w7 w1.heap.size j _ 41 q2'
          have HSZ : w.heap.size + 1 < w1.heap.size ∧ w1.heap.size < w5.heap.size ∧ w5.heap.size ≤ w6.heap.size ∧ w6.heap.size < w7.heap.size := ⟨hz, by omega, hb46, hz7⟩
          clear q1 q2 q1' q2' q3 hb6 hb5w c06 hb46 hxr
          cases he
          · cases hu
            ·
              obtain rfl : p = true := hpp rfl
              go_wp2_with fail
              refine (there_any g b n w.heap.size f fr 0 _ HM7.out hfr (by omega) c07).mono ?_
              rintro e w8 ⟨rfl, j, rfl⟩
              cases hth : thr n fr 0
              ·
                go_wp2_with fail
                have hR : R = FORM := by rw [HST2.out]; exact thr_form hth
                try rw [Exit.noGoto_ret]
                refine bodyPost_ret (v := .tuple #[.agg #[.int .i64 0, .bool false, .bool false, .bool false, .bool false, .bool false, .bool false, .int .i64 0, .int .i64 0], .slice none 0 0, .int .i64 0, .int .i64 5]) ?_ rfl ?_
                · obtain ⟨k0, k1, k2, k3, k4, k5, k6, k7, k8⟩ := st9_cells (w := w7.drewN j) a0 a1 a2 a3 a4 a5 a6 a7 a8
                  exact res26 _ _ (w.heap.size + 1) _ _ _ _ _ _ _ _ _ _ _ _ rfl rfl rfl rfl k0 k1 k2 k3 k4 k5 k6 k7 k8
                exact ⟨_, by rw [hR, LVF]; rfl, by rw [hR]; exact RV.nil _ _, st9_below (below_drewN HB7.out j) (Nat.le_succ _)⟩
              · have hR : R = rest := by rw [HST2.out]; exact thr_next hth
                have HRR := Lib.hid (HREST.out.trans hR.symm)
                have hlt := thr_lt hth (.inl rfl)
                have hft : ((fr.toNat : Nat) : Int) = fr := by omega
                clear hR
                go_wp2_with fail
                go_roundw
                case rel => exact ⟨1, fr.toNat, 2, cap4, P ++ [(tt : Int)], ao4, by omega, by omega, rfl, by go_num, by rw [hft], rfl, Lib.hid ⟨by rw [List.length_append, HPL.out] <;> rfl, HRR.out, Sq.drewN HO7.out j, Chg.drewN HC7.out j⟩⟩
                case measure => simp [intOf]
            ·
              obtain rfl : p = true := hpp rfl
              go_wp2_with fail
              refine (there_any g b n w.heap.size f fr 6 _ HM7.out hfr (by omega) c07).mono ?_
              rintro e w8 ⟨rfl, j, rfl⟩
              cases hth : thr n fr 6
              ·
                go_wp2_with fail
                have hR : R = FORM := by rw [HST2.out]; exact thr_form hth
                try rw [Exit.noGoto_ret]
                refine bodyPost_ret (v := .tuple #[.agg #[.int .i64 0, .bool false, .bool false, .bool false, .bool false, .bool false, .bool false, .int .i64 0, .int .i64 0], .slice none 0 0, .int .i64 0, .int .i64 5]) ?_ rfl ?_
                · obtain ⟨k0, k1, k2, k3, k4, k5, k6, k7, k8⟩ := st9_cells (w := w7.drewN j) a0 a1 a2 a3 a4 a5 a6 a7 a8
                  exact res26 _ _ (w.heap.size + 1) _ _ _ _ _ _ _ _ _ _ _ _ rfl rfl rfl rfl k0 k1 k2 k3 k4 k5 k6 k7 k8
                exact ⟨_, by rw [hR, LVF]; rfl, by rw [hR]; exact RV.nil _ _, st9_below (below_drewN HB7.out j) (Nat.le_succ _)⟩
              · have hd := dwn_le page 6 hp
                have hR : R = ⟨x, (2 : Nat), fr + page - G.dwn page 6, a, 0, P ++ [(tt : Int)]⟩ := by rw [HST2.out]; exact thr_leaf hth
                have HRR := Lib.hid hR
                clear hR hth
                have HDN := Lib.hid (fun w => G.down_any page 6 w (by omega) (by omega))
                generalize G.dwn page 6 = dd at *
                have hw1 : IntKind.i64.wrap (fr + page) = fr + page := by rw [IntKind.wrap_i64]; omega
                have hw2 : IntKind.i64.wrap (fr + page - dd) = fr + page - dd := by rw [IntKind.wrap_i64]; omega
                go_upto_region 29 with fail
                obtain ⟨w8, hw8⟩ : ∃ w8, w8 = w7.drewN j := ⟨_, rfl⟩
                have hc8 : ∀ q, w8.cell? q = w7.cell? q := fun q => by rw [hw8]; rfl
                have hf8 : ∀ q, w8.frozen? q = w7.frozen? q := fun q => by rw [hw8]; rfl
                have HB8 : RowKit.Hid (Below w.heap.size w w8) := Lib.hid (by rw [hw8]; exact below_drewN HB7.out j)
                have HO8 : RowKit.Hid (Sq w8 3 1 (.slice ao4 (1 + 1) cap4) (1 + 1) (nm (P ++ [(tt : Int)]))) := Lib.hid (by rw [hw8]; exact Sq.drewN HO7.out j)
                rw [← hc8] at e0
                rw [← hc8] at e1
                rw [← hc8] at e2
                rw [← hc8] at e3
                rw [← hc8] at e4
                rw [← hc8] at e5
                rw [← hc8] at e6
                rw [← hc8] at a0
                rw [← hc8] at a1
                rw [← hc8] at a2
                rw [← hc8] at a3
                rw [← hc8] at a4
                rw [← hc8] at a5
                rw [← hc8] at a6
                rw [← hc8] at a7
                rw [← hc8] at a8
                rw [← hc8] at b0
                rw [← hc8] at b1
                rw [← hc8] at b2
                rw [← hc8] at b3
                rw [← hc8] at b4
                rw [← hc8] at b5
                rw [← hc8] at b6
                rw [← hc8] at b7
                rw [← hc8] at b8
                replace fz1 := fun j => (hf8 _).trans (fz1 j)
                replace fz2 := fun j => (hf8 _).trans (fz2 j)
                rw [← hw8]
                clear hc8 hf8 hw8 HB7 HO7 HC7 HM7 c07
                go_still_tail 11, (by kernel_rfl)
                still_call ((HDN.out _).mono fun _ _ h => ⟨h.1, h.2.symm⟩)
                repeat still_step
                refine wpStill_nil ?_
                change wpList _ _ _ _ _ (World.drew _)
                go_wp2_with fail
                try rw [Exit.noGoto_ret]
                refine bodyPost_ret (v := .tuple #[.agg #[.int .i64 fr, .bool true, .bool wq, .bool true, .bool false, .bool us, .bool di, .int .i64 2, .int .i64 (fr + page - dd)], .slice ao4 (1 + 1) cap4, .int .i64 a, .int .i64 0]) ?_ rfl ?_
                · obtain ⟨k0, k1, k2, k3, k4, k5, k6, k7, k8⟩ := st99_cells (w := w8) (B := w.heap.size + 1) (D := w1.heap.size) a0 a1 a2 a3 a4 a5 a6 a7 a8 (by omega)
                  exact res26d _ _ (w.heap.size + 1) _ _ _ _ _ _ _ _ _ _ _ _ rfl rfl rfl rfl k0 k1 k2 k3 k4 k5 k6 k7 k8
                refine ⟨.slice ao4 (1 + 1) cap4, ?_, ?_, ?_⟩
                · rw [HRR.out]
                  show _ = Ending.returned (.tuple #[LV x ((2 : Nat) : Int) (fr + page - dd), _, .int .i64 a, .int .i64 0])
                  rw [HLV.out] <;> rfl
                · rw [HRR.out]
                  refine RI_of ?_ (by rw [List.length_append, HPL.out] <;> rfl)
                  refine Sq.drew ?_
                  refine st9_sq HLOW.out (by omega) ?_
                  exact st9_sq HLOW.out (by omega) HO8.out
                · refine below_drewX ?_
                  refine st9_below ?_ (Nat.le_succ _)
                  exact st9_below HB8.out (by omega)
          · cases hu
            ·
              clear hpp
              go_wp2_with fail
              have hR : R = FORM := by rw [HST2.out]; rfl
              try rw [Exit.noGoto_ret]
              refine bodyPost_ret (v := .tuple #[.agg #[.int .i64 0, .bool false, .bool false, .bool false, .bool false, .bool false, .bool false, .int .i64 0, .int .i64 0], .slice none 0 0, .int .i64 0, .int .i64 5]) ?_ rfl ?_
              · obtain ⟨k0, k1, k2, k3, k4, k5, k6, k7, k8⟩ := st9_cells a0 a1 a2 a3 a4 a5 a6 a7 a8
                exact res26 _ _ (w.heap.size + 1) _ _ _ _ _ _ _ _ _ _ _ _ rfl rfl rfl rfl k0 k1 k2 k3 k4 k5 k6 k7 k8
              exact ⟨_, by rw [hR, LVF]; rfl, by rw [hR]; exact RV.nil _ _, st9_below HB7.out (Nat.le_succ _)⟩
            ·
              clear hpp
              go_wp2_with fail
              have hR : R = FORM := by rw [HST2.out]; rfl
              try rw [Exit.noGoto_ret]
              refine bodyPost_ret (v := .tuple #[.agg #[.int .i64 0, .bool false, .bool false, .bool false, .bool false, .bool false, .bool false, .int .i64 0, .int .i64 0], .slice none 0 0, .int .i64 0, .int .i64 5]) ?_ rfl ?_
              · obtain ⟨k0, k1, k2, k3, k4, k5, k6, k7, k8⟩ := st9_cells a0 a1 a2 a3 a4 a5 a6 a7 a8
                exact res26 _ _ (w.heap.size + 1) _ _ _ _ _ _ _ _ _ _ _ _ rfl rfl rfl rfl k0 k1 k2 k3 k4 k5 k6 k7 k8
              exact ⟨_, by rw [hR, LVF]; rfl, by rw [hR]; exact RV.nil _ _, st9_below HB7.out (Nat.le_succ _)⟩
      · have hok' : E.unok x = false := by simpa using hok
        rw [ent_no' hok', une_no' hok']
        go_upto_region 17 with fail
        have hA7 : Below w6.heap.size w6 (w6.alloc (.cells #[.int .i64 0, .bool false, .bool false, .bool false, .bool false, .bool false, .bool false] 24)) := (Below.refl _ w6).alloc (Nat.le_refl _) _
        have q3 : (w6.alloc (.cells #[.int .i64 0, .bool false, .bool false, .bool false, .bool false, .bool false, .bool false] 24)).heap[w6.heap.size]? = some (.cells #[.int .i64 0, .bool false, .bool false, .bool false, .bool false, .bool false, .bool false] 24 (0, 0)) := Deep.blk_alloc_new _ _
        have q2' := (hA7.block _ (lt_of_block q2)).trans q2
        have q1' := (hA7.block _ (lt_of_block q1)).trans q1
        have HB7 := Lib.hid (HB6.out.trans (hA7.mono HB6.out.size))
        have HO7 := Lib.hid ((HO4.out.below hb6).below hA7)
        have HC7 := Lib.hid ((HC4.out.trans (Chg.of_below hb6)).trans (Chg.of_below hA7))
        have HLOW : RowKit.Hid (∀ b, b ∈ vblk (.slice ao4 (1 + 1) cap4) → w5.heap.size ≤ b) := Lib.hid (HC4.out.ge (fun b hb => by simp at hb) (Nat.le_refl _))
        have c07 := cell_keep hA7 c06
        have HM7 := Lib.hid ((HM4.out.below hb6).below hA7)
        have hz7 : w6.heap.size < (w6.alloc (.cells #[.int .i64 0, .bool false, .bool false, .bool false, .bool false, .bool false, .bool false] 24)).heap.size := by rw [World.size_alloc]; omega
        clear hA7
        generalize w6.alloc (.cells #[.int .i64 0, .bool false, .bool false, .bool false, .bool false, .bool false, .bool false] 24) = w7 at *
        obtain ⟨e0, e1, e2, e3, e4, e5, e6⟩ := row7 q3
        obtain ⟨a0, a1, a2, a3, a4, a5, a6, a7, a8⟩ := row9 q1'
        obtain ⟨b0, b1, b2, b3, b4, b5, b6, b7, b8⟩ := row9 q2'
        have fz1 := fun j => frozen_of_row w7 (w.heap.size + 1) j _ 41 q1'
        have fz2 := fun j => frozen_of_row w7 w1.heap.size j _ 41 q2'
        have HSZ : w.heap.size + 1 < w1.heap.size ∧ w1.heap.size < w5.heap.size ∧ w5.heap.size ≤ w6.heap.size ∧ w6.heap.size < w7.heap.size := ⟨hz, by omega, hb46, hz7⟩
        clear q1 q2 q1' q2' q3 hb6 hb5w c06 hb46 hxr
        go_wp2_with fail
        have hR : R = FORM := by rw [← HST.out]; unfold st; rw [if_pos hok']
        try rw [Exit.noGoto_ret]
        refine bodyPost_ret (v := .tuple #[.agg #[.int .i64 0, .bool false, .bool false, .bool false, .bool false, .bool false, .bool false, .int .i64 0, .int .i64 0], .slice none 0 0, .int .i64 0, .int .i64 5]) ?_ rfl ?_
        · obtain ⟨k0, k1, k2, k3, k4, k5, k6, k7, k8⟩ := st9_cells a0 a1 a2 a3 a4 a5 a6 a7 a8
          exact res26 _ _ (w.heap.size + 1) _ _ _ _ _ _ _ _ _ _ _ _ rfl rfl rfl rfl k0 k1 k2 k3 k4 k5 k6 k7 k8
        exact ⟨_, by rw [hR, LVF]; rfl, by rw [hR]; exact RV.nil _ _, st9_below HB7.out (Nat.le_succ _)⟩
    ·
      have hdd := cell_keep hb5 (HD.out 0 (.int .i64 (page / 512)) rfl)
      obtain ⟨a, ha⟩ : ∃ a : Nat, page / 512 = (a : Int) := ⟨(page / 512).toNat, by omega⟩
      have ha8 : a < 8 := by omega
      rw [ha] at hdd
      obtain ⟨x, hx⟩ : ∃ x, wd f (64 * tt + 8 * a) = x := ⟨_, rfl⟩
      have hst := wk_st n f page 3 tt P x a ha.symm (by rw [← hx, Int.toNat_natCast])
      rw [HI.out.2.1] at hst
      obtain ⟨rest, hrest⟩ : ∃ r, wk n f page 3 (x / 4096).toNat (P ++ [(tt : Int)]) = r := ⟨_, rfl⟩
      rw [hrest] at hst
      have HST := Lib.hid hst.symm
      have HREST := Lib.hid hrest
      obtain rfl : pl = 0 := by omega
      have hA9 : Below wr.heap.size wr (wr.alloc (.cells #[.int .i64 tt] 3)) := (Below.refl _ wr).alloc (Nat.le_refl _) _
      have hown9 := HI.out.2.2.1.below hA9
      have hnew9 := news_alloc wr #[.int .i64 tt] 3
      have HC9 := Lib.hid (HI.out.2.2.2.trans (Chg.of_below hA9))
      have HPL := Lib.hid HI.out.1
      have HX := Lib.hid hx
      have HA := Lib.hid ha
      have hxr := wd_range f HM1.out.2.2.2.2.2.2 (64 * tt + 8 * a)
      rw [hx] at hxr
      clear hst hrest hA9 HI ha hx
      go_wp2_with (at_builtin; refine wpList_append_any _ rfl (.tmp 48) (.tmp 50) 45 rfl 3 i0 (.int .i64 0) 1 8 Try.underlying45 hi0 hz0 hz1 hz2 rfl (by decide) (.slice ao 0 cap) 0 (nm P) rfl hown9 (some ⟨wr.heap.size, 0, none⟩) 1 1 (nm [(tt : Int)]) rfl (fun h => by cases h) rfl (fun a ha => by cases ha; exact hnew9) (nm_onecell _) (by unfold maxLen; omega) (by omega) ?_; intro v' w4 hown4 hgr4; obtain ⟨ao4, cap4, rfl, _, _⟩ := Sq.slice hown4; have HO4 := Lib.hid (nm_append P [(tt : Int)] ▸ hown4); have HC4 := Lib.hid (HC9.out.trans hgr4); clear hown4 hgr4 hown9 hnew9 hdd c0r; have hb4 := HC4.out.below (fun b hb => by simp at hb) (Nat.le_refl _); have hdd := HA.out ▸ cell_keep hb4 (HD.out 0 (.int .i64 (page / 512)) rfl); (try rw [Nat.add_zero] at hdd); have c04 := cell_keep hb4 hc5; have HM4 := Lib.hid (HM5.out.below hb4))
      refine (word_ok g b n f tt a _ HM4.out htt ha8).mono ?_
      rintro e w6 ⟨rfl, hb6⟩
      rw [HX.out]
      have hb46 : w5.heap.size ≤ w6.heap.size := Nat.le_trans hb4.size hb6.size
      have hb5w : Below w5.heap.size w5 w6 := hb4.trans (hb6.mono hb4.size)
      have HB6 := Lib.hid (HB5.out.trans (hb5w.mono HB5.out.size))
      have c06 := cell_keep hb6 c04
      have q2 : w6.heap[w1.heap.size]? = some (.cells #[.int .i64 0, .bool false, .bool false, .bool false, .bool false, .bool false, .bool false, .int .i64 0, .int .i64 0] 41 (0, 0)) := (hb5w.block _ (by omega)).trans HQ2.out
      have q1 : w6.heap[w.heap.size + 1]? = some (.cells #[.int .i64 0, .bool false, .bool false, .bool false, .bool false, .bool false, .bool false, .int .i64 0, .int .i64 0] 41 (0, 0)) := (hb5w.block _ (by omega)).trans HQ1.out
      clear hdd hb4 c04
      by_cases hok : E.unok x = true
      · by_cases hx0 : x = 0
        · subst hx0
          rw [ent0, une0]
          go_upto_region 17 with fail
          have hA7 : Below w6.heap.size w6 (w6.alloc (.cells #[.int .i64 0, .bool false, .bool false, .bool false, .bool false, .bool false, .bool false] 24)) := (Below.refl _ w6).alloc (Nat.le_refl _) _
          have q3 : (w6.alloc (.cells #[.int .i64 0, .bool false, .bool false, .bool false, .bool false, .bool false, .bool false] 24)).heap[w6.heap.size]? = some (.cells #[.int .i64 0, .bool false, .bool false, .bool false, .bool false, .bool false, .bool false] 24 (0, 0)) := Deep.blk_alloc_new _ _
          have q2' := (hA7.block _ (lt_of_block q2)).trans q2
          have q1' := (hA7.block _ (lt_of_block q1)).trans q1
          have HB7 := Lib.hid (HB6.out.trans (hA7.mono HB6.out.size))
          have HO7 := Lib.hid ((HO4.out.below hb6).below hA7)
          have HC7 := Lib.hid ((HC4.out.trans (Chg.of_below hb6)).trans (Chg.of_below hA7))
          have HLOW : RowKit.Hid (∀ b, b ∈ vblk (.slice ao4 (0 + 1) cap4) → w5.heap.size ≤ b) := Lib.hid (HC4.out.ge (fun b hb => by simp at hb) (Nat.le_refl _))
          have c07 := cell_keep hA7 c06
          have HM7 := Lib.hid ((HM4.out.below hb6).below hA7)
          have hz7 : w6.heap.size < (w6.alloc (.cells #[.int .i64 0, .bool false, .bool false, .bool false, .bool false, .bool false, .bool false] 24)).heap.size := by rw [World.size_alloc]; omega
          clear hA7
          generalize w6.alloc (.cells #[.int .i64 0, .bool false, .bool false, .bool false, .bool false, .bool false, .bool false] 24) = w7 at *
          obtain ⟨e0, e1, e2, e3, e4, e5, e6⟩ := row7 q3
          obtain ⟨a0, a1, a2, a3, a4, a5, a6, a7, a8⟩ := row9 q1'
          obtain ⟨b0, b1, b2, b3, b4, b5, b6, b7, b8⟩ := row9 q2'
          have fz1 := fun j => frozen_of_row w7 (w.heap.size + 1) j _ 41 q1'
          have fz2 := fun j => frozen_of_row w7 w1.heap.size j _ 41 q2'
          have HSZ : w.heap.size + 1 < w1.heap.size ∧ w1.heap.size < w5.heap.size ∧ w5.heap.size ≤ w6.heap.size ∧ w6.heap.size < w7.heap.size := ⟨hz, by omega, hb46, hz7⟩
          clear q1 q2 q1' q2' q3 hb6 hb5w c06 hb46 hxr
          have hR : R = ⟨0, 0, 0, 0, 6, P ++ [(tt : Int)]⟩ := by rw [← HST.out]; unfold st; rw [if_neg (by rw [hok]; decide), if_pos rfl]
          go_wp2_with fail
          try rw [Exit.noGoto_ret]
          refine bodyPost_ret (v := .tuple #[.agg #[.int .i64 0, .bool false, .bool false, .bool false, .bool false, .bool false, .bool false, .int .i64 0, .int .i64 0], .slice ao4 (0 + 1) cap4, .int .i64 0, .int .i64 6]) ?_ rfl ?_
          · obtain ⟨k0, k1, k2, k3, k4, k5, k6, k7, k8⟩ := st9_cells a0 a1 a2 a3 a4 a5 a6 a7 a8
            exact res26 _ _ (w.heap.size + 1) _ _ _ _ _ _ _ _ _ _ _ _ rfl rfl rfl rfl k0 k1 k2 k3 k4 k5 k6 k7 k8
          refine ⟨_, by rw [hR, LVN], ?_, st9_below HB7.out (Nat.le_succ _)⟩
          rw [hR]
          refine RI_of ?_ (by rw [List.length_append, HPL.out] <;> rfl)
          exact st9_sq HLOW.out (by omega) HO7.out
        · have hfr := ok_fr hok
          have hpp := ok_p hok hx0
          have hst1 : R = (if bd x 3 = true then FORM else if thr n (x / 4096) (od x 3) = false then FORM else if E.tb x 7 = true ∨ 3 = 0 then ⟨x, (3 : Nat), x / 4096 + page - G.dwn page (od x 3), a, 0, P ++ [(tt : Int)]⟩ else rest) := by rw [← HST.out]; unfold st; rw [if_neg (by rw [hok]; decide), if_neg hx0]
          have HLV := Lib.hid (fun lev frm => LV_yes (lev := lev) (frm := frm) hok)
          have HST2 := Lib.hid hst1
          rw [ent_yes' hok, une_yes' hok]
          unfold bd od at HST2
          clear hst1 hx0 hok HST
          obtain ⟨fr, hgfr⟩ : ∃ fr, x / 4096 = fr := ⟨_, rfl⟩
          have HFR := Lib.hid hgfr
          rw [hgfr] at hfr HST2 HLV HREST ⊢
          clear hgfr
          generalize E.tb x 7 = hu at *
          generalize E.tb x 9 = he at *
          generalize E.tb x 0 = p at *
          generalize E.tb x 1 = wq at *
          generalize E.tb x 5 = us at *
          generalize E.tb x 6 = di at *
          go_upto_region 17 with fail
          have hA7 : Below w6.heap.size w6 (w6.alloc (.cells #[.int .i64 fr, .bool p, .bool wq, .bool hu, .bool he, .bool us, .bool di] 24)) := (Below.refl _ w6).alloc (Nat.le_refl _) _
          have q3 : (w6.alloc (.cells #[.int .i64 fr, .bool p, .bool wq, .bool hu, .bool he, .bool us, .bool di] 24)).heap[w6.heap.size]? = some (.cells #[.int .i64 fr, .bool p, .bool wq, .bool hu, .bool he, .bool us, .bool di] 24 (0, 0)) := Deep.blk_alloc_new _ _
          have q2' := (hA7.block _ (lt_of_block q2)).trans q2
          have q1' := (hA7.block _ (lt_of_block q1)).trans q1
          have HB7 := Lib.hid (HB6.out.trans (hA7.mono HB6.out.size))
          have HO7 := Lib.hid ((HO4.out.below hb6).below hA7)
          have HC7 := Lib.hid ((HC4.out.trans (Chg.of_below hb6)).trans (Chg.of_below hA7))
          have HLOW : RowKit.Hid (∀ b, b ∈ vblk (.slice ao4 (0 + 1) cap4) → w5.heap.size ≤ b) := Lib.hid (HC4.out.ge (fun b hb => by simp at hb) (Nat.le_refl _))
          have c07 := cell_keep hA7 c06
          have HM7 := Lib.hid ((HM4.out.below hb6).below hA7)
          have hz7 : w6.heap.size < (w6.alloc (.cells #[.int .i64 fr, .bool p, .bool wq, .bool hu, .bool he, .bool us, .bool di] 24)).heap.size := by rw [World.size_alloc]; omega
          clear hA7
          generalize w6.alloc (.cells #[.int .i64 fr, .bool p, .bool wq, .bool hu, .bool he, .bool us, .bool di] 24) = w7 at *
          obtain ⟨e0, e1, e2, e3, e4, e5, e6⟩ := row7 q3
          obtain ⟨a0, a1, a2, a3, a4, a5, a6, a7, a8⟩ := row9 q1'
          obtain ⟨b0, b1, b2, b3, b4, b5, b6, b7, b8⟩ := row9 q2'
          have fz1 := fun j => frozen_of_row w7 (w.heap.size + 1) j _ 41 q1'
          have fz2 := fun j => frozen_of_row w7 w1.heap.size j _ 41 q2'
          have HSZ : w.heap.size + 1 < w1.heap.size ∧ w1.heap.size < w5.heap.size ∧ w5.heap.size ≤ w6.heap.size ∧ w6.heap.size < w7.heap.size := ⟨hz, by omega, hb46, hz7⟩
          clear q1 q2 q1' q2' q3 hb6 hb5w c06 hb46 hxr
          cases he
          · cases hu
            ·
              obtain rfl : p = true := hpp rfl
              go_wp2_with fail
              refine (there_any g b n w.heap.size f fr 0 _ HM7.out hfr (by omega) c07).mono ?_
              rintro e w8 ⟨rfl, j, rfl⟩
              cases hth : thr n fr 0
              ·
                go_wp2_with fail
                have hR : R = FORM := by rw [HST2.out]; exact thr_form hth
                try rw [Exit.noGoto_ret]
                refine bodyPost_ret (v := .tuple #[.agg #[.int .i64 0, .bool false, .bool false, .bool false, .bool false, .bool false, .bool false, .int .i64 0, .int .i64 0], .slice none 0 0, .int .i64 0, .int .i64 5]) ?_ rfl ?_
                · obtain ⟨k0, k1, k2, k3, k4, k5, k6, k7, k8⟩ := st9_cells (w := w7.drewN j) a0 a1 a2 a3 a4 a5 a6 a7 a8
                  exact res26 _ _ (w.heap.size + 1) _ _ _ _ _ _ _ _ _ _ _ _ rfl rfl rfl rfl k0 k1 k2 k3 k4 k5 k6 k7 k8
                exact ⟨_, by rw [hR, LVF]; rfl, by rw [hR]; exact RV.nil _ _, st9_below (below_drewN HB7.out j) (Nat.le_succ _)⟩
              · have hR : R = rest := by rw [HST2.out]; exact thr_next hth
                have HRR := Lib.hid (HREST.out.trans hR.symm)
                have hlt := thr_lt hth (.inl rfl)
                have hft : ((fr.toNat : Nat) : Int) = fr := by omega
                clear hR
                go_wp2_with fail
                go_roundw
                case rel => exact ⟨2, fr.toNat, 1, cap4, P ++ [(tt : Int)], ao4, by omega, by omega, rfl, by go_num, by rw [hft], rfl, Lib.hid ⟨by rw [List.length_append, HPL.out] <;> rfl, HRR.out, Sq.drewN HO7.out j, Chg.drewN HC7.out j⟩⟩
                case measure => simp [intOf]
            ·
              obtain rfl : p = true := hpp rfl
              go_wp2_with fail
              have hR : R = FORM := by rw [HST2.out]; rfl
              try rw [Exit.noGoto_ret]
              refine bodyPost_ret (v := .tuple #[.agg #[.int .i64 0, .bool false, .bool false, .bool false, .bool false, .bool false, .bool false, .int .i64 0, .int .i64 0], .slice none 0 0, .int .i64 0, .int .i64 5]) ?_ rfl ?_
              · obtain ⟨k0, k1, k2, k3, k4, k5, k6, k7, k8⟩ := st9_cells a0 a1 a2 a3 a4 a5 a6 a7 a8
                exact res26 _ _ (w.heap.size + 1) _ _ _ _ _ _ _ _ _ _ _ _ rfl rfl rfl rfl k0 k1 k2 k3 k4 k5 k6 k7 k8
              exact ⟨_, by rw [hR, LVF]; rfl, by rw [hR]; exact RV.nil _ _, st9_below HB7.out (Nat.le_succ _)⟩
          · cases hu
            ·
              clear hpp
              go_wp2_with fail
              have hR : R = FORM := by rw [HST2.out]; rfl
              try rw [Exit.noGoto_ret]
              refine bodyPost_ret (v := .tuple #[.agg #[.int .i64 0, .bool false, .bool false, .bool false, .bool false, .bool false, .bool false, .int .i64 0, .int .i64 0], .slice none 0 0, .int .i64 0, .int .i64 5]) ?_ rfl ?_
              · obtain ⟨k0, k1, k2, k3, k4, k5, k6, k7, k8⟩ := st9_cells a0 a1 a2 a3 a4 a5 a6 a7 a8
                exact res26 _ _ (w.heap.size + 1) _ _ _ _ _ _ _ _ _ _ _ _ rfl rfl rfl rfl k0 k1 k2 k3 k4 k5 k6 k7 k8
              exact ⟨_, by rw [hR, LVF]; rfl, by rw [hR]; exact RV.nil _ _, st9_below HB7.out (Nat.le_succ _)⟩
            ·
              clear hpp
              go_wp2_with fail
              have hR : R = FORM := by rw [HST2.out]; rfl
              try rw [Exit.noGoto_ret]
              refine bodyPost_ret (v := .tuple #[.agg #[.int .i64 0, .bool false, .bool false, .bool false, .bool false, .bool false, .bool false, .int .i64 0, .int .i64 0], .slice none 0 0, .int .i64 0, .int .i64 5]) ?_ rfl ?_
              · obtain ⟨k0, k1, k2, k3, k4, k5, k6, k7, k8⟩ := st9_cells a0 a1 a2 a3 a4 a5 a6 a7 a8
                exact res26 _ _ (w.heap.size + 1) _ _ _ _ _ _ _ _ _ _ _ _ rfl rfl rfl rfl k0 k1 k2 k3 k4 k5 k6 k7 k8
              exact ⟨_, by rw [hR, LVF]; rfl, by rw [hR]; exact RV.nil _ _, st9_below HB7.out (Nat.le_succ _)⟩
      · have hok' : E.unok x = false := by simpa using hok
        rw [ent_no' hok', une_no' hok']
        go_upto_region 17 with fail
        have hA7 : Below w6.heap.size w6 (w6.alloc (.cells #[.int .i64 0, .bool false, .bool false, .bool false, .bool false, .bool false, .bool false] 24)) := (Below.refl _ w6).alloc (Nat.le_refl _) _
        have q3 : (w6.alloc (.cells #[.int .i64 0, .bool false, .bool false, .bool false, .bool false, .bool false, .bool false] 24)).heap[w6.heap.size]? = some (.cells #[.int .i64 0, .bool false, .bool false, .bool false, .bool false, .bool false, .bool false] 24 (0, 0)) := Deep.blk_alloc_new _ _
        have q2' := (hA7.block _ (lt_of_block q2)).trans q2
        have q1' := (hA7.block _ (lt_of_block q1)).trans q1
        have HB7 := Lib.hid (HB6.out.trans (hA7.mono HB6.out.size))
        have HO7 := Lib.hid ((HO4.out.below hb6).below hA7)
        have HC7 := Lib.hid ((HC4.out.trans (Chg.of_below hb6)).trans (Chg.of_below hA7))
        have HLOW : RowKit.Hid (∀ b, b ∈ vblk (.slice ao4 (0 + 1) cap4) → w5.heap.size ≤ b) := Lib.hid (HC4.out.ge (fun b hb => by simp at hb) (Nat.le_refl _))
        have c07 := cell_keep hA7 c06
        have HM7 := Lib.hid ((HM4.out.below hb6).below hA7)
        have hz7 : w6.heap.size < (w6.alloc (.cells #[.int .i64 0, .bool false, .bool false, .bool false, .bool false, .bool false, .bool false] 24)).heap.size := by rw [World.size_alloc]; omega
        clear hA7
        generalize w6.alloc (.cells #[.int .i64 0, .bool false, .bool false, .bool false, .bool false, .bool false, .bool false] 24) = w7 at *
        obtain ⟨e0, e1, e2, e3, e4, e5, e6⟩ := row7 q3
        obtain ⟨a0, a1, a2, a3, a4, a5, a6, a7, a8⟩ := row9 q1'
        obtain ⟨b0, b1, b2, b3, b4, b5, b6, b7, b8⟩ := row9 q2'
        have fz1 := fun j => frozen_of_row w7 (w.heap.size + 1) j _ 41 q1'
        have fz2 := fun j => frozen_of_row w7 w1.heap.size j _ 41 q2'
        have HSZ : w.heap.size + 1 < w1.heap.size ∧ w1.heap.size < w5.heap.size ∧ w5.heap.size ≤ w6.heap.size ∧ w6.heap.size < w7.heap.size := ⟨hz, by omega, hb46, hz7⟩
        clear q1 q2 q1' q2' q3 hb6 hb5w c06 hb46 hxr
        go_wp2_with fail
        have hR : R = FORM := by rw [← HST.out]; unfold st; rw [if_pos hok']
        try rw [Exit.noGoto_ret]
        refine bodyPost_ret (v := .tuple #[.agg #[.int .i64 0, .bool false, .bool false, .bool false, .bool false, .bool false, .bool false, .int .i64 0, .int .i64 0], .slice none 0 0, .int .i64 0, .int .i64 5]) ?_ rfl ?_
        · obtain ⟨k0, k1, k2, k3, k4, k5, k6, k7, k8⟩ := st9_cells a0 a1 a2 a3 a4 a5 a6 a7 a8
          exact res26 _ _ (w.heap.size + 1) _ _ _ _ _ _ _ _ _ _ _ _ rfl rfl rfl rfl k0 k1 k2 k3 k4 k5 k6 k7 k8
        exact ⟨_, by rw [hR, LVF]; rfl, by rw [hR]; exact RV.nil _ _, st9_below HB7.out (Nat.le_succ _)⟩

end Go.Proofs.Ytfolbfacnlhlmaa

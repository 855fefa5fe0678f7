/- Parts of the proofs of layer 7 (walk): contracts of its functions, and the laws' walks. -/
import Derived.Test.YtfolbfacnlhlmaaProg
import Derived.WalkKit
import Derived.WalkSpells
import Derived.WalkLawsBesides
import Derived.BigQuiet
import Derived.Deep.QuietTactic
import Derived.Lib.Hide
import Derived.Deep.RegionHeld3
import Derived.Deep.DeepCutAuto
import Derived.KernelRfl
import Derived.Deep.OwnRows
import Derived.Laws.CopyOwn
import Derived.Laws.CopyRow
import Derived.StillTailTactics
import Derived.Deep.RegionLaw
import Derived.Test.YtfolbfacnlhlmaaW7
namespace Go.Proofs.Ytfolbfacnlhlmaa
open Go.RowKit
set_option linter.unusedVariables false
set_option linter.unusedSimpArgs false

theorem res11 (tmps : Array Value) (w : World) (B : Nat) (c0 c1 c2 c3 c4 c5 c6 c7 c8 v7 : Value) (h6 : tmps[6]?.getD undef = .pointer (some ⟨B, 0, none⟩)) (h7 : tmps[7]?.getD undef = v7) (k0 : w.cell? ⟨B, 0, none⟩ = some c0) (k1 : w.cell? ⟨B, 1, none⟩ = some c1) (k2 : w.cell? ⟨B, 2, none⟩ = some c2) (k3 : w.cell? ⟨B, 3, none⟩ = some c3) (k4 : w.cell? ⟨B, 4, none⟩ = some c4) (k5 : w.cell? ⟨B, 5, none⟩ = some c5) (k6 : w.cell? ⟨B, 6, none⟩ = some c6) (k7 : w.cell? ⟨B, 7, none⟩ = some c7) (k8 : w.cell? ⟨B, 8, none⟩ = some c8) : (results Try.f11 tmps).run Try.prog w = .ok (.tuple #[.agg #[c0, c1, c2, c3, c4, c5, c6, c7, c8], v7]) w := by
  simp [results, Try.results11, go_sem, h6, h7, k0, k1, k2, k3, k4, k5, k6, k7, k8]
set_option maxRecDepth 100000 in
set_option maxHeartbeats 1000000 in
theorem walk_nil (t0 page : Int) (w : World) : Calls Try.prog 26 #[.pointer none, .int .i64 t0, .int .i64 page] w fun e w' => e = .returned (.tuple #[.agg #[.int .i64 0, .bool false, .bool false, .bool false, .bool false, .bool false, .bool false, .int .i64 0, .int .i64 0], .slice none 0 0, .int .i64 0, .int .i64 1]) ∧ Below w.heap.size w w' := by
  have hA := ((Below.refl w.heap.size w).alloc (Nat.le_refl _) (Obj.cells #[.pointer none] 28 (0, 0))).alloc (by simp) (Obj.cells #[.int .i64 0, .bool false, .bool false, .bool false, .bool false, .bool false, .bool false, .int .i64 0, .int .i64 0] 41 (0, 0))
  obtain ⟨w7, hw7⟩ : ∃ w7, w7 = (w.alloc (Obj.cells #[.pointer none] 28 (0, 0))).alloc (Obj.cells #[.int .i64 0, .bool false, .bool false, .bool false, .bool false, .bool false, .bool false, .int .i64 0, .int .i64 0] 41 (0, 0)) := ⟨_, rfl⟩
  rw [← hw7] at hA
  have HB7 := Lib.hid hA
  have q1 : w7.heap[w.heap.size + 1]? = some (.cells #[.int .i64 0, .bool false, .bool false, .bool false, .bool false, .bool false, .bool false, .int .i64 0, .int .i64 0] 41 (0, 0)) := by
    have h1 := Deep.blk_alloc_new (w.alloc (Obj.cells #[.pointer none] 28 (0, 0))) (Obj.cells #[.int .i64 0, .bool false, .bool false, .bool false, .bool false, .bool false, .bool false, .int .i64 0, .int .i64 0] 41 (0, 0))
    rw [World.size_alloc, ← hw7] at h1
    exact h1
  have hc0 : w7.cell? ⟨w.heap.size, 0, none⟩ = some (.pointer none) := by rw [hw7]; simp [go_sem]
  obtain ⟨a0, a1, a2, a3, a4, a5, a6, a7, a8⟩ := row9 q1
  have fz1 := fun j => frozen_of_row w7 (w.heap.size + 1) j _ 41 q1
  clear q1 hA
  go_enter Try.func26, Try.ntmps26
  go_wp2_with fail
  rw [← hw7]
  clear hw7
  go_step3
  go_wp2_with fail
  try rw [Exit.noGoto_ret]
  refine bodyPost_ret (v := .tuple #[.agg #[.int .i64 0, .bool false, .bool false, .bool false, .bool false, .bool false, .bool false, .int .i64 0, .int .i64 0], .slice none 0 0, .int .i64 0, .int .i64 1]) ?_ rfl ?_
  · obtain ⟨k0, k1, k2, k3, k4, k5, k6, k7, k8⟩ := st9_cells a0 a1 a2 a3 a4 a5 a6 a7 a8
    exact res26 _ _ (w.heap.size + 1) _ _ _ _ _ _ _ _ _ _ _ _ rfl rfl rfl rfl k0 k1 k2 k3 k4 k5 k6 k7 k8
  exact ⟨rfl, st9_below HB7.out (Nat.le_succ _)⟩
set_option maxHeartbeats 1000000 in
theorem Walk_nil (t0 page : Int) (w : World) : Calls Try.prog 11 #[.pointer none, .int .i64 t0, .int .i64 page] w fun e w' => e = .returned (.tuple #[.agg #[.int .i64 0, .bool false, .bool false, .bool false, .bool false, .bool false, .bool false, .int .i64 0, .int .i64 0], .int .i64 1]) ∧ Below w.heap.size w w' := by
  obtain ⟨w1, hw1⟩ : ∃ w1, w1 = w.alloc (Obj.cells #[.int .i64 0, .bool false, .bool false, .bool false, .bool false, .bool false, .bool false, .int .i64 0, .int .i64 0] 41 (0, 0)) := ⟨_, rfl⟩
  have hA : Below w.heap.size w w1 := by rw [hw1]; exact (Below.refl _ w).alloc (Nat.le_refl _) _
  have hz1 : w1.heap.size = w.heap.size + 1 := by rw [hw1, World.size_alloc]
  have q0 : w1.heap[w.heap.size]? = some (.cells #[.int .i64 0, .bool false, .bool false, .bool false, .bool false, .bool false, .bool false, .int .i64 0, .int .i64 0] 41 (0, 0)) := by rw [hw1]; exact Deep.blk_alloc_new _ _
  go_enter Try.func11, Try.ntmps11
  go_wp2_with fail
  rw [← hw1]
  clear hw1
  refine (walk_nil t0 page _).mono ?_
  rintro e w2 ⟨rfl, hb⟩
  have q1 := (hb.block _ (lt_of_block q0)).trans q0
  have hA3 : Below w2.heap.size w2 (w2.alloc (Obj.cells #[.int .i64 0, .bool false, .bool false, .bool false, .bool false, .bool false, .bool false, .int .i64 0, .int .i64 0] 41 (0, 0))) := (Below.refl _ _).alloc (Nat.le_refl _) _
  have q2 := (hA3.block _ (lt_of_block q1)).trans q1
  have HB := Lib.hid ((hA.trans (hb.mono hA.size)).trans (hA3.mono (Nat.le_trans hA.size hb.size)))
  have q3 : (w2.alloc (Obj.cells #[.int .i64 0, .bool false, .bool false, .bool false, .bool false, .bool false, .bool false, .int .i64 0, .int .i64 0] 41 (0, 0))).heap[w2.heap.size]? = some (.cells #[.int .i64 0, .bool false, .bool false, .bool false, .bool false, .bool false, .bool false, .int .i64 0, .int .i64 0] 41 (0, 0)) := Deep.blk_alloc_new _ _
  go_upto_region 2 with fail
  generalize w2.alloc (Obj.cells #[.int .i64 0, .bool false, .bool false, .bool false, .bool false, .bool false, .bool false, .int .i64 0, .int .i64 0] 41 (0, 0)) = w7 at *
  obtain ⟨a0, a1, a2, a3, a4, a5, a6, a7, a8⟩ := row9 q2
  obtain ⟨b0, b1, b2, b3, b4, b5, b6, b7, b8⟩ := row9 q3
  have fz1 := fun j => frozen_of_row w7 w.heap.size j _ 41 q2
  clear q0 q1 q2 q3 hA3 hb hA
  go_wp2_with fail
  refine bodyPost_ret (v := .tuple #[.agg #[.int .i64 0, .bool false, .bool false, .bool false, .bool false, .bool false, .bool false, .int .i64 0, .int .i64 0], .int .i64 1]) ?_ rfl ?_
  · obtain ⟨k0, k1, k2, k3, k4, k5, k6, k7, k8⟩ := st9_cells a0 a1 a2 a3 a4 a5 a6 a7 a8
    exact res11 _ _ w.heap.size _ _ _ _ _ _ _ _ _ _ rfl rfl k0 k1 k2 k3 k4 k5 k6 k7 k8
  exact ⟨rfl, st9_below HB.out (Nat.le_refl _)⟩
set_option maxHeartbeats 1000000 in
theorem Path_nil (t0 page : Int) (w : World) : Calls Try.prog 12 #[.pointer none, .int .i64 t0, .int .i64 page] w fun e w' => e = .returned (.tuple #[.slice none 0 0, .int .i64 1]) ∧ Below w.heap.size w w' := by
  go_enter Try.func12, Try.ntmps12
  go_wp2_with fail
  refine (walk_nil t0 page _).mono ?_
  rintro e w2 ⟨rfl, hb⟩
  go_wp2_with fail
  go_ret2
  exact ⟨rfl, hb.alloc hb.size _⟩
set_option maxHeartbeats 1000000 in
theorem Mark_nil (t0 page : Int) (wr : Bool) (w : World) : Calls Try.prog 14 #[.pointer none, .int .i64 t0, .int .i64 page, .bool wr] w fun e w' => e = .returned (.int .i64 1) ∧ Below w.heap.size w w' := by
  go_enter Try.func14, Try.ntmps14
  go_wp2_with fail
  refine (walk_nil t0 page _).mono ?_
  rintro e w2 ⟨rfl, hb⟩
  go_wp2_with fail
  go_ret
  exact ⟨rfl, hb.alloc hb.size _⟩
set_option maxHeartbeats 2000000 in
theorem Walk_any (g b n : Nat) (f : Nat → Int) (t0 : Nat) (page : Int) (w : World) (h : Mem w g b n f) (hp : 0 ≤ page ∧ page < 4096) (hr : t0 < n / 64) :
    Calls Try.prog 11 #[.pointer (some ⟨g, 0, none⟩), .int .i64 t0, .int .i64 page] w fun e w' => e = .returned (.tuple #[LV (wk n f page 4 t0 []).x (wk n f page 4 t0 []).lev (wk n f page 4 t0 []).frm, .int .i64 (wk n f page 4 t0 []).err]) ∧ Below w.heap.size w w' := by
  have HW := fun w h => walk_any g b n f t0 page w h hp hr
  generalize wk n f page 4 t0 [] = R at HW ⊢
  obtain ⟨w1, hw1⟩ : ∃ w1, w1 = w.alloc (Obj.cells #[.int .i64 0, .bool false, .bool false, .bool false, .bool false, .bool false, .bool false, .int .i64 0, .int .i64 0] 41 (0, 0)) := ⟨_, rfl⟩
  have hA : Below w.heap.size w w1 := by rw [hw1]; exact (Below.refl _ w).alloc (Nat.le_refl _) _
  have q0 : w1.heap[w.heap.size]? = some (.cells #[.int .i64 0, .bool false, .bool false, .bool false, .bool false, .bool false, .bool false, .int .i64 0, .int .i64 0] 41 (0, 0)) := by rw [hw1]; exact Deep.blk_alloc_new _ _
  have HM := Lib.hid (h.below hA)
  replace HW := Lib.hid HW
  clear h
  go_enter Try.func11, Try.ntmps11
  go_wp2_with fail
  rw [← hw1]
  clear hw1
  refine (HW.out _ HM.out).mono ?_
  rintro e w2 ⟨v, rfl, hri, hb⟩
  unfold LV
  obtain ⟨ao, cap, rfl, _, _⟩ := RV.slice hri
  have q1 := (hb.block _ (lt_of_block q0)).trans q0
  obtain ⟨y0, hy0⟩ : ∃ y, y = E.une0 R.x := ⟨_, rfl⟩
  obtain ⟨y1, hy1⟩ : ∃ y, y = E.unb R.x 0 := ⟨_, rfl⟩
  obtain ⟨y2, hy2⟩ : ∃ y, y = E.unb R.x 1 := ⟨_, rfl⟩
  obtain ⟨y3, hy3⟩ : ∃ y, y = E.unb R.x 7 := ⟨_, rfl⟩
  obtain ⟨y4, hy4⟩ : ∃ y, y = E.unb R.x 9 := ⟨_, rfl⟩
  obtain ⟨y5, hy5⟩ : ∃ y, y = E.unb R.x 5 := ⟨_, rfl⟩
  obtain ⟨y6, hy6⟩ : ∃ y, y = E.unb R.x 6 := ⟨_, rfl⟩
  obtain ⟨y7, hy7⟩ : ∃ y, y = R.lev := ⟨_, rfl⟩
  obtain ⟨y8, hy8⟩ : ∃ y, y = R.frm := ⟨_, rfl⟩
  obtain ⟨y9, hy9⟩ : ∃ y, y = R.err := ⟨_, rfl⟩
  rw [← hy0, ← hy1, ← hy2, ← hy3, ← hy4, ← hy5, ← hy6, ← hy7, ← hy8, ← hy9]
  have Y0 := Lib.hid hy0
  have Y1 := Lib.hid hy1
  have Y2 := Lib.hid hy2
  have Y3 := Lib.hid hy3
  have Y4 := Lib.hid hy4
  have Y5 := Lib.hid hy5
  have Y6 := Lib.hid hy6
  have Y7 := Lib.hid hy7
  have Y8 := Lib.hid hy8
  have Y9 := Lib.hid hy9
  clear hy0 hy1 hy2 hy3 hy4 hy5 hy6 hy7 hy8 hy9
  have hA3 : Below w2.heap.size w2 (w2.alloc (Obj.cells #[.int .i64 y0, .bool y1, .bool y2, .bool y3, .bool y4, .bool y5, .bool y6, .int .i64 y7, .int .i64 y8] 41 (0, 0))) := (Below.refl _ _).alloc (Nat.le_refl _) _
  have q2 := (hA3.block _ (lt_of_block q1)).trans q1
  have HB := Lib.hid ((hA.trans (hb.mono hA.size)).trans (hA3.mono (Nat.le_trans hA.size hb.size)))
  have q3 : (w2.alloc (Obj.cells #[.int .i64 y0, .bool y1, .bool y2, .bool y3, .bool y4, .bool y5, .bool y6, .int .i64 y7, .int .i64 y8] 41 (0, 0))).heap[w2.heap.size]? = some (.cells #[.int .i64 y0, .bool y1, .bool y2, .bool y3, .bool y4, .bool y5, .bool y6, .int .i64 y7, .int .i64 y8] 41 (0, 0)) := Deep.blk_alloc_new _ _
  go_upto_region 2 with fail
  generalize w2.alloc (Obj.cells #[.int .i64 y0, .bool y1, .bool y2, .bool y3, .bool y4, .bool y5, .bool y6, .int .i64 y7, .int .i64 y8] 41 (0, 0)) = w7 at *
  obtain ⟨a0, a1, a2, a3, a4, a5, a6, a7, a8⟩ := row9 q2
  obtain ⟨b0, b1, b2, b3, b4, b5, b6, b7, b8⟩ := row9 q3
  have fz1 := fun j => frozen_of_row w7 w.heap.size j _ 41 q2
  clear q0 q1 q2 q3 hA3 hb hA hri
  go_wp2_with fail
  refine bodyPost_ret (v := .tuple #[.agg #[.int .i64 y0, .bool y1, .bool y2, .bool y3, .bool y4, .bool y5, .bool y6, .int .i64 y7, .int .i64 y8], .int .i64 y9]) ?_ rfl ?_
  · obtain ⟨k0, k1, k2, k3, k4, k5, k6, k7, k8⟩ := st9_cells a0 a1 a2 a3 a4 a5 a6 a7 a8
    exact res11 _ _ w.heap.size _ _ _ _ _ _ _ _ _ _ rfl rfl k0 k1 k2 k3 k4 k5 k6 k7 k8
  exact ⟨by rw [Y0.out, Y1.out, Y2.out, Y3.out, Y4.out, Y5.out, Y6.out, Y7.out, Y8.out, Y9.out]; rfl, st9_below HB.out (Nat.le_refl _)⟩
set_option maxHeartbeats 2000000 in
theorem Path_any (g b n : Nat) (f : Nat → Int) (t0 : Nat) (page : Int) (w : World) (h : Mem w g b n f) (hp : 0 ≤ page ∧ page < 4096) (hr : t0 < n / 64) :
    Calls Try.prog 12 #[.pointer (some ⟨g, 0, none⟩), .int .i64 t0, .int .i64 page] w fun e w' => ∃ v, e = .returned (.tuple #[v, .int .i64 (wk n f page 4 t0 []).err]) ∧ RI w' v (wk n f page 4 t0 []).path ∧ Below w.heap.size w w' := by
  have HW := fun w h => walk_any g b n f t0 page w h hp hr
  generalize wk n f page 4 t0 [] = R at HW ⊢
  have HM := Lib.hid h
  replace HW := Lib.hid HW
  clear h
  go_enter Try.func12, Try.ntmps12
  go_wp2_with fail
  refine (HW.out _ HM.out).mono ?_
  rintro e w2 ⟨v, rfl, hri, hb⟩
  unfold LV
  obtain ⟨ao, cap, rfl, _, _⟩ := RV.slice hri
  have HRI := Lib.hid hri
  clear hri
  go_wp2_with fail
  go_ret2
  exact ⟨_, rfl, RV.alloc HRI.out _, hb.alloc hb.size _⟩

end Go.Proofs.Ytfolbfacnlhlmaa

/- Parts of the proofs of layer 7 (walk): contracts of its functions, and the laws' walks. -/
import Derived.Test.YtfolbfacnlhlmaaProg
import Derived.WalkKit
import Derived.WalkSpells
import Derived.WalkLawsBesides
import Derived.BigQuiet
import Derived.Deep.QuietTactic
import Derived.Lib.Hide
import Derived.Deep.RegionHeld3
import Derived.Deep.DeepCutAuto
import Derived.KernelRfl
import Derived.Deep.OwnRows
import Derived.Laws.CopyOwn
import Derived.Laws.CopyRow
import Derived.StillTailTactics
import Derived.Deep.RegionLaw
import Derived.Test.YtfolbfacnlhlmaaW9
namespace Go.Proofs.Ytfolbfacnlhlmaa
open Go.RowKit
set_option linter.unusedVariables false
set_option linter.unusedSimpArgs false

set_option maxHeartbeats 4000000 in
theorem none_law (t i fr : Int) (p wr hu he us di raw : Bool) (x : Int) (write : Bool) (w : World) : Calls Try.prog 6 #[.agg #[.int .i64 t, .int .i64 i, .int .i64 fr, .bool p, .bool wr, .bool hu, .bool he, .bool us, .bool di, .bool raw, .int .u64 x], .bool write] w fun e w' => e = .returned (.bool true) ∧ Below w.heap.size w w' := by
  obtain ⟨w0, hw0⟩ : ∃ w0, w0 = w.alloc (Obj.cells #[.int .i64 t, .int .i64 i, .int .i64 fr, .bool p, .bool wr, .bool hu, .bool he, .bool us, .bool di, .bool raw, .int .u64 x] 27 (0, 0)) := ⟨_, rfl⟩
  have hb : Below w.heap.size w w0 := by rw [hw0]; exact (Below.refl _ w).alloc (Nat.le_refl _) _
  have q0 : w0.heap[w.heap.size]? = some (.cells #[.int .i64 t, .int .i64 i, .int .i64 fr, .bool p, .bool wr, .bool hu, .bool he, .bool us, .bool di, .bool raw, .int .u64 x] 27 (0, 0)) := by rw [hw0]; exact Deep.blk_alloc_new _ _
  have HB := Lib.hid hb
  clear hb
  obtain ⟨c0, c1, c2, c3, c4, c5, c6, c7, c8, c9, c10⟩ := row11 q0
  go_enter Try.func6, Try.ntmps6
  go_upto_region 1 with fail
  rw [← hw0]
  clear hw0
  go_wp2_with fail
  refine (word_nil t i _).mono ?_
  rintro e w1 ⟨rfl, hb⟩
  have y := HB.out.trans (hb.mono HB.out.size)
  clear HB
  have HB := Lib.hid y
  clear y
  clear c0 c1 c2 c3 c4 c5 c6 c7 c8 c9 c10
  have hA : Below w1.heap.size w1 (w1.alloc (Obj.cells #[.int .i64 0, .bool false, .bool false, .bool false, .bool false, .bool false, .bool false] 24 (0, 0))) := (Below.refl _ _).alloc (Nat.le_refl _) _
  have hN : (w1.alloc (Obj.cells #[.int .i64 0, .bool false, .bool false, .bool false, .bool false, .bool false, .bool false] 24 (0, 0))).heap[w1.heap.size]? = some (.cells #[.int .i64 0, .bool false, .bool false, .bool false, .bool false, .bool false, .bool false] 24 (0, 0)) := Deep.blk_alloc_new _ _
  have q1 := hN
  replace q0 := (hA.block _ (lt_of_block ((hb.block _ (lt_of_block q0)).trans q0))).trans ((hb.block _ (lt_of_block q0)).trans q0)
  obtain ⟨c0, c1, c2, c3, c4, c5, c6, c7, c8, c9, c10⟩ := row11 q0
  have y := HB.out.trans (hA.mono HB.out.size)
  clear HB
  have HB := Lib.hid y
  clear y hN hA hb
  go_upto_region 2 with fail
  generalize w1.alloc (Obj.cells #[.int .i64 0, .bool false, .bool false, .bool false, .bool false, .bool false, .bool false] 24 (0, 0)) = w2 at *
  go_wp2_with fail
  refine (Walk_nil t i _).mono ?_
  rintro e w3 ⟨rfl, hb⟩
  have y := HB.out.trans (hb.mono HB.out.size)
  clear HB
  have HB := Lib.hid y
  clear y
  clear c0 c1 c2 c3 c4 c5 c6 c7 c8 c9 c10
  have hA : Below w3.heap.size w3 (w3.alloc (Obj.cells #[.int .i64 0, .bool false, .bool false, .bool false, .bool false, .bool false, .bool false, .int .i64 0, .int .i64 0] 41 (0, 0))) := (Below.refl _ _).alloc (Nat.le_refl _) _
  have hN : (w3.alloc (Obj.cells #[.int .i64 0, .bool false, .bool false, .bool false, .bool false, .bool false, .bool false, .int .i64 0, .int .i64 0] 41 (0, 0))).heap[w3.heap.size]? = some (.cells #[.int .i64 0, .bool false, .bool false, .bool false, .bool false, .bool false, .bool false, .int .i64 0, .int .i64 0] 41 (0, 0)) := Deep.blk_alloc_new _ _
  have q2 := hN
  replace q0 := (hA.block _ (lt_of_block ((hb.block _ (lt_of_block q0)).trans q0))).trans ((hb.block _ (lt_of_block q0)).trans q0)
  replace q1 := (hA.block _ (lt_of_block ((hb.block _ (lt_of_block q1)).trans q1))).trans ((hb.block _ (lt_of_block q1)).trans q1)
  obtain ⟨c0, c1, c2, c3, c4, c5, c6, c7, c8, c9, c10⟩ := row11 q0
  have y := HB.out.trans (hA.mono HB.out.size)
  clear HB
  have HB := Lib.hid y
  clear y hN hA hb
  go_upto_region 3 with fail
  generalize w3.alloc (Obj.cells #[.int .i64 0, .bool false, .bool false, .bool false, .bool false, .bool false, .bool false, .int .i64 0, .int .i64 0] 41 (0, 0)) = w4 at *
  go_wp2_with fail
  refine (Path_nil t i _).mono ?_
  rintro e w5 ⟨rfl, hb⟩
  have y := HB.out.trans (hb.mono HB.out.size)
  clear HB
  have HB := Lib.hid y
  clear y
  clear c0 c1 c2 c3 c4 c5 c6 c7 c8 c9 c10
  replace q0 := (hb.block _ (lt_of_block q0)).trans q0
  obtain ⟨c0, c1, c2, c3, c4, c5, c6, c7, c8, c9, c10⟩ := row11 q0
  replace q1 := (hb.block _ (lt_of_block q1)).trans q1
  obtain ⟨a0, a1, a2, a3, a4, a5, a6⟩ := row7 q1
  replace q2 := (hb.block _ (lt_of_block q2)).trans q2
  obtain ⟨b0, b1, b2, b3, b4, b5, b6, b7, b8⟩ := row9 q2
  clear hb c0 c1 c2 c3 c4 c5 c6 c7 c8 c9 c10 a0 a1 a2 a3 a4 a5 a6 b0 b1 b2 b3 b4 b5 b6 b7 b8
  go_wp2_with fail
  refine (awake_any _).mono ?_
  rintro e w6 ⟨rfl, hb⟩
  have y := HB.out.trans (hb.mono HB.out.size)
  clear HB
  have HB := Lib.hid y
  clear y
  replace q0 := (hb.block _ (lt_of_block q0)).trans q0
  obtain ⟨c0, c1, c2, c3, c4, c5, c6, c7, c8, c9, c10⟩ := row11 q0
  replace q1 := (hb.block _ (lt_of_block q1)).trans q1
  obtain ⟨a0, a1, a2, a3, a4, a5, a6⟩ := row7 q1
  replace q2 := (hb.block _ (lt_of_block q2)).trans q2
  obtain ⟨b0, b1, b2, b3, b4, b5, b6, b7, b8⟩ := row9 q2
  clear hb
  go_wp2_with fail
  refine (put_nil t i fr p wr hu he us di _).mono ?_
  rintro e w7 ⟨rfl, hb⟩
  have y := HB.out.trans (hb.mono HB.out.size)
  clear HB
  have HB := Lib.hid y
  clear y
  clear c0 c1 c2 c3 c4 c5 c6 c7 c8 c9 c10 a0 a1 a2 a3 a4 a5 a6 b0 b1 b2 b3 b4 b5 b6 b7 b8
  replace q0 := (hb.block _ (lt_of_block q0)).trans q0
  obtain ⟨c0, c1, c2, c3, c4, c5, c6, c7, c8, c9, c10⟩ := row11 q0
  replace q1 := (hb.block _ (lt_of_block q1)).trans q1
  obtain ⟨a0, a1, a2, a3, a4, a5, a6⟩ := row7 q1
  replace q2 := (hb.block _ (lt_of_block q2)).trans q2
  obtain ⟨b0, b1, b2, b3, b4, b5, b6, b7, b8⟩ := row9 q2
  clear hb
  go_wp2_with fail
  refine (Mark_nil t i write _).mono ?_
  rintro e w8 ⟨rfl, hb⟩
  have y := HB.out.trans (hb.mono HB.out.size)
  clear HB
  have HB := Lib.hid y
  clear y
  go_wp2_with fail
  go_ret
  exact ⟨rfl, HB.out⟩

end Go.Proofs.Ytfolbfacnlhlmaa

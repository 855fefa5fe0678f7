/- Parts of the proofs of layer 18 (gap): contracts of its functions, and the laws' walks. -/
import Derived.Test.YtkaglggljomgdaaProg
import Derived.WalkKit
import Derived.WalkSpells
import Derived.WalkLawsBesides
import Derived.BigQuiet
import Derived.Deep.QuietTactic
import Derived.Lib.Hide
import Derived.Deep.RegionHeld3
import Derived.Deep.DeepCutAuto
import Derived.KernelRfl
import Derived.Deep.OwnRows
import Derived.Laws.CopyOwn
import Derived.Laws.CopyRow
import Derived.StillTailTactics
import Derived.Deep.RegionLaw
import Derived.Test.YtkaglggljomgdaaH16
import Derived.OwnWalk
namespace Go.Proofs.Ytkaglggljomgdaa
open Go.RowKit
set_option linter.unusedVariables false
set_option linter.unusedSimpArgs false

theorem rbel {w w' : World} {F F' : List Nat} {C : Nat} (h : Chg F F' w w') (hF : ∀ b ∈ F, C ≤ b) (hc : C ≤ w.heap.size) : Below C w w' := h.below hF hc
set_option maxHeartbeats 2000000 in
theorem awake_any (w : World) : Calls Try.prog 11 #[] w fun e w' => e = .returned (.bool true) ∧ Below w.heap.size w w' := by
  have E1 := Lib.hid (show putE 8 16 [] = 0 ∧ putL 8 16 [] = [(8, 16)] from ⟨by decide, by decide⟩)
  have E2 := Lib.hid (show putE 24 32 [(8, 16)] = 0 ∧ putL 24 32 [(8, 16)] = [(8, 16), (24, 32)] from ⟨by decide, by decide⟩)
  have E3 := Lib.hid (show roomV 0 8 0 [(8, 16), (24, 32)] = (16, 0) from by kernel_rfl)
  have E4 := Lib.hid (show roomV 0 9 3 [(8, 16), (24, 32)] = (32, 0) from by kernel_rfl)
  have E5 := Lib.hid (show gTot 1 [(8, 16), (24, 32)] = 4064 from by kernel_rfl)
  go_enter Try.func11, Try.ntmps11
  go_wp2_with fail
  refine (new_any w).mono ?_
  rintro ex w1 ⟨rfl, hc1, hg1⟩
  have HC := Lib.hid hc1
  have HG := Lib.hid hg1
  clear hc1 hg1
  go_wp2_with fail
  refine (Put_any 8 16 _ _ _ w1 HG.out).mono ?_
  rintro ex w2 ⟨rfl, F2, hc2, hg2⟩
  rw [E1.out.2] at hg2
  rw [E1.out.1]
  have HC2 := Lib.hid (HC.out.trans hc2)
  have HG2 := Lib.hid hg2
  clear hc2 hg2 HC HG
  go_wp2_with fail
  refine (Put_any 24 32 _ _ _ w2 HG2.out).mono ?_
  rintro ex w3 ⟨rfl, F3, hc3, hg3⟩
  rw [E2.out.2] at hg3
  rw [E2.out.1]
  have HB3 := Lib.hid (rbel (HC2.out.trans hc3) (fun b hb => by simp at hb) (Nat.le_refl _))
  have HG3 := Lib.hid hg3
  clear hc3 hg3 HC2 HG2
  go_wp2_with fail
  refine (Room_any 0 8 0 _ _ _ w3 HG3.out).mono ?_
  rintro ex w4 ⟨rfl, hb4⟩
  rw [E3.out]
  have HB4 := Lib.hid (HB3.out.trans (hb4.mono HB3.out.size))
  have HG4 := Lib.hid (HG3.out.below hb4)
  clear hb4 HB3 HG3
  go_wp2_with fail
  refine (Room_any 0 9 3 _ _ _ w4 HG4.out).mono ?_
  rintro ex w5 ⟨rfl, hb5⟩
  rw [E4.out]
  have HB5 := Lib.hid (HB4.out.trans (hb5.mono HB4.out.size))
  have HG5 := Lib.hid (HG4.out.below hb5)
  clear hb5 HB4 HG4
  go_wp2_with fail
  refine (Greatest_any _ _ _ w5 HG5.out).mono ?_
  rintro ex w6 ⟨rfl, hb6⟩
  rw [E5.out]
  have HB6 := Lib.hid (HB5.out.trans (hb6.mono HB5.out.size))
  have HG6 := Lib.hid (HG5.out.below hb6)
  clear hb6 HB5 HG5
  go_wp2_with fail
  refine (Len_any _ _ _ w6 HG6.out).mono ?_
  rintro ex w7 ⟨rfl, rfl⟩
  go_wp2_with fail
  go_ret
  exact ⟨rfl, HB6.out⟩
set_option maxRecDepth 100000 in
set_option maxHeartbeats 4000000 in
theorem none_law (c0 c1 c2 c3 d0 d1 d2 : Int) (w : World) : Calls Try.prog 9 #[.agg #[.int .i64 c0, .int .i64 c1, .int .i64 c2, .int .i64 c3], .agg #[.int .i64 d0, .int .i64 d1, .int .i64 d2]] w fun e w' => e = .returned (.bool true) ∧ Below w.heap.size w w' := by
  obtain ⟨w0, hw0⟩ : ∃ w0, w0 = (w.alloc (.cells #[.int .i64 c0, .int .i64 c1, .int .i64 c2, .int .i64 c3] 54)).alloc (.cells #[.int .i64 d0, .int .i64 d1, .int .i64 d2] 24) := ⟨_, rfl⟩
  have hb0 : Below w.heap.size w w0 := by rw [hw0]; exact ((Below.refl _ w).alloc (Nat.le_refl _) _).alloc (by simp) _
  have r0 : w0.heap[w.heap.size]? = some (.cells #[.int .i64 c0, .int .i64 c1, .int .i64 c2, .int .i64 c3] 54 (0, 0)) := by
    rw [hw0]
    exact (Below.heap_alloc _ _ _ (by simp)).trans (heap_alloc_new w _)
  have r1 : w0.heap[w.heap.size + 1]? = some (.cells #[.int .i64 d0, .int .i64 d1, .int .i64 d2] 24 (0, 0)) := by
    rw [hw0]
    have := heap_alloc_new (w.alloc (.cells #[.int .i64 c0, .int .i64 c1, .int .i64 c2, .int .i64 c3] 54)) (.cells #[.int .i64 d0, .int .i64 d1, .int .i64 d2] 24)
    rw [World.size_alloc] at this
    exact this
  have k1 : w0.cell? ⟨w.heap.size, 1, none⟩ = some (.int .i64 c1) := cell_of_row w0 w.heap.size 1 _ 54 _ r0
  have k2 : w0.cell? ⟨w.heap.size, 2, none⟩ = some (.int .i64 c2) := cell_of_row w0 w.heap.size 2 _ 54 _ r0
  have e0 : w0.cell? ⟨w.heap.size + 1, 0, none⟩ = some (.int .i64 d0) := cell_of_row w0 _ 0 _ 24 _ r1
  have e1 : w0.cell? ⟨w.heap.size + 1, 1, none⟩ = some (.int .i64 d1) := cell_of_row w0 _ 1 _ 24 _ r1
  have e2 : w0.cell? ⟨w.heap.size + 1, 2, none⟩ = some (.int .i64 d2) := cell_of_row w0 _ 2 _ 24 _ r1
  clear r0 r1
  have HB0 := Lib.hid hb0
  clear hb0
  go_enter Try.func9, Try.ntmps9
  go_upto_region 1 with fail
  rw [← hw0]
  clear hw0
  go_wp2_with fail
  refine (Find_nil c1 w0).mono ?_
  rintro e _ ⟨rfl, rfl⟩
  go_wp2_with fail
  refine (Room_nil d0 d1 d2 w0).mono ?_
  rintro e w2 ⟨rfl, hb2⟩
  replace k1 := cell_keep hb2 k1
  replace k2 := cell_keep hb2 k2
  have HB2 := Lib.hid (HB0.out.trans (hb2.mono HB0.out.size))
  clear hb2 e0 e1 e2 HB0
  go_wp2_with fail
  refine (awake_any w2).mono ?_
  rintro e w3 ⟨rfl, hb3⟩
  replace k1 := cell_keep hb3 k1
  replace k2 := cell_keep hb3 k2
  have HB3 := Lib.hid (HB2.out.trans (hb3.mono HB2.out.size))
  clear hb3 HB2
  go_wp2_with fail
  refine (Greatest_nil w3).mono ?_
  rintro e _ ⟨rfl, rfl⟩
  go_wp2_with fail
  refine (Len_nil w3).mono ?_
  rintro e _ ⟨rfl, rfl⟩
  go_wp2_with fail
  refine (Height_nil w3).mono ?_
  rintro e _ ⟨rfl, rfl⟩
  go_wp2_with fail
  refine (All_nil w3).mono ?_
  rintro e w4 ⟨rfl, hb4⟩
  replace k1 := cell_keep hb4 k1
  replace k2 := cell_keep hb4 k2
  have HB4 := Lib.hid (HB3.out.trans (hb4.mono HB3.out.size))
  clear hb4 HB3
  go_wp2_with fail
  refine (Put_nil c1 c2 w4).mono ?_
  rintro e _ ⟨rfl, rfl⟩
  go_wp2_with fail
  refine (Del_nil c1 c2 w4).mono ?_
  rintro e _ ⟨rfl, rfl⟩
  go_wp2_with fail
  refine (Cut_nil c1 c2 w4).mono ?_
  rintro e _ ⟨rfl, rfl⟩
  go_wp2_with fail
  go_ret
  exact ⟨rfl, HB4.out⟩

end Go.Proofs.Ytkaglggljomgdaa

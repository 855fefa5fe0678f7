/- Parts of the proofs of layer 6 (pick): contracts of its functions, and the laws' walks. -/
import Derived.Test.YtekkblhghbkdiaaProg
import Derived.WalkKit
import Derived.WalkSpells
import Derived.WalkLawsBesides
import Derived.BigQuiet
import Derived.Deep.QuietTactic
import Derived.Lib.Hide
import Derived.Deep.RegionHeld3
import Derived.Deep.DeepCutAuto
import Derived.KernelRfl
import Derived.Deep.OwnRows
import Derived.Laws.CopyOwn
import Derived.Laws.CopyRow
import Derived.StillTailTactics
import Derived.Deep.RegionLaw
import Derived.Test.YtekkblhghbkdiaaP17
namespace Go.Proofs.Ytekkblhghbkdiaa
open Go.RowKit
set_option linter.unusedVariables false
set_option linter.unusedSimpArgs false

theorem fst_unique {M : List E} {x y : E} (h : IsFst M x) (k : IsFst M y) : x = y := le_antisymm (h.2 _ k.1) (k.2 _ h.1)
set_option maxHeartbeats 2000000 in
theorem awake_any (w : World) : Calls Try.prog 10 #[] w fun e w' => e = .returned (.bool true) ∧ Below w.heap.size w w' := by
  have E1 := Lib.hid (show putE 5 = 0 ∧ putM ⟨5, 9⟩ [] = [⟨5, 9⟩] from ⟨by kernel_rfl, by kernel_rfl⟩)
  have E2 := Lib.hid (show putE 3 = 0 ∧ putM ⟨3, 9⟩ [⟨5, 9⟩] = [⟨3, 9⟩, ⟨5, 9⟩] from ⟨by kernel_rfl, by kernel_rfl⟩)
  have E3 := Lib.hid (show putE 7 = 0 ∧ putM ⟨7, 1⟩ [⟨3, 9⟩, ⟨5, 9⟩] = [⟨7, 1⟩, ⟨3, 9⟩, ⟨5, 9⟩] from ⟨by kernel_rfl, by kernel_rfl⟩)
  have E4 := Lib.hid (show wo 7 [⟨7, 1⟩, ⟨3, 9⟩, ⟨5, 9⟩] = [⟨3, 9⟩, ⟨5, 9⟩] from by kernel_rfl)
  have I1 := Lib.hid (show IsFst [⟨7, 1⟩, ⟨3, 9⟩, ⟨5, 9⟩] ⟨7, 1⟩ from ⟨by simp, by intro e he; simp at he; rcases he with rfl | rfl | rfl <;> (unfold le lt; simp)⟩)
  have I2 := Lib.hid (show IsFst [⟨3, 9⟩, ⟨5, 9⟩] ⟨3, 9⟩ from ⟨by simp, by intro e he; simp at he; rcases he with rfl | rfl <;> (unfold le lt; simp)⟩)
  go_enter Try.func10, Try.ntmps10
  go_wp2_with fail
  refine (New_any w).mono ?_
  rintro ex w1 ⟨p, F0, rfl, hc, hg⟩
  have HC0 := Lib.hid hc
  have HG0 := Lib.hid hg
  clear hc hg
  go_wp2_with fail
  refine (Put_any _ _ [] ⟨5, 9⟩ w1 HG0.out).mono ?_
  rintro ex w2 ⟨rfl, F1, hc, hg⟩
  rw [E1.out.2] at hg
  rw [show putE (⟨5, 9⟩ : E).f = 0 from E1.out.1]
  have HC1 := Lib.hid (HC0.out.trans hc)
  have HG1 := Lib.hid hg
  clear hc hg HC0 HG0
  go_wp2_with fail
  refine (Put_any _ _ [⟨5, 9⟩] ⟨3, 9⟩ w2 HG1.out).mono ?_
  rintro ex w3 ⟨rfl, F2, hc, hg⟩
  rw [E2.out.2] at hg
  rw [show putE (⟨3, 9⟩ : E).f = 0 from E2.out.1]
  have HC2 := Lib.hid (HC1.out.trans hc)
  have HG2 := Lib.hid hg
  clear hc hg HC1 HG1
  go_wp2_with fail
  refine (Put_any _ _ [⟨3, 9⟩, ⟨5, 9⟩] ⟨7, 1⟩ w3 HG2.out).mono ?_
  rintro ex w4 ⟨rfl, F3, hc, hg⟩
  rw [E3.out.2] at hg
  rw [show putE (⟨7, 1⟩ : E).f = 0 from E3.out.1]
  have HC3 := Lib.hid (HC2.out.trans hc)
  have HG3 := Lib.hid hg
  clear hc hg HC2 HG2
  go_wp2_with fail
  refine (Pop_ok _ _ _ w4 HG3.out).mono ?_
  rintro ex w5 ⟨hc, he⟩
  rcases he with ⟨h, _⟩ | ⟨x, hx, hg, rfl⟩
  · cases h
  obtain rfl := fst_unique hx I1.out
  rw [show (E.mk 7 1).f = 7 from rfl, E4.out] at hg
  have HC4 := Lib.hid (HC3.out.trans hc)
  have HG4 := Lib.hid hg
  clear hc hg HC3 HG3 hx
  go_wp2_with fail
  refine (First_any _ _ _ w5 HG4.out).mono ?_
  rintro ex w6 ⟨hb, he⟩
  rcases he with ⟨h, _⟩ | ⟨x, hx, rfl⟩
  · cases h
  obtain rfl := fst_unique hx I2.out
  have HC5 := Lib.hid (HC4.out.trans (Chg.of_below (F := F3) hb))
  have HG5 := Lib.hid (HG4.out.below hb)
  clear hb hx HC4 HG4
  go_wp2_with fail
  refine (PLen_any _ _ _ w6 HG5.out).mono ?_
  rintro ex w7 ⟨rfl, rfl⟩
  go_wp2_with fail
  go_ret
  exact ⟨rfl, HC5.out.below (fun b hb => by simp at hb) (Nat.le_refl _)⟩
set_option maxHeartbeats 2000000 in
theorem none_law (d0 d1 d2 : Int) (w : World) : Calls Try.prog 7 #[.agg #[.int .i64 d0, .int .i64 d1, .int .i64 d2]] w fun e w' => e = .returned (.bool true) ∧ Below w.heap.size w w' := by
  obtain ⟨w0, hw0⟩ : ∃ w0, w0 = w.alloc (.cells #[.int .i64 d0, .int .i64 d1, .int .i64 d2] 33) := ⟨_, rfl⟩
  have hb0 : Below w.heap.size w w0 := by rw [hw0]; exact (Below.refl _ w).alloc (Nat.le_refl _) _
  have hh : w0.heap[w.heap.size]? = some (.cells #[.int .i64 d0, .int .i64 d1, .int .i64 d2] 33 (0, 0)) := by rw [hw0]; exact heap_alloc_new w _
  have k1 : w0.cell? ⟨w.heap.size, 1, none⟩ = some (.int .i64 d1) := cell_of_row w0 w.heap.size 1 _ 33 _ hh
  have k2 : w0.cell? ⟨w.heap.size, 2, none⟩ = some (.int .i64 d2) := cell_of_row w0 w.heap.size 2 _ 33 _ hh
  have HB0 := Lib.hid hb0
  clear hb0 hh
  go_enter Try.func7, Try.ntmps7
  go_upto_region 1 with fail
  rw [← hw0]
  clear hw0
  go_wp2_with fail
  refine (First_nil w0).mono ?_
  rintro ex w1 ⟨rfl, rfl⟩
  go_wp2_with fail
  refine (Pop_nil w0).mono ?_
  rintro ex w1 ⟨rfl, rfl⟩
  go_wp2_with fail
  refine (Worth_nil d1 w0).mono ?_
  rintro ex w1 ⟨rfl, rfl⟩
  go_wp2_with fail
  refine (awake_any w0).mono ?_
  rintro ex w1 ⟨rfl, hb1⟩
  replace k1 := cell_keep hb1 k1
  replace k2 := cell_keep hb1 k2
  have HB1 := Lib.hid (HB0.out.trans (hb1.mono HB0.out.size))
  clear hb1 HB0
  go_wp2_with fail
  refine (Len_nil w1).mono ?_
  rintro ex w2 ⟨rfl, rfl⟩
  go_wp2_with fail
  refine (Put_nil d1 d2 w1).mono ?_
  rintro ex w2 ⟨rfl, rfl⟩
  go_wp2_with fail
  refine (Drop_nil d1 w1).mono ?_
  rintro ex w2 ⟨rfl, rfl⟩
  go_wp2_with fail
  go_ret
  exact ⟨rfl, HB1.out⟩

end Go.Proofs.Ytekkblhghbkdiaa

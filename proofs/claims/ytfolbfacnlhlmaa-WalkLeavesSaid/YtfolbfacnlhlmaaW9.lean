/- Parts of the proofs of layer 7 (walk): contracts of its functions, and the laws' walks. -/
import Derived.Test.YtfolbfacnlhlmaaProg
import Derived.WalkKit
import Derived.WalkSpells
import Derived.WalkLawsBesides
import Derived.BigQuiet
import Derived.Deep.QuietTactic
import Derived.Lib.Hide
import Derived.Deep.RegionHeld3
import Derived.Deep.DeepCutAuto
import Derived.KernelRfl
import Derived.Deep.OwnRows
import Derived.Laws.CopyOwn
import Derived.Laws.CopyRow
import Derived.StillTailTactics
import Derived.Deep.RegionLaw
import Derived.Test.YtfolbfacnlhlmaaW8
namespace Go.Proofs.Ytfolbfacnlhlmaa
open Go.RowKit
set_option linter.unusedVariables false
set_option linter.unusedSimpArgs false

theorem row11 {w : World} {B : Nat} {c0 c1 c2 c3 c4 c5 c6 c7 c8 c9 c10 : Value} {t : TypeId} (h : w.heap[B]? = some (.cells #[c0, c1, c2, c3, c4, c5, c6, c7, c8, c9, c10] t (0, 0))) :
    w.cell? ⟨B, 0, none⟩ = some c0 ∧ w.cell? ⟨B, 1, none⟩ = some c1 ∧ w.cell? ⟨B, 2, none⟩ = some c2 ∧ w.cell? ⟨B, 3, none⟩ = some c3 ∧ w.cell? ⟨B, 4, none⟩ = some c4 ∧ w.cell? ⟨B, 5, none⟩ = some c5 ∧ w.cell? ⟨B, 6, none⟩ = some c6 ∧ w.cell? ⟨B, 7, none⟩ = some c7 ∧ w.cell? ⟨B, 8, none⟩ = some c8 ∧ w.cell? ⟨B, 9, none⟩ = some c9 ∧ w.cell? ⟨B, 10, none⟩ = some c10 :=
  ⟨cell_of_row w B 0 _ t _ h, cell_of_row w B 1 _ t _ h, cell_of_row w B 2 _ t _ h, cell_of_row w B 3 _ t _ h, cell_of_row w B 4 _ t _ h, cell_of_row w B 5 _ t _ h, cell_of_row w B 6 _ t _ h, cell_of_row w B 7 _ t _ h, cell_of_row w B 8 _ t _ h, cell_of_row w B 9 _ t _ h, cell_of_row w B 10 _ t _ h⟩
def f3 : Nat → Int := ptf 1536 (ptf 1536 (ptf 1536 (fun _ => 0) 0 0 1 true false false false false false) 1 0 2 true false false false false false) 2 1 8 true false true false false false
theorem awk_e1 : ptE 1536 0 0 1 true false false false false false = 0 := by decide
theorem awk_e2 : ptE 1536 1 0 2 true false false false false false = 0 := by decide
theorem awk_e3 : ptE 1536 2 1 8 true false true false false false = 0 := by decide
theorem awk_w0 : wk 1536 f3 11 4 0 [] = ⟨32897, 1, 11, 1, 0, [0, 1, 2]⟩ := by kernel_rfl
set_option maxHeartbeats 4000000 in
theorem awake_any (w : World) : Calls Try.prog 8 #[] w fun e w' => e = .returned (.bool true) ∧ Below w.heap.size w w' := by
  go_enter Try.func8, Try.ntmps8
  go_wp2_with fail
  refine (new_any 24 w (by omega) (by omega)).mono ?_
  rintro e w1 ⟨rfl, hb1, hm1, hs1⟩
  have HB := Lib.hid hb1
  have HM := Lib.hid hm1
  clear hb1 hm1 hs1
  go_wp2_with fail
  refine (put_any (w.heap.size + 1) w.heap.size 1536 _ 0 0 1 true false false false false false w1 HM.out).mono ?_
  rintro e w2 ⟨rfl, ho2, hm2⟩
  have HB2 := Lib.hid (HB.out.trans (ho2.below (Nat.le_refl _) HB.out.size))
  have HM2 := Lib.hid hm2
  clear ho2 hm2
  go_wp2_with fail
  refine (put_any (w.heap.size + 1) w.heap.size 1536 _ 1 0 2 true false false false false false w2 HM2.out).mono ?_
  rintro e w3 ⟨rfl, ho2, hm2⟩
  have HB3 := Lib.hid (HB2.out.trans (ho2.below (Nat.le_refl _) HB2.out.size))
  have HM3 := Lib.hid hm2
  clear ho2 hm2
  go_wp2_with fail
  refine (put_any (w.heap.size + 1) w.heap.size 1536 _ 2 1 8 true false true false false false w3 HM3.out).mono ?_
  rintro e w4 ⟨rfl, ho2, hm2⟩
  have HB4 := Lib.hid (HB3.out.trans (ho2.below (Nat.le_refl _) HB3.out.size))
  have HM4 : RowKit.Hid (Mem w4 (w.heap.size + 1) w.heap.size 1536 f3) := Lib.hid hm2
  clear ho2 hm2
  go_wp2_with fail
  refine (Walk_any (w.heap.size + 1) w.heap.size 1536 f3 0 11 w4 HM4.out (by omega) (by omega)).mono ?_
  rintro e w5 ⟨rfl, hb5⟩
  rw [awk_w0]
  unfold LV
  dsimp only
  generalize E.une0 32897 = y0
  generalize E.unb 32897 0 = y1
  generalize E.unb 32897 1 = y2
  generalize E.unb 32897 7 = y3
  generalize E.unb 32897 9 = y4
  generalize E.unb 32897 5 = y5
  generalize E.unb 32897 6 = y6
  have hA : Below w5.heap.size w5 (w5.alloc (Obj.cells #[.int .i64 y0, .bool y1, .bool y2, .bool y3, .bool y4, .bool y5, .bool y6, .int .i64 1, .int .i64 11] 41 (0, 0))) := (Below.refl _ _).alloc (Nat.le_refl _) _
  have q0 : (w5.alloc (Obj.cells #[.int .i64 y0, .bool y1, .bool y2, .bool y3, .bool y4, .bool y5, .bool y6, .int .i64 1, .int .i64 11] 41 (0, 0))).heap[w5.heap.size]? = some (.cells #[.int .i64 y0, .bool y1, .bool y2, .bool y3, .bool y4, .bool y5, .bool y6, .int .i64 1, .int .i64 11] 41 (0, 0)) := Deep.blk_alloc_new _ _
  have HB6 := Lib.hid ((HB4.out.trans (hb5.mono HB4.out.size)).trans (hA.mono (Nat.le_trans HB4.out.size hb5.size)))
  have HM6 := Lib.hid ((HM4.out.below hb5).below hA)
  clear hb5 hA
  go_upto_region 8 with fail
  generalize w5.alloc (Obj.cells #[.int .i64 y0, .bool y1, .bool y2, .bool y3, .bool y4, .bool y5, .bool y6, .int .i64 1, .int .i64 11] 41 (0, 0)) = w6 at *
  go_wp2_with fail
  refine (Path_any (w.heap.size + 1) w.heap.size 1536 f3 0 11 w6 HM6.out (by omega) (by omega)).mono ?_
  rintro e w7 ⟨v, rfl, hri, hb7⟩
  rw [awk_w0] at hri ⊢
  dsimp only at hri ⊢
  have q7 := (hb7.block _ (lt_of_block q0)).trans q0
  obtain ⟨a0, a1, a2, a3, a4, a5, a6, a7, a8⟩ := row9 q7
  obtain ⟨ao, cap, rfl, _, _⟩ := RV.slice hri
  have HRI := Lib.hid hri
  have HB7 := Lib.hid (HB6.out.trans (hb7.mono HB6.out.size))
  clear hri q0 q7 hb7
  go_wp2_with fail
  have hl := G.RI_lit w7 [0, 1, 2] 3 (by show (3 : Nat) ≤ 4096; omega)
  refine (G.numbers_any [0, 1, 2] [0, 1, 2] _ _ _ (RV.alloc HRI.out _) hl).mono ?_
  rintro e w8 ⟨rfl, j, rfl⟩
  go_wp2_with fail
  go_ret
  exact ⟨rfl, below_drewN (HB7.out.alloc HB7.out.size _) j⟩

end Go.Proofs.Ytfolbfacnlhlmaa

/- Parts of the proofs of layer 19 (radix): contracts of its functions, and the laws' walks. -/
import Derived.Test.YtdnnfoojdfmajaaProg
import Derived.WalkKit
import Derived.WalkSpells
import Derived.WalkLawsBesides
import Derived.BigQuiet
import Derived.Deep.QuietTactic
import Derived.Lib.Hide
import Derived.Deep.RegionHeld3
import Derived.Deep.DeepCutAuto
import Derived.KernelRfl
import Derived.Deep.OwnRows
import Derived.Laws.CopyOwn
import Derived.Laws.CopyRow
import Derived.StillTailTactics
import Derived.Deep.RegionLaw
import Derived.Handy
import Derived.Deep.CutRange
import Derived.Deep.CutBlock
import Derived.Test.YtdnnfoojdfmajaaX24
namespace Go.Proofs.Ytdnnfoojdfmajaa
open Go.RowKit
set_option linter.unusedVariables false
set_option linter.unusedSimpArgs false

theorem Change_nil (page v : Int) (w : World) : Calls Try.prog 27 #[.pointer none, .int .i64 page, .int .i64 v] w fun e w' => e = .returned (.int .i64 1) ∧ Below w.heap.size w w' := by
  go_enter Try.func27, Try.ntmps27
  go_wp2_with (go_at_call 32; refine (find_nil page _).mono ?_; rintro e w1 ⟨rfl, rfl⟩)
  go_ret
  exact ⟨rfl, Below.refl _ _⟩
set_option maxRecDepth 100000 in
set_option maxHeartbeats 8000000 in
theorem none_law (a b c d m : Int) (on : Bool) (w : World) : Calls Try.prog 8 #[.agg #[.int .i64 a, .int .i64 b, .int .i64 c, .int .i64 d, .int .i64 m, .bool on]] w fun e w' => e = .returned (.bool true) ∧ Below w.heap.size w w' := by
  have hz := heap_alloc_new w (.cells #[.int .i64 a, .int .i64 b, .int .i64 c, .int .i64 d, .int .i64 m, .bool on] 52)
  have hA : Below w.heap.size w (w.alloc (.cells #[.int .i64 a, .int .i64 b, .int .i64 c, .int .i64 d, .int .i64 m, .bool on] 52)) := (Below.refl _ _).alloc (Nat.le_refl _) _
  have x1 : (w.alloc (.cells #[.int .i64 a, .int .i64 b, .int .i64 c, .int .i64 d, .int .i64 m, .bool on] 52)).cell? ⟨w.heap.size, 1, none⟩ = some (.int .i64 b) := cell_of_row _ _ 1 _ 52 _ hz
  have x2 : (w.alloc (.cells #[.int .i64 a, .int .i64 b, .int .i64 c, .int .i64 d, .int .i64 m, .bool on] 52)).cell? ⟨w.heap.size, 2, none⟩ = some (.int .i64 c) := cell_of_row _ _ 2 _ 52 _ hz
  have x3 : (w.alloc (.cells #[.int .i64 a, .int .i64 b, .int .i64 c, .int .i64 d, .int .i64 m, .bool on] 52)).cell? ⟨w.heap.size, 3, none⟩ = some (.int .i64 d) := cell_of_row _ _ 3 _ 52 _ hz
  have x4 : (w.alloc (.cells #[.int .i64 a, .int .i64 b, .int .i64 c, .int .i64 d, .int .i64 m, .bool on] 52)).cell? ⟨w.heap.size, 4, none⟩ = some (.int .i64 m) := cell_of_row _ _ 4 _ 52 _ hz
  have x5 : (w.alloc (.cells #[.int .i64 a, .int .i64 b, .int .i64 c, .int .i64 d, .int .i64 m, .bool on] 52)).cell? ⟨w.heap.size, 5, none⟩ = some (.bool on) := cell_of_row _ _ 5 _ 52 _ hz
  have HB0 := Lib.hid hA
  clear hz hA
  go_enter Try.func8, Try.ntmps8
  go_upto_region 1 with fail
  generalize w.alloc (.cells #[.int .i64 a, .int .i64 b, .int .i64 c, .int .i64 d, .int .i64 m, .bool on] 52) = w1 at *
  generalize hD : w.heap.size = D at *
  have HD := Lib.hid hD
  clear hD
  have HX := Lib.hid (And.intro x1 (And.intro x2 (And.intro x3 (And.intro x4 x5))))
  go_wp2_with fail
  refine (Get_nil b w1).mono ?_
  rintro e w2 ⟨rfl, hb2⟩
  unfold zblk
  have hA2 : Below w2.heap.size w2 (w2.alloc (.cells #[.int .i64 0, .int .i64 0] 29)) := (Below.refl _ _).alloc (Nat.le_refl _) _
  have HB2 := Lib.hid (hb2.trans (hA2.mono hb2.size))
  clear x1 x2 x3 x4 x5
  have hz := heap_alloc_new w2 (.cells #[.int .i64 0, .int .i64 0] 29)
  have HB3 := Lib.hid (show Below D w (w2.alloc (.cells #[.int .i64 0, .int .i64 0] 29)) from HB0.out.trans (HB2.out.mono (by have := HB0.out.size; have := HD.out; omega)))
  have z0 : (w2.alloc (.cells #[.int .i64 0, .int .i64 0] 29)).cell? ⟨w2.heap.size, 0, none⟩ = some (.int .i64 0) := cell_of_row _ _ 0 _ 29 _ hz
  have z1 : (w2.alloc (.cells #[.int .i64 0, .int .i64 0] 29)).cell? ⟨w2.heap.size, 1, none⟩ = some (.int .i64 0) := cell_of_row _ _ 1 _ 29 _ hz
  have x1 := cell_keep HB2.out HX.out.1
  have x2 := cell_keep HB2.out HX.out.2.1
  have x3 := cell_keep HB2.out HX.out.2.2.1
  have x4 := cell_keep HB2.out HX.out.2.2.2.1
  have x5 := cell_keep HB2.out HX.out.2.2.2.2
  clear hz
  go_upto_region 3 with fail
  generalize w2.alloc (.cells #[.int .i64 0, .int .i64 0] 29) = w3 at *
  generalize w2.heap.size = B5 at *
  go_wp2_with fail
  refine (Del_nil b w3).mono ?_
  rintro e w4 ⟨rfl, hb⟩
  have x1 := cell_keep hb x1
  have x2 := cell_keep hb x2
  have x3 := cell_keep hb x3
  have x4 := cell_keep hb x4
  have x5 := cell_keep hb x5
  have z0 := cell_keep hb z0
  have z1 := cell_keep hb z1
  have HB4 := Lib.hid (HB3.out.trans (hb.mono (by have := HB3.out.size; have := HD.out; omega)))
  clear hb
  go_wp2_with fail
  refine (Next_nil b m w4).mono ?_
  rintro e w5 ⟨rfl, hb⟩
  have x1 := cell_keep hb x1
  have x2 := cell_keep hb x2
  have x3 := cell_keep hb x3
  have x4 := cell_keep hb x4
  have x5 := cell_keep hb x5
  have z0 := cell_keep hb z0
  have z1 := cell_keep hb z1
  have HB5 := Lib.hid (HB4.out.trans (hb.mono (by have := HB4.out.size; have := HD.out; omega)))
  clear hb
  unfold zblk
  have hz := heap_alloc_new w5 (.cells #[.int .i64 0, .int .i64 0] 29)
  have hb : Below w5.heap.size w5 (w5.alloc (.cells #[.int .i64 0, .int .i64 0] 29)) := (Below.refl _ _).alloc (Nat.le_refl _) _
  have y0 : (w5.alloc (.cells #[.int .i64 0, .int .i64 0] 29)).cell? ⟨w5.heap.size, 0, none⟩ = some (.int .i64 0) := cell_of_row _ _ 0 _ 29 _ hz
  have y1 : (w5.alloc (.cells #[.int .i64 0, .int .i64 0] 29)).cell? ⟨w5.heap.size, 1, none⟩ = some (.int .i64 0) := cell_of_row _ _ 1 _ 29 _ hz
  have x1 := cell_keep hb x1
  have x2 := cell_keep hb x2
  have x3 := cell_keep hb x3
  have x4 := cell_keep hb x4
  have x5 := cell_keep hb x5
  have z0 := cell_keep hb z0
  have z1 := cell_keep hb z1
  have HB6 := Lib.hid (HB5.out.trans (hb.mono (by have := HB5.out.size; have := HD.out; omega)))
  clear hb hz
  go_wp2_with fail
  generalize w5.alloc (.cells #[.int .i64 0, .int .i64 0] 29) = w6 at *
  generalize w5.heap.size = B9 at *
  refine (awake_any w6).mono ?_
  rintro e w7 ⟨rfl, hb⟩
  have x1 := cell_keep hb x1
  have x2 := cell_keep hb x2
  have x3 := cell_keep hb x3
  have x4 := cell_keep hb x4
  have x5 := cell_keep hb x5
  have z0 := cell_keep hb z0
  have z1 := cell_keep hb z1
  have y0 := cell_keep hb y0
  have y1 := cell_keep hb y1
  have HB7 := Lib.hid (HB6.out.trans (hb.mono (by have := HB6.out.size; have := HD.out; omega)))
  clear hb
  go_wp2_with fail
  refine (Len_nil w7).mono ?_
  rintro e w8 ⟨rfl, rfl⟩
  go_wp2_with fail
  refine (Nodes_nil w7).mono ?_
  rintro e w8 ⟨rfl, rfl⟩
  go_wp2_with fail
  refine (Set_nil b c d w7).mono ?_
  rintro e w8 ⟨rfl, hb⟩
  have x1 := cell_keep hb x1
  have x2 := cell_keep hb x2
  have x3 := cell_keep hb x3
  have x4 := cell_keep hb x4
  have x5 := cell_keep hb x5
  have HB8 := Lib.hid (HB7.out.trans (hb.mono (by have := HB7.out.size; have := HD.out; omega)))
  clear hb
  go_wp2_with fail
  refine (Change_nil b d w8).mono ?_
  rintro e w9 ⟨rfl, hb⟩
  have x1 := cell_keep hb x1
  have x2 := cell_keep hb x2
  have x3 := cell_keep hb x3
  have x4 := cell_keep hb x4
  have x5 := cell_keep hb x5
  have HB9 := Lib.hid (HB8.out.trans (hb.mono (by have := HB8.out.size; have := HD.out; omega)))
  clear hb
  go_wp2_with fail
  refine (Split_nil b d w9).mono ?_
  rintro e w10 ⟨rfl, hb⟩
  have x1 := cell_keep hb x1
  have x2 := cell_keep hb x2
  have x3 := cell_keep hb x3
  have x4 := cell_keep hb x4
  have x5 := cell_keep hb x5
  have HB10 := Lib.hid (HB9.out.trans (hb.mono (by have := HB9.out.size; have := HD.out; omega)))
  clear hb
  go_wp2_with fail
  refine (Join_nil b w10).mono ?_
  rintro e w11 ⟨rfl, hb⟩
  have x1 := cell_keep hb x1
  have x2 := cell_keep hb x2
  have x3 := cell_keep hb x3
  have x4 := cell_keep hb x4
  have x5 := cell_keep hb x5
  have HB11 := Lib.hid (HB10.out.trans (hb.mono (by have := HB10.out.size; have := HD.out; omega)))
  clear hb
  go_wp2_with fail
  refine (Mark_nil b m on w11).mono ?_
  rintro e w12 ⟨rfl, hb⟩
  have x1 := cell_keep hb x1
  have x2 := cell_keep hb x2
  have x3 := cell_keep hb x3
  have x4 := cell_keep hb x4
  have x5 := cell_keep hb x5
  have HB12 := Lib.hid (HB11.out.trans (hb.mono (by have := HB11.out.size; have := HD.out; omega)))
  clear hb
  go_wp2_with fail
  refine (Marked_nil b m w12).mono ?_
  rintro e w13 ⟨rfl, hb⟩
  have x1 := cell_keep hb x1
  have x2 := cell_keep hb x2
  have x3 := cell_keep hb x3
  have x4 := cell_keep hb x4
  have x5 := cell_keep hb x5
  have HB13 := Lib.hid (HB12.out.trans (hb.mono (by have := HB12.out.size; have := HD.out; omega)))
  clear hb
  go_wp2_with fail
  go_ret
  exact ⟨rfl, by rw [HD.out]; exact HB13.out⟩

end Go.Proofs.Ytdnnfoojdfmajaa

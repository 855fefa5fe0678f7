/- Parts of the proofs of layer 7 (walk): contracts of its functions, and the laws' walks. -/
import Derived.Test.YtfolbfacnlhlmaaProg
import Derived.WalkKit
import Derived.WalkSpells
import Derived.WalkLawsBesides
import Derived.BigQuiet
import Derived.Deep.QuietTactic
import Derived.Lib.Hide
import Derived.Deep.RegionHeld3
import Derived.Deep.DeepCutAuto
import Derived.KernelRfl
import Derived.Deep.OwnRows
import Derived.Laws.CopyOwn
import Derived.Laws.CopyRow
import Derived.StillTailTactics
import Derived.Deep.RegionLaw
import Derived.Test.YtfolbfacnlhlmaaM8
namespace Go.Proofs.Ytfolbfacnlhlmaa
open Go.RowKit
set_option linter.unusedVariables false
set_option linter.unusedSimpArgs false

set_option maxHeartbeats 1000000 in
theorem rnew_any (fr : Nat) (w : World) (h0 : 8 ≤ fr) (h1 : fr ≤ 1024) : Calls Try.prog 16 #[.int .i64 fr] w fun e w' => e = .returned (.tuple #[.pointer (some ⟨w.heap.size + 1, 0, none⟩), .int .i64 0]) ∧ Below w.heap.size w w' ∧ RMem w' (w.heap.size + 1) w.heap.size (fr * 8) (fun _ => 0) ∧ w'.heap.size = w.heap.size + 2 := by
  have hmk := run_make_row' (P := Try.prog) 63 25 (.int .u64 0) 8 (by kernel_rfl) (by kernel_rfl) rfl .i64 .i64 (fr * 8) (by omega) (by omega)
  rw [show ((fr * 8 : Nat) : Int) = (fr : Int) * 8 from by omega] at hmk
  have d0 : decide ((fr : Int) < 8) = false := decide_eq_false (by omega)
  have d1 : decide ((1024 : Int) < (fr : Int)) = false := decide_eq_false (by omega)
  have hrow := World.rowIs_made w (.int .u64 0) (fr * 8) 25
  have hb := (Below.refl w.heap.size w).alloc (Nat.le_refl _) (Obj.cells (madeCells #[.int .u64 0] (fr * 8)) 25)
  generalize hX : w.alloc (Obj.cells (madeCells #[.int .u64 0] (fr * 8)) 25) = X at hrow hb
  have hXs : X.heap.size = w.heap.size + 1 := by rw [← hX]; exact World.size_alloc _ _
  have hmk2 := hmk w
  rw [hX] at hmk2
  clear hmk hX
  have HR := Lib.hid hrow
  have HB := Lib.hid hb
  clear hrow hb
  go_enter Try.func16, Try.ntmps16
  go_wp2_with fail
  go_ret2
  exact ⟨rfl, HB.out.alloc (by omega) _, ⟨by rw [← hXs]; exact Deep.blk_alloc_new _ _, HR.out.alloc _, by omega, by omega, by omega, by omega⟩, by rw [World.size_alloc, hXs]⟩
theorem rnew_no (fr : Int) (w : World) (h : fr < 8 ∨ 1024 < fr) : Calls Try.prog 16 #[.int .i64 fr] w fun e w' => e = .returned (.tuple #[.pointer none, .int .i64 2]) ∧ w = w' := by
  by_cases h0 : fr < 8
  · have d0 : decide (fr < 8) = true := decide_eq_true h0
    go_enter Try.func16, Try.ntmps16
    go_wp2_with fail
    go_ret2
    exact ⟨rfl, rfl⟩
  · have d0 : decide (fr < 8) = false := decide_eq_false h0
    have d1 : decide (1024 < fr) = true := decide_eq_true (by omega)
    go_enter Try.func16, Try.ntmps16
    go_wp2_with fail
    go_ret2
    exact ⟨rfl, rfl⟩

end Go.Proofs.Ytfolbfacnlhlmaa

/- Parts of the proofs of layer 2 (ram): contracts of its functions, and the laws' walks. -/
import Derived.Test.YtmjkcmpanoepgaaProg
import Derived.WalkKit
import Derived.WalkSpells
import Derived.WalkLawsBesides
import Derived.BigQuiet
import Derived.Deep.QuietTactic
import Derived.Lib.Hide
import Derived.Deep.RegionHeld3
import Derived.Deep.DeepCutAuto
import Derived.KernelRfl
import Derived.Deep.OwnRows
import Derived.Laws.CopyOwn
import Derived.Laws.CopyRow
import Derived.StillTailTactics
import Derived.Test.YtmjkcmpanoepgaaM5
namespace Go.Proofs.Ytmjkcmpanoepgaa
open Go.RowKit
set_option linter.unusedVariables false
set_option linter.unusedSimpArgs false

set_option maxHeartbeats 1000000 in
theorem new_any (fr : Nat) (w : World) (h0 : 8 ≤ fr) (h1 : fr ≤ 1024) : Calls Try.prog 9 #[.int .i64 fr] w fun e w' => e = .returned (.tuple #[.pointer (some ⟨w.heap.size + 1, 0, none⟩), .int .i64 0]) ∧ Below w.heap.size w w' ∧ Mem w' (w.heap.size + 1) w.heap.size (fr * 64) (fun _ => 0) ∧ w'.heap.size = w.heap.size + 2 := by
  have hmk := run_make_row' (P := Try.prog) 57 5 (.int .u8 0) 1 (by kernel_rfl) (by kernel_rfl) rfl .i64 .i64 (fr * 64) (by omega) (by omega)
  rw [show ((fr * 64 : Nat) : Int) = (fr : Int) * 64 from by omega] at hmk
  have d0 : decide ((fr : Int) < 8) = false := decide_eq_false (by omega)
  have d1 : decide ((1024 : Int) < (fr : Int)) = false := decide_eq_false (by omega)
  have hrow := World.rowIs_made w (.int .u8 0) (fr * 64) 5
  have hb := (Below.refl w.heap.size w).alloc (Nat.le_refl _) (Obj.cells (madeCells #[.int .u8 0] (fr * 64)) 5)
  generalize hX : w.alloc (Obj.cells (madeCells #[.int .u8 0] (fr * 64)) 5) = X at hrow hb
  have hXs : X.heap.size = w.heap.size + 1 := by rw [← hX]; exact World.size_alloc _ _
  have hmk2 := hmk w
  rw [hX] at hmk2
  clear hmk hX
  have HR := Lib.hid hrow
  have HB := Lib.hid hb
  clear hrow hb
  go_enter Try.func9, Try.ntmps9
  go_wp2_with fail
  go_ret2
  exact ⟨rfl, HB.out.alloc (by omega) _, ⟨by rw [← hXs]; exact Deep.blk_alloc_new _ _, HR.out.alloc _, by omega, by omega, by omega, by omega, fun _ => ⟨Int.le_refl 0, show (0 : Int) ≤ 255 by omega⟩⟩, by rw [World.size_alloc, hXs]⟩
theorem new_no (fr : Int) (w : World) (h : fr < 8 ∨ 1024 < fr) : Calls Try.prog 9 #[.int .i64 fr] w fun e w' => e = .returned (.tuple #[.pointer none, .int .i64 2]) ∧ w = w' := by
  by_cases h0 : fr < 8
  · have d0 : decide (fr < 8) = true := decide_eq_true h0
    go_enter Try.func9, Try.ntmps9
    go_wp2_with fail
    go_ret2
    exact ⟨rfl, rfl⟩
  · have d0 : decide (fr < 8) = false := decide_eq_false h0
    have d1 : decide (1024 < fr) = true := decide_eq_true (by omega)
    go_enter Try.func9, Try.ntmps9
    go_wp2_with fail
    go_ret2
    exact ⟨rfl, rfl⟩
set_option maxHeartbeats 2000000 in
theorem awake_any (w : World) : Calls Try.prog 10 #[] w fun e w' => e = .returned (.bool true) ∧ Below w.heap.size w w' := by
  go_enter Try.func10, Try.ntmps10
  go_wp2_with fail
  refine (new_any 8 w (by omega) (by omega)).mono ?_
  rintro e w1 ⟨rfl, hb1, hm1, hs1⟩
  have HB := Lib.hid hb1
  have HM := Lib.hid hm1
  clear hb1 hm1 hs1
  go_wp2_with fail
  refine (store_any (w.heap.size + 1) w.heap.size (8 * 64) _ 64 258 w1 HM.out rfl (by omega) (by omega)).mono ?_
  rintro e w2 ⟨rfl, ho2, hm2⟩
  have HO := Lib.hid ho2
  have HM2 := Lib.hid hm2
  clear ho2 hm2
  go_wp2_with fail
  refine (copy_any (w.heap.size + 1) w.heap.size (8 * 64) _ 3 1 1 w2 HM2.out (by omega) (by omega) (by omega)).mono ?_
  rintro e w3 ⟨rfl, ho3, hm3⟩
  have HO3 := Lib.hid ho3
  have HM3 := Lib.hid hm3
  clear ho3 hm3
  have hv1 : cpy (lay (fun _ => 0) 64 8 258) (3 * 64) (1 * 64) (1 * 64) 65 = 1 := by rfl
  have hv2 : wd (cpy (lay (fun _ => 0) 64 8 258) (3 * 64) (1 * 64) (1 * 64)) 192 = 258 := by rfl
  have HV1 := Lib.hid hv1
  have HV2 := Lib.hid hv2
  clear hv1 hv2
  go_wp2_with fail
  refine (byte_any (w.heap.size + 1) w.heap.size (8 * 64) _ 65 w3 HM3.out (by omega) (by omega)).mono ?_
  rintro e _ ⟨rfl, rfl⟩
  rw [show (65 : Int).toNat = 65 from rfl, HV1.out]
  go_wp2_with fail
  refine (load_any (w.heap.size + 1) w.heap.size (8 * 64) _ 192 w3 HM3.out (by omega) (by omega)).mono ?_
  rintro e _ ⟨rfl, rfl⟩
  rw [HV2.out]
  go_wp2_with fail
  go_ret
  exact ⟨rfl, HB.out.trans (((HO.out).trans HO3.out).below (Nat.le_refl _))⟩
theorem load_nil (at_ : Int) (w : World) : Calls Try.prog 13 #[.pointer none, .int .i64 at_] w fun e w' => e = .returned (.tuple #[.int .u64 0, .int .i64 1]) ∧ w = w' := by
  go_enter Try.func13, Try.ntmps13
  go_wp2_with (go_at_call 22; refine (wrong_nil _ _ _).mono ?_; rintro e _ ⟨rfl, rfl⟩)
  go_ret2
  exact ⟨rfl, rfl⟩
theorem byte_nil (at_ : Int) (w : World) : Calls Try.prog 12 #[.pointer none, .int .i64 at_] w fun e w' => e = .returned (.tuple #[.int .u8 0, .int .i64 1]) ∧ w = w' := by
  go_enter Try.func12, Try.ntmps12
  go_wp2_with (go_at_call 22; refine (wrong_nil _ _ _).mono ?_; rintro e _ ⟨rfl, rfl⟩)
  go_ret2
  exact ⟨rfl, rfl⟩
theorem store_nil (at_ x : Int) (w : World) : Calls Try.prog 11 #[.pointer none, .int .i64 at_, .int .u64 x] w fun e w' => e = .returned (.int .i64 1) ∧ w = w' := by
  go_enter Try.func11, Try.ntmps11
  go_wp2_with (go_at_call 22; refine (wrong_nil _ _ _).mono ?_; rintro e _ ⟨rfl, rfl⟩)
  go_ret
  exact ⟨rfl, rfl⟩
theorem fr_nil (a b : Int) (w : World) : Calls Try.prog 26 #[.pointer none, .int .i64 a, .int .i64 b] w fun e w' => e = .returned (.tuple #[.slice none 0 0, .int .i64 1]) ∧ w = w' := by
  go_enter Try.func26, Try.ntmps26
  go_wp2_with (fail)
  go_ret2
  exact ⟨rfl, rfl⟩
theorem frames_nil (w : World) : Calls Try.prog 18 #[.pointer none] w fun e w' => e = .returned (.int .i64 0) ∧ w = w' := by
  go_enter Try.func18, Try.ntmps18
  go_wp2_with (fail)
  go_ret
  exact ⟨rfl, rfl⟩
theorem zero_nil (a b : Int) (w : World) : Calls Try.prog 20 #[.pointer none, .int .i64 a, .int .i64 b] w fun e w' => e = .returned (.int .i64 1) ∧ w = w' := by
  have hc : ∀ w, (Builtin.clear_ #[57] 0 #[.slice none 0 0]).run Try.prog w = .ok (.tuple #[]) w := fun _ => by kernel_rfl
  go_enter Try.func20, Try.ntmps20
  go_wp2_with fail
  refine (fr_nil a b w).mono ?_
  rintro e _ ⟨rfl, rfl⟩
  go_wp2_with fail
  go_ret
  exact ⟨rfl, rfl⟩
theorem copy_nil (a b c : Int) (w : World) : Calls Try.prog 21 #[.pointer none, .int .i64 a, .int .i64 b, .int .i64 c] w fun e w' => e = .returned (.int .i64 1) ∧ w = w' := by
  go_enter Try.func21, Try.ntmps21
  go_wp2_with fail
  refine (fr_nil a c w).mono ?_
  rintro e _ ⟨rfl, rfl⟩
  go_wp2_with fail
  go_ret
  exact ⟨rfl, rfl⟩

end Go.Proofs.Ytmjkcmpanoepgaa

/- Parts of the proofs of layer 2 (ram): contracts of its functions, and the laws' walks. -/
import Derived.Test.YtmjkcmpanoepgaaProg
import Derived.WalkKit
import Derived.WalkSpells
import Derived.WalkLawsBesides
import Derived.BigQuiet
import Derived.Deep.QuietTactic
import Derived.Lib.Hide
import Derived.Deep.RegionHeld3
import Derived.Deep.DeepCutAuto
import Derived.KernelRfl
import Derived.Deep.OwnRows
import Derived.Laws.CopyOwn
import Derived.Laws.CopyRow
import Derived.StillTailTactics
import Derived.Test.YtmjkcmpanoepgaaM8
namespace Go.Proofs.Ytmjkcmpanoepgaa
open Go.RowKit
set_option linter.unusedVariables false
set_option linter.unusedSimpArgs false

set_option maxHeartbeats 1000000 in
theorem rbyte_any (g b n : Nat) (v : Nat → Int) (a k j : Nat) (w : World) (h : RMem w g b n v) (hv : 0 ≤ v k ∧ v k < 18446744073709551616) (hk : a / 8 = k) (hj : a % 8 = j) (h1 : a < n * 8) : Calls Try.prog 17 #[.pointer (some ⟨g, 0, none⟩), .int .i64 a] w fun e w' => e = .returned (.tuple #[.int .u8 (byt (v k) j), .int .i64 0]) ∧ w = w' := by
  have hkn : k < n := by omega
  have c0 := cell_of_one h.1
  have c1 := h.2.1.cell (i := k) hkn
  have hn : n ≤ 8192 := h.2.2.2.2.1
  clear h
  have d0 : decide ((a : Int) < 0) = false := decide_eq_false (by omega)
  have d1 : decide ((n : Int) * 8 ≤ (a : Int)) = false := decide_eq_false (by omega)
  have d3 : (a : Int) / 8 = (k : Nat) := by omega
  have d5 : (a : Int) % 8 = (j : Nat) := by omega
  have hj8 : j < 8 := by omega
  have s7 : v k / 2 ^ (8 * j) % 256 = byt (v k) j := rfl
  generalize v k = x at *
  go_enter Try.func17, Try.ntmps17
  go_wp2
  go_ret2
  exact ⟨rfl, rfl⟩
set_option maxHeartbeats 1000000 in
theorem rbyte_no (g b n : Nat) (v : Nat → Int) (a : Int) (w : World) (h : RMem w g b n v) (h0 : wrg (n * 8) a 1 ≠ 0) : Calls Try.prog 17 #[.pointer (some ⟨g, 0, none⟩), .int .i64 a] w fun e w' => e = .returned (.tuple #[.int .u8 0, .int .i64 (wrg (n * 8) a 1)]) ∧ w = w' := by
  have c0 := cell_of_one h.1
  have hn : n ≤ 8192 := h.2.2.2.2.1
  clear h
  unfold wrg at h0 ⊢
  by_cases k0 : a < 0
  · rw [if_pos k0]
    have d0 : decide (a < 0) = true := decide_eq_true k0
    go_enter Try.func17, Try.ntmps17
    go_wp2
    go_ret2
    exact ⟨rfl, rfl⟩
  · rw [if_neg k0] at h0 ⊢
    have d0 : decide (a < 0) = false := decide_eq_false k0
    by_cases k1 : ((n * 8 : Nat) : Int) ≤ a
    · rw [if_pos k1]
      have d1 : decide ((n : Int) * 8 ≤ a) = true := decide_eq_true (by omega)
      go_enter Try.func17, Try.ntmps17
      go_wp2
      go_ret2
      exact ⟨rfl, rfl⟩
    · rw [if_neg k1, if_pos (by omega)] at h0
      exact (h0 rfl).elim
set_option maxHeartbeats 1000000 in
theorem there_any (g b N n : Nat) (v : Nat → Int) (fr m : Int) (w : World) (h : RMem w g b N v) (hn : n = N * 8) (hm : 1 ≤ m) (hr : -9223372036854775808 ≤ fr ∧ fr < 9223372036854775808) : Calls Try.prog 27 #[.pointer (some ⟨g, 0, none⟩), .int .i64 fr, .int .i64 m] w fun e w' => e = .returned (.bool (frm n fr m == 0)) ∧ w = w' := by
  have hN : N ≤ 8192 := h.2.2.2.2.1
  have H := Lib.hid h
  clear h
  obtain ⟨F, hF⟩ : ∃ F : Nat, F = N / 8 := ⟨_, rfl⟩
  have HC := Lib.hid (rframes_any g b N v w H.out)
  rw [← hF] at HC
  have hF2 : F ≤ 1024 := by omega
  have hnF : (n : Int) / 64 = F := by omega
  unfold frm
  rw [hnF, if_neg (by omega)]
  clear hF hn hN hnF
  by_cases k0 : fr < 0
  · rw [if_pos k0]
    have d0 : decide (0 ≤ fr) = false := decide_eq_false (by omega)
    go_enter Try.func27, Try.ntmps27
    go_wp2
    go_ret
    exact ⟨rfl, rfl⟩
  · rw [if_neg k0]
    have d0 : decide (0 ≤ fr) = true := decide_eq_true (by omega)
    by_cases k1 : fr < (F : Int)
    · have d1 : decide (fr < (F : Int)) = true := decide_eq_true k1
      rw [if_neg (by omega)]
      by_cases k2 : (F : Int) - fr < m
      · have d2 : decide (m ≤ (F : Int) - fr) = false := decide_eq_false (by omega)
        rw [if_pos k2]
        go_enter Try.func27, Try.ntmps27
        go_wp2_with (go_at_call 19; refine HC.out.mono ?_; rintro e _ ⟨rfl, rfl⟩)
        go_ret
        exact ⟨rfl, rfl⟩
      · have d2 : decide (m ≤ (F : Int) - fr) = true := decide_eq_true (by omega)
        rw [if_neg k2]
        go_enter Try.func27, Try.ntmps27
        go_wp2_with (go_at_call 19; refine HC.out.mono ?_; rintro e _ ⟨rfl, rfl⟩)
        go_ret
        exact ⟨rfl, rfl⟩
    · have d1 : decide (fr < (F : Int)) = false := decide_eq_false k1
      have e3 : (if (F : Int) < fr then (3 : Int) else if (F : Int) - fr < m then 3 else 0) = 3 := by
        split
        · rfl
        · rw [if_pos (by omega)]
      rw [e3]
      clear e3
      go_enter Try.func27, Try.ntmps27
      go_wp2_with (go_at_call 19; refine HC.out.mono ?_; rintro e _ ⟨rfl, rfl⟩)
      go_ret
      exact ⟨rfl, rfl⟩
set_option maxHeartbeats 1000000 in
theorem rnew_any (fr : Nat) (w : World) (h0 : 8 ≤ fr) (h1 : fr ≤ 1024) : Calls Try.prog 14 #[.int .i64 fr] w fun e w' => e = .returned (.tuple #[.pointer (some ⟨w.heap.size + 1, 0, none⟩), .int .i64 0]) ∧ Below w.heap.size w w' ∧ RMem w' (w.heap.size + 1) w.heap.size (fr * 8) (fun _ => 0) ∧ w'.heap.size = w.heap.size + 2 := by
  have hmk := run_make_row' (P := Try.prog) 45 22 (.int .u64 0) 8 (by kernel_rfl) (by kernel_rfl) rfl .i64 .i64 (fr * 8) (by omega) (by omega)
  rw [show ((fr * 8 : Nat) : Int) = (fr : Int) * 8 from by omega] at hmk
  have d0 : decide ((fr : Int) < 8) = false := decide_eq_false (by omega)
  have d1 : decide ((1024 : Int) < (fr : Int)) = false := decide_eq_false (by omega)
  have hrow := World.rowIs_made w (.int .u64 0) (fr * 8) 22
  have hb := (Below.refl w.heap.size w).alloc (Nat.le_refl _) (Obj.cells (madeCells #[.int .u64 0] (fr * 8)) 22)
  generalize hX : w.alloc (Obj.cells (madeCells #[.int .u64 0] (fr * 8)) 22) = X at hrow hb
  have hXs : X.heap.size = w.heap.size + 1 := by rw [← hX]; exact World.size_alloc _ _
  have hmk2 := hmk w
  rw [hX] at hmk2
  clear hmk hX
  have HR := Lib.hid hrow
  have HB := Lib.hid hb
  clear hrow hb
  go_enter Try.func14, Try.ntmps14
  go_wp2_with fail
  go_ret2
  exact ⟨rfl, HB.out.alloc (by omega) _, ⟨by rw [← hXs]; exact Deep.blk_alloc_new _ _, HR.out.alloc _, by omega, by omega, by omega, by omega⟩, by rw [World.size_alloc, hXs]⟩
theorem rnew_no (fr : Int) (w : World) (h : fr < 8 ∨ 1024 < fr) : Calls Try.prog 14 #[.int .i64 fr] w fun e w' => e = .returned (.tuple #[.pointer none, .int .i64 2]) ∧ w = w' := by
  by_cases h0 : fr < 8
  · have d0 : decide (fr < 8) = true := decide_eq_true h0
    go_enter Try.func14, Try.ntmps14
    go_wp2_with fail
    go_ret2
    exact ⟨rfl, rfl⟩
  · have d0 : decide (fr < 8) = false := decide_eq_false h0
    have d1 : decide (1024 < fr) = true := decide_eq_true (by omega)
    go_enter Try.func14, Try.ntmps14
    go_wp2_with fail
    go_ret2
    exact ⟨rfl, rfl⟩

end Go.Proofs.Ytmjkcmpanoepgaa

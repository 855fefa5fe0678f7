/- Parts of the proofs of layer 7 (walk): contracts of its functions, and the laws' walks. -/
import Derived.Test.YtfolbfacnlhlmaaProg
import Derived.WalkKit
import Derived.WalkSpells
import Derived.WalkLawsBesides
import Derived.BigQuiet
import Derived.Deep.QuietTactic
import Derived.Lib.Hide
import Derived.Deep.RegionHeld3
import Derived.Deep.DeepCutAuto
import Derived.KernelRfl
import Derived.Deep.OwnRows
import Derived.Laws.CopyOwn
import Derived.Laws.CopyRow
import Derived.StillTailTactics
import Derived.Deep.RegionLaw
import Derived.Test.YtfolbfacnlhlmaaW1
namespace Go.Proofs.Ytfolbfacnlhlmaa
open Go.RowKit
set_option linter.unusedVariables false
set_option linter.unusedSimpArgs false

set_option maxHeartbeats 1000000 in
theorem word_no (g b n : Nat) (f : Nat → Int) (t i : Int) (w : World) (h : Mem w g b n f) (hr : ¬ (0 ≤ t ∧ t < (n : Int) / 64 ∧ 0 ≤ i ∧ i < 8)) : Calls Try.prog 9 #[.pointer (some ⟨g, 0, none⟩), .int .i64 t, .int .i64 i] w fun e w' => e = .returned (.tuple #[.agg #[.int .i64 0, .bool false, .bool false, .bool false, .bool false, .bool false, .bool false], .int .i64 3]) ∧ Below w.heap.size w w' := by
  have hn : n ≤ 65536 := h.2.2.2.2.1
  have hA := (Below.refl w.heap.size w).alloc (Nat.le_refl _) (Obj.cells #[.int .i64 0, .bool false, .bool false, .bool false, .bool false, .bool false, .bool false] 24 (0, 0))
  have HA := Lib.hid (h.below hA)
  clear hA h
  by_cases k0 : t < 0
  · have d0 : decide (t < 0) = true := decide_eq_true (by omega)
    clear hr
    go_enter Try.func9, Try.ntmps9
    go_wp2_with (go_at_call 21; refine (frames_any g b n f _ HA.out).mono ?_; rintro e w1 ⟨rfl, rfl⟩)
    refine bodyPost_ret (v := .tuple #[.agg #[.int .i64 0, .bool false, .bool false, .bool false, .bool false, .bool false, .bool false], .int .i64 3]) (by simp [results, Try.results9, go_sem]) rfl ⟨rfl, by ((repeat (with_reducible refine Below.setCell ?_ (by simp) _)); exact (Below.refl _ _).alloc (Nat.le_refl _) _)⟩
  have d0 : decide (t < 0) = false := decide_eq_false (by omega)
  by_cases k1 : (n : Int) / 64 ≤ t
  · have d1 : decide ((n : Int) / 64 ≤ t) = true := decide_eq_true (by omega)
    clear hr
    go_enter Try.func9, Try.ntmps9
    go_wp2_with (go_at_call 21; refine (frames_any g b n f _ HA.out).mono ?_; rintro e w1 ⟨rfl, rfl⟩)
    refine bodyPost_ret (v := .tuple #[.agg #[.int .i64 0, .bool false, .bool false, .bool false, .bool false, .bool false, .bool false], .int .i64 3]) (by simp [results, Try.results9, go_sem]) rfl ⟨rfl, by ((repeat (with_reducible refine Below.setCell ?_ (by simp) _)); exact (Below.refl _ _).alloc (Nat.le_refl _) _)⟩
  have d1 : decide ((n : Int) / 64 ≤ t) = false := decide_eq_false (by omega)
  by_cases k2 : i < 0
  · have d2 : decide (i < 0) = true := decide_eq_true (by omega)
    clear hr
    go_enter Try.func9, Try.ntmps9
    go_wp2_with (go_at_call 21; refine (frames_any g b n f _ HA.out).mono ?_; rintro e w1 ⟨rfl, rfl⟩)
    refine bodyPost_ret (v := .tuple #[.agg #[.int .i64 0, .bool false, .bool false, .bool false, .bool false, .bool false, .bool false], .int .i64 3]) (by simp [results, Try.results9, go_sem]) rfl ⟨rfl, by ((repeat (with_reducible refine Below.setCell ?_ (by simp) _)); exact (Below.refl _ _).alloc (Nat.le_refl _) _)⟩
  have d2 : decide (i < 0) = false := decide_eq_false (by omega)
  by_cases k3 : 8 ≤ i
  · have d3 : decide (8 ≤ i) = true := decide_eq_true (by omega)
    clear hr
    go_enter Try.func9, Try.ntmps9
    go_wp2_with (go_at_call 21; refine (frames_any g b n f _ HA.out).mono ?_; rintro e w1 ⟨rfl, rfl⟩)
    refine bodyPost_ret (v := .tuple #[.agg #[.int .i64 0, .bool false, .bool false, .bool false, .bool false, .bool false, .bool false], .int .i64 3]) (by simp [results, Try.results9, go_sem]) rfl ⟨rfl, by ((repeat (with_reducible refine Below.setCell ?_ (by simp) _)); exact (Below.refl _ _).alloc (Nat.le_refl _) _)⟩
  have d3 : decide (8 ≤ i) = false := decide_eq_false (by omega)
  exact (hr ⟨by omega, by omega, by omega, by omega⟩).elim

theorem word_nil (t i : Int) (w : World) : Calls Try.prog 9 #[.pointer none, .int .i64 t, .int .i64 i] w fun e w' => e = .returned (.tuple #[.agg #[.int .i64 0, .bool false, .bool false, .bool false, .bool false, .bool false, .bool false], .int .i64 1]) ∧ Below w.heap.size w w' := by
  go_enter Try.func9, Try.ntmps9
  go_wp2_with fail
  refine bodyPost_ret (v := .tuple #[.agg #[.int .i64 0, .bool false, .bool false, .bool false, .bool false, .bool false, .bool false], .int .i64 1]) (by simp [results, Try.results9, go_sem]) rfl ⟨rfl, by ((repeat (with_reducible refine Below.setCell ?_ (by simp) _)); exact (Below.refl _ _).alloc (Nat.le_refl _) _)⟩
set_option maxHeartbeats 1000000 in
theorem rword_no (g b N n : Nat) (v : Nat → Int) (t i : Int) (w : World) (h : RMem w g b N v) (hN : n = N * 8) (hr : ¬ (0 ≤ t ∧ t < (n : Int) / 64 ∧ 0 ≤ i ∧ i < 8)) : Calls Try.prog 10 #[.pointer (some ⟨g, 0, none⟩), .int .i64 t, .int .i64 i] w fun e w' => e = .returned (.tuple #[.agg #[.int .i64 0, .bool false, .bool false, .bool false, .bool false, .bool false, .bool false], .int .i64 3]) ∧ Below w.heap.size w w' := by
  have hn : N ≤ 8192 := h.2.2.2.2.1
  have hq : ((N / 8 : Nat) : Int) = (n : Int) / 64 := by omega
  have HQ := Lib.hid hq
  have hA := (Below.refl w.heap.size w).alloc (Nat.le_refl _) (Obj.cells #[.int .i64 0, .bool false, .bool false, .bool false, .bool false, .bool false, .bool false] 24 (0, 0))
  have HA := Lib.hid (h.below hA)
  clear hA h hq hN
  by_cases k0 : t < 0
  · have d0 : decide (t < 0) = true := decide_eq_true (by omega)
    clear hr
    go_enter Try.func10, Try.ntmps10
    go_wp2_with (go_at_call 24; refine (rframes_any g b N v _ HA.out).mono ?_; rintro e w1 ⟨rfl, rfl⟩; rw [HQ.out])
    refine bodyPost_ret (v := .tuple #[.agg #[.int .i64 0, .bool false, .bool false, .bool false, .bool false, .bool false, .bool false], .int .i64 3]) (by simp [results, Try.results10, go_sem]) rfl ⟨rfl, by ((repeat (with_reducible refine Below.setCell ?_ (by simp) _)); exact (Below.refl _ _).alloc (Nat.le_refl _) _)⟩
  have d0 : decide (t < 0) = false := decide_eq_false (by omega)
  by_cases k1 : (n : Int) / 64 ≤ t
  · have d1 : decide ((n : Int) / 64 ≤ t) = true := decide_eq_true (by omega)
    clear hr
    go_enter Try.func10, Try.ntmps10
    go_wp2_with (go_at_call 24; refine (rframes_any g b N v _ HA.out).mono ?_; rintro e w1 ⟨rfl, rfl⟩; rw [HQ.out])
    refine bodyPost_ret (v := .tuple #[.agg #[.int .i64 0, .bool false, .bool false, .bool false, .bool false, .bool false, .bool false], .int .i64 3]) (by simp [results, Try.results10, go_sem]) rfl ⟨rfl, by ((repeat (with_reducible refine Below.setCell ?_ (by simp) _)); exact (Below.refl _ _).alloc (Nat.le_refl _) _)⟩
  have d1 : decide ((n : Int) / 64 ≤ t) = false := decide_eq_false (by omega)
  by_cases k2 : i < 0
  · have d2 : decide (i < 0) = true := decide_eq_true (by omega)
    clear hr
    go_enter Try.func10, Try.ntmps10
    go_wp2_with (go_at_call 24; refine (rframes_any g b N v _ HA.out).mono ?_; rintro e w1 ⟨rfl, rfl⟩; rw [HQ.out])
    refine bodyPost_ret (v := .tuple #[.agg #[.int .i64 0, .bool false, .bool false, .bool false, .bool false, .bool false, .bool false], .int .i64 3]) (by simp [results, Try.results10, go_sem]) rfl ⟨rfl, by ((repeat (with_reducible refine Below.setCell ?_ (by simp) _)); exact (Below.refl _ _).alloc (Nat.le_refl _) _)⟩
  have d2 : decide (i < 0) = false := decide_eq_false (by omega)
  by_cases k3 : 8 ≤ i
  · have d3 : decide (7 < i) = true := decide_eq_true (by omega)
    clear hr
    go_enter Try.func10, Try.ntmps10
    go_wp2_with (go_at_call 24; refine (rframes_any g b N v _ HA.out).mono ?_; rintro e w1 ⟨rfl, rfl⟩; rw [HQ.out])
    refine bodyPost_ret (v := .tuple #[.agg #[.int .i64 0, .bool false, .bool false, .bool false, .bool false, .bool false, .bool false], .int .i64 3]) (by simp [results, Try.results10, go_sem]) rfl ⟨rfl, by ((repeat (with_reducible refine Below.setCell ?_ (by simp) _)); exact (Below.refl _ _).alloc (Nat.le_refl _) _)⟩
  have d3 : decide (7 < i) = false := decide_eq_false (by omega)
  exact (hr ⟨by omega, by omega, by omega, by omega⟩).elim

set_option maxHeartbeats 1000000 in
theorem put_no (g b n : Nat) (f : Nat → Int) (t i : Int) (fr : Int) (p wr hu he us di : Bool) (w : World) (h : Mem w g b n f) (hr : ¬ (0 ≤ t ∧ t < (n : Int) / 64 ∧ 0 ≤ i ∧ i < 8)) : Calls Try.prog 13 #[.pointer (some ⟨g, 0, none⟩), .int .i64 t, .int .i64 i, .agg #[.int .i64 fr, .bool p, .bool wr, .bool hu, .bool he, .bool us, .bool di]] w fun e w' => e = .returned (.int .i64 3) ∧ Below w.heap.size w w' := by
  have hn : n ≤ 65536 := h.2.2.2.2.1
  have hA := (Below.refl w.heap.size w).alloc (Nat.le_refl _) (Obj.cells #[.int .i64 fr, .bool p, .bool wr, .bool hu, .bool he, .bool us, .bool di] 24 (0, 0))
  have HA := Lib.hid (h.below hA)
  have HB := Lib.hid hA
  clear hA h
  by_cases k0 : t < 0
  · have d0 : decide (t < 0) = true := decide_eq_true (by omega)
    clear hr
    go_enter Try.func13, Try.ntmps13
    go_wp2_with (go_at_call 21; refine (frames_any g b n f _ HA.out).mono ?_; rintro e w1 ⟨rfl, rfl⟩)
    go_ret
    exact ⟨rfl, HB.out⟩
  have d0 : decide (t < 0) = false := decide_eq_false (by omega)
  by_cases k1 : (n : Int) / 64 ≤ t
  · have d1 : decide ((n : Int) / 64 ≤ t) = true := decide_eq_true (by omega)
    clear hr
    go_enter Try.func13, Try.ntmps13
    go_wp2_with (go_at_call 21; refine (frames_any g b n f _ HA.out).mono ?_; rintro e w1 ⟨rfl, rfl⟩)
    go_ret
    exact ⟨rfl, HB.out⟩
  have d1 : decide ((n : Int) / 64 ≤ t) = false := decide_eq_false (by omega)
  by_cases k2 : i < 0
  · have d2 : decide (i < 0) = true := decide_eq_true (by omega)
    clear hr
    go_enter Try.func13, Try.ntmps13
    go_wp2_with (go_at_call 21; refine (frames_any g b n f _ HA.out).mono ?_; rintro e w1 ⟨rfl, rfl⟩)
    go_ret
    exact ⟨rfl, HB.out⟩
  have d2 : decide (i < 0) = false := decide_eq_false (by omega)
  by_cases k3 : 8 ≤ i
  · have d3 : decide (8 ≤ i) = true := decide_eq_true (by omega)
    clear hr
    go_enter Try.func13, Try.ntmps13
    go_wp2_with (go_at_call 21; refine (frames_any g b n f _ HA.out).mono ?_; rintro e w1 ⟨rfl, rfl⟩)
    go_ret
    exact ⟨rfl, HB.out⟩
  have d3 : decide (8 ≤ i) = false := decide_eq_false (by omega)
  exact (hr ⟨by omega, by omega, by omega, by omega⟩).elim

theorem put_nil (t i : Int) (fr : Int) (p wr hu he us di : Bool) (w : World) : Calls Try.prog 13 #[.pointer none, .int .i64 t, .int .i64 i, .agg #[.int .i64 fr, .bool p, .bool wr, .bool hu, .bool he, .bool us, .bool di]] w fun e w' => e = .returned (.int .i64 1) ∧ Below w.heap.size w w' := by
  go_enter Try.func13, Try.ntmps13
  go_wp2_with fail
  go_ret
  exact ⟨rfl, (Below.refl _ _).alloc (Nat.le_refl _) _⟩
set_option maxHeartbeats 1000000 in
theorem rput_no (g b N n : Nat) (v : Nat → Int) (t i : Int) (fr : Int) (p wr hu he us di : Bool) (w : World) (h : RMem w g b N v) (hN : n = N * 8) (hr : ¬ (0 ≤ t ∧ t < (n : Int) / 64 ∧ 0 ≤ i ∧ i < 8)) : Calls Try.prog 19 #[.pointer (some ⟨g, 0, none⟩), .int .i64 t, .int .i64 i, .agg #[.int .i64 fr, .bool p, .bool wr, .bool hu, .bool he, .bool us, .bool di]] w fun e w' => e = .returned (.int .i64 3) ∧ Below w.heap.size w w' := by
  have hn : N ≤ 8192 := h.2.2.2.2.1
  have hq : ((N / 8 : Nat) : Int) = (n : Int) / 64 := by omega
  have HQ := Lib.hid hq
  have hA := (Below.refl w.heap.size w).alloc (Nat.le_refl _) (Obj.cells #[.int .i64 fr, .bool p, .bool wr, .bool hu, .bool he, .bool us, .bool di] 24 (0, 0))
  have HA := Lib.hid (h.below hA)
  have HB := Lib.hid hA
  clear hA h hq hN
  by_cases k0 : t < 0
  · have d0 : decide (t < 0) = true := decide_eq_true (by omega)
    clear hr
    go_enter Try.func19, Try.ntmps19
    go_wp2_with (go_at_call 24; refine (rframes_any g b N v _ HA.out).mono ?_; rintro e w1 ⟨rfl, rfl⟩; rw [HQ.out])
    go_ret
    exact ⟨rfl, HB.out⟩
  have d0 : decide (t < 0) = false := decide_eq_false (by omega)
  by_cases k1 : (n : Int) / 64 ≤ t
  · have d1 : decide ((n : Int) / 64 ≤ t) = true := decide_eq_true (by omega)
    clear hr
    go_enter Try.func19, Try.ntmps19
    go_wp2_with (go_at_call 24; refine (rframes_any g b N v _ HA.out).mono ?_; rintro e w1 ⟨rfl, rfl⟩; rw [HQ.out])
    go_ret
    exact ⟨rfl, HB.out⟩
  have d1 : decide ((n : Int) / 64 ≤ t) = false := decide_eq_false (by omega)
  by_cases k2 : i < 0
  · have d2 : decide (i < 0) = true := decide_eq_true (by omega)
    clear hr
    go_enter Try.func19, Try.ntmps19
    go_wp2_with (go_at_call 24; refine (rframes_any g b N v _ HA.out).mono ?_; rintro e w1 ⟨rfl, rfl⟩; rw [HQ.out])
    go_ret
    exact ⟨rfl, HB.out⟩
  have d2 : decide (i < 0) = false := decide_eq_false (by omega)
  by_cases k3 : 8 ≤ i
  · have d3 : decide (7 < i) = true := decide_eq_true (by omega)
    clear hr
    go_enter Try.func19, Try.ntmps19
    go_wp2_with (go_at_call 24; refine (rframes_any g b N v _ HA.out).mono ?_; rintro e w1 ⟨rfl, rfl⟩; rw [HQ.out])
    go_ret
    exact ⟨rfl, HB.out⟩
  have d3 : decide (7 < i) = false := decide_eq_false (by omega)
  exact (hr ⟨by omega, by omega, by omega, by omega⟩).elim

end Go.Proofs.Ytfolbfacnlhlmaa

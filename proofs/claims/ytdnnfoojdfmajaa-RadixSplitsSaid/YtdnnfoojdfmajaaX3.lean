/- Parts of the proofs of layer 19 (radix): contracts of its functions, and the laws' walks. -/
import Derived.Test.YtdnnfoojdfmajaaProg
import Derived.WalkKit
import Derived.WalkSpells
import Derived.WalkLawsBesides
import Derived.BigQuiet
import Derived.Deep.QuietTactic
import Derived.Lib.Hide
import Derived.Deep.RegionHeld3
import Derived.Deep.DeepCutAuto
import Derived.KernelRfl
import Derived.Deep.OwnRows
import Derived.Laws.CopyOwn
import Derived.Laws.CopyRow
import Derived.StillTailTactics
import Derived.Deep.RegionLaw
import Derived.Handy
import Derived.Deep.CutRange
import Derived.Deep.CutBlock
import Derived.Test.YtdnnfoojdfmajaaX2
namespace Go.Proofs.Ytdnnfoojdfmajaa
open Go.RowKit
set_option linter.unusedVariables false
set_option linter.unusedSimpArgs false
theorem is_any (x : Int) (w : World) : Calls Try.prog 43 #[.int .i64 x] w fun e w' => e = .returned (.bool (decide (0 ≤ x ∧ x < 4096))) ∧ w = w' := by
  by_cases h0 : 0 ≤ x
  · by_cases h1 : x < 4096
    · rw [decide_eq_true ⟨h0, h1⟩]
      go_enter Try.func43, Try.ntmps43
      go_wp2
      go_ret
      exact ⟨rfl, rfl⟩
    · rw [decide_eq_false fun h => h1 h.2]
      go_enter Try.func43, Try.ntmps43
      go_wp2
      go_ret
      exact ⟨rfl, rfl⟩
  · rw [decide_eq_false fun h => h0 h.1]
    go_enter Try.func43, Try.ntmps43
    go_wp2
    go_ret
    exact ⟨rfl, rfl⟩
theorem page_any (x : Int) (w : World) : Calls Try.prog 48 #[.int .i64 x] w fun e w' => e = .returned (.bool (decide (0 ≤ x ∧ x < 4096))) ∧ w = w' := by
  by_cases h0 : 0 ≤ x
  · by_cases h1 : x < 4096
    · rw [decide_eq_true ⟨h0, h1⟩]
      go_enter Try.func48, Try.ntmps48
      go_wp2
      go_ret
      exact ⟨rfl, rfl⟩
    · rw [decide_eq_false fun h => h1 h.2]
      go_enter Try.func48, Try.ntmps48
      go_wp2
      go_ret
      exact ⟨rfl, rfl⟩
  · rw [decide_eq_false fun h => h0 h.1]
    go_enter Try.func48, Try.ntmps48
    go_wp2
    go_ret
    exact ⟨rfl, rfl⟩
theorem marked_any (x : Int) (w : World) : Calls Try.prog 41 #[.int .i64 x] w fun e w' => e = .returned (.bool (decide (0 ≤ x ∧ x < 3))) ∧ w = w' := by
  by_cases h0 : 0 ≤ x
  · by_cases h1 : x < 3
    · rw [decide_eq_true ⟨h0, h1⟩]
      go_enter Try.func41, Try.ntmps41
      go_wp2
      go_ret
      exact ⟨rfl, rfl⟩
    · rw [decide_eq_false fun h => h1 h.2]
      go_enter Try.func41, Try.ntmps41
      go_wp2
      go_ret
      exact ⟨rfl, rfl⟩
  · rw [decide_eq_false fun h => h0 h.1]
    go_enter Try.func41, Try.ntmps41
    go_wp2
    go_ret
    exact ⟨rfl, rfl⟩
theorem small_any (x : Int) (w : World) : Calls Try.prog 38 #[.int .i64 x] w fun e w' => e = .returned (.bool (decide (-1152921504606846976 ≤ x ∧ x ≤ 1152921504606846976))) ∧ w = w' := by
  by_cases h0 : -1152921504606846976 ≤ x
  · by_cases h1 : x ≤ 1152921504606846976
    · rw [decide_eq_true ⟨h0, h1⟩]
      go_enter Try.func38, Try.ntmps38
      go_wp2
      go_ret
      exact ⟨rfl, rfl⟩
    · rw [decide_eq_false fun h => h1 h.2]
      go_enter Try.func38, Try.ntmps38
      go_wp2
      go_ret
      exact ⟨rfl, rfl⟩
  · rw [decide_eq_false fun h => h0 h.1]
    go_enter Try.func38, Try.ntmps38
    go_wp2
    go_ret
    exact ⟨rfl, rfl⟩
theorem within_any (x : Int) (w : World) : Calls Try.prog 50 #[.int .i64 x] w fun e w' => e = .returned (.bool (decide (-1152921504606846976 ≤ x ∧ x ≤ 1152921504606846976))) ∧ w = w' := by
  by_cases h0 : -1152921504606846976 ≤ x
  · by_cases h1 : x ≤ 1152921504606846976
    · rw [decide_eq_true ⟨h0, h1⟩]
      go_enter Try.func50, Try.ntmps50
      go_wp2
      go_ret
      exact ⟨rfl, rfl⟩
    · rw [decide_eq_false fun h => h1 h.2]
      go_enter Try.func50, Try.ntmps50
      go_wp2
      go_ret
      exact ⟨rfl, rfl⟩
  · rw [decide_eq_false fun h => h0 h.1]
    go_enter Try.func50, Try.ntmps50
    go_wp2
    go_ret
    exact ⟨rfl, rfl⟩

theorem right_any (x : Int) (w : World) : Calls Try.prog 42 #[.int .i64 x] w fun e w' => e = .returned (.bool (decide (x = 0 ∨ x = 3 ∨ x = 6))) ∧ w = w' := by
  by_cases h0 : x = 0
  · subst h0
    go_enter Try.func42, Try.ntmps42
    go_wp2
    go_ret
    exact ⟨rfl, rfl⟩
  · by_cases h1 : x = 3
    · subst h1
      go_enter Try.func42, Try.ntmps42
      go_wp2
      go_ret
      exact ⟨rfl, rfl⟩
    · by_cases h2 : x = 6
      · subst h2
        go_enter Try.func42, Try.ntmps42
        go_wp2
        go_ret
        exact ⟨rfl, rfl⟩
      · rw [decide_eq_false (by omega)]
        go_enter Try.func42, Try.ntmps42
        go_wp2
        go_ret
        exact ⟨by simp [h0, h1, h2], rfl⟩
theorem level_any (k : Nat) (hk : k ≤ 3) (w : World) : Calls Try.prog 45 #[.int .i64 ((3 * k : Nat) : Int)] w fun e w' => e = .returned (.int .i64 (k : Nat)) ∧ w = w' := by
  have hk4 : k = 0 ∨ k = 1 ∨ k = 2 ∨ k = 3 := by omega
  rcases hk4 with rfl | rfl | rfl | rfl
  all_goals (
    go_enter Try.func45, Try.ntmps45
    go_wp2
    go_ret
    exact ⟨rfl, rfl⟩)
def siz (o : Int) : Int := if o = 3 then 8 else if o = 6 then 64 else 1
theorem siz_pow {k : Nat} (hk : k ≤ 2) : siz ((3 * k : Nat) : Int) = ((8 ^ k : Nat) : Int) := by
  have hk4 : k = 0 ∨ k = 1 ∨ k = 2 := by omega
  rcases hk4 with rfl | rfl | rfl <;> rfl
theorem size_any (o : Int) (w : World) : Calls Try.prog 14 #[.int .i64 o] w fun e w' => e = .returned (.int .i64 (siz o)) ∧ w = w' := by
  by_cases h0 : o = 3
  · subst h0
    go_enter Try.func14, Try.ntmps14
    go_wp2
    go_ret
    exact ⟨rfl, rfl⟩
  · by_cases h1 : o = 6
    · subst h1
      go_enter Try.func14, Try.ntmps14
      go_wp2
      go_ret
      exact ⟨rfl, rfl⟩
    · have HS := Lib.hid (show siz o = 1 from by unfold siz; rw [if_neg h0, if_neg h1])
      go_enter Try.func14, Try.ntmps14
      go_wp2
      go_ret
      rw [HS.out]
      exact ⟨rfl, rfl⟩
theorem New_any (w : World) : Calls Try.prog 29 #[] w fun e w' => e = .returned (.pointer (some ⟨w.heap.size, 0, none⟩)) ∧ w' = w.alloc (treeO none 0 0) := by
  go_enter Try.func29, Try.ntmps29
  go_wp2
  go_ret
  exact ⟨rfl, rfl⟩
theorem Len_any (t : Nat) (σ : St) (many nodes : Int) (F : List Nat) (w : World) (h : Hp w t σ many nodes F) : Calls Try.prog 19 #[.pointer (some ⟨t, 0, none⟩)] w fun e w' => e = .returned (.int .i64 many) ∧ w = w' := by
  obtain ⟨c0, c1, c2, cf⟩ := h.tcells
  clear h
  go_enter Try.func19, Try.ntmps19
  go_wp2
  go_ret
  exact ⟨rfl, rfl⟩
theorem Nodes_any (t : Nat) (σ : St) (many nodes : Int) (F : List Nat) (w : World) (h : Hp w t σ many nodes F) : Calls Try.prog 17 #[.pointer (some ⟨t, 0, none⟩)] w fun e w' => e = .returned (.int .i64 nodes) ∧ w = w' := by
  obtain ⟨c0, c1, c2, cf⟩ := h.tcells
  clear h
  go_enter Try.func17, Try.ntmps17
  go_wp2
  go_ret
  exact ⟨rfl, rfl⟩
theorem Len_nil (w : World) : Calls Try.prog 19 #[.pointer none] w fun e w' => e = .returned (.int .i64 0) ∧ w = w' := by
  go_enter Try.func19, Try.ntmps19
  go_wp2
  go_ret
  exact ⟨rfl, rfl⟩
theorem Nodes_nil (w : World) : Calls Try.prog 17 #[.pointer none] w fun e w' => e = .returned (.int .i64 0) ∧ w = w' := by
  go_enter Try.func17, Try.ntmps17
  go_wp2
  go_ret
  exact ⟨rfl, rfl⟩

end Go.Proofs.Ytdnnfoojdfmajaa

/- Parts of the proofs of layer 7 (walk): contracts of its functions, and the laws' walks. -/
import Derived.Test.YtfolbfacnlhlmaaProg
import Derived.WalkKit
import Derived.WalkSpells
import Derived.WalkLawsBesides
import Derived.BigQuiet
import Derived.Deep.QuietTactic
import Derived.Lib.Hide
import Derived.Deep.RegionHeld3
import Derived.Deep.DeepCutAuto
import Derived.KernelRfl
import Derived.Deep.OwnRows
import Derived.Laws.CopyOwn
import Derived.Laws.CopyRow
import Derived.StillTailTactics
import Derived.Deep.RegionLaw
import Derived.Test.YtfolbfacnlhlmaaE1
namespace Go.Proofs.Ytfolbfacnlhlmaa
open Go.RowKit
set_option linter.unusedVariables false
set_option linter.unusedSimpArgs false
namespace E

theorem may_chk (fr : Int) (p wr hu he us di : Bool) (h0 : 0 ≤ fr) (h1 : fr < 1048576) : chk fr p wr hu he us di = if may fr p wr hu he us di = true then 0 else 2 := by
  have e0 : ¬ fr < 0 := by omega
  have e1 : ¬ 1048576 ≤ fr := by omega
  unfold chk may
  rw [if_neg e0, if_neg e1]
  cases p <;> cases he <;> cases hu <;> cases wr <;> cases us <;> cases di <;> simp
set_option maxHeartbeats 1000000 in
theorem rcheck_any (fr : Int) (p wr hu he us di : Bool) (w : World) :
    Calls Try.prog 38 #[.agg #[.int .i64 fr, .bool p, .bool wr, .bool hu, .bool he, .bool us, .bool di]] w fun e w' => e = .returned (.int .i64 (chk fr p wr hu he us di)) ∧ Below w.heap.size w w' := by
  by_cases hr : 0 ≤ fr ∧ fr < 1048576
  · obtain ⟨h0, h1⟩ := hr
    have hm := may_chk fr p wr hu he us di h0 h1
    rw [hm]
    clear hm
    go_enter Try.func38, Try.ntmps38
    cases hmay : may fr p wr hu he us di
    all_goals
      go_wp2_with (go_at_call 41; refine (may_any _ _ _ _ _ _ _ _).mono ?_; rintro e w1 ⟨rfl, hb⟩)
      all_goals
        go_ret
        exact ⟨by simp, ((Below.refl _ _).alloc (Nat.le_refl _) _).trans (hb.mono (by simp))⟩
  · have hc : chk fr p wr hu he us di = 3 := by
      unfold chk
      by_cases h : fr < 0
      · rw [if_pos h]
      · rw [if_neg h, if_pos (by omega)]
    rw [hc]
    clear hc
    go_enter Try.func38, Try.ntmps38
    go_wp2
    all_goals
      go_ret
      exact ⟨rfl, (Below.refl _ _).alloc (Nat.le_refl _) _⟩
theorem bit_any (b : Bool) (x : Int) (w : World) : Calls Try.prog 39 #[.bool b, .int .u64 x] w fun e w' => e = .returned (.int .u64 (b2 b x)) ∧ w = w' := by
  go_enter Try.func39, Try.ntmps39
  go_wp2
  all_goals
    go_ret
    exact ⟨by simp [b2, *], rfl⟩
/-- The closure that puts a bit. -/
def One (B : Nat) (w w' : World) : Prop := w'.os = w.os ∧ w'.tape = w.tape ∧ w'.output = w.output ∧ w'.heap.size = w.heap.size ∧ ∀ b, b ≠ B → w'.heap[b]? = w.heap[b]?
theorem put_any (iz : Bool) (at_ x : Int) (B : Nat) (w : World) (h0 : 0 ≤ at_) (h1 : at_ < 64)
    (hb : w.heap[B]? = some (.cells #[.int .u64 x] 25 (0, 0))) :
    Calls Try.prog 37 #[.bool iz, .int .i64 at_, .pointer (some ⟨B, 0, none⟩)] w fun e w' => e = .returned (.tuple #[]) ∧
      w'.heap[B]? = some (.cells #[.int .u64 (orw iz x (IntKind.u64.wrap (2 ^ at_.toNat)))] 25 (0, 0)) ∧ One B w w' := by
  have hc := cell_of_one hb
  have hf := free_of_one hb
  have HB := Lib.hid hb
  clear hb
  go_enter Try.func37, Try.ntmps37
  go_wp2
  · go_region
    all_goals go_wp2
    all_goals
      go_end0
      have hiz : iz = true := by assumption
      subst hiz
      exact ⟨rfl, one_setCell HB.out, rfl, rfl, rfl, by simp, fun b hb => Below.heap_setCell _ _ _ _ hb⟩
  all_goals
    go_end0
    have hiz : iz = false := by assumption
    subst hiz
    exact ⟨rfl, HB.out, rfl, rfl, rfl, rfl, fun _ _ => rfl⟩

end E
end Go.Proofs.Ytfolbfacnlhlmaa

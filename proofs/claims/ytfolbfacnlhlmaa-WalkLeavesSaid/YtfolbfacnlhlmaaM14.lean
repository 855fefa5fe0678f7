/- Parts of the proofs of layer 7 (walk): contracts of its functions, and the laws' walks. -/
import Derived.Test.YtfolbfacnlhlmaaProg
import Derived.WalkKit
import Derived.WalkSpells
import Derived.WalkLawsBesides
import Derived.BigQuiet
import Derived.Deep.QuietTactic
import Derived.Lib.Hide
import Derived.Deep.RegionHeld3
import Derived.Deep.DeepCutAuto
import Derived.KernelRfl
import Derived.Deep.OwnRows
import Derived.Laws.CopyOwn
import Derived.Laws.CopyRow
import Derived.StillTailTactics
import Derived.Deep.RegionLaw
import Derived.Test.YtfolbfacnlhlmaaM12
namespace Go.Proofs.Ytfolbfacnlhlmaa
open Go.RowKit
set_option linter.unusedVariables false
set_option linter.unusedSimpArgs false

theorem byt_wd (f : Nat → Int) (hf : ∀ i, 0 ≤ f i ∧ f i ≤ 255) (k j : Nat) (hj : j < 8) : byt (wd f k) j = f (k + j) := by
  have b0 := hf k
  have b1 := hf (k + 1)
  have b2 := hf (k + 2)
  have b3 := hf (k + 3)
  have b4 := hf (k + 4)
  have b5 := hf (k + 5)
  have b6 := hf (k + 6)
  have b7 := hf (k + 7)
  have hjj : j = 0 ∨ j = 1 ∨ j = 2 ∨ j = 3 ∨ j = 4 ∨ j = 5 ∨ j = 6 ∨ j = 7 := by omega
  unfold byt wd
  rcases hjj with rfl | rfl | rfl | rfl | rfl | rfl | rfl | rfl <;> simp only [Nat.reduceMul, Nat.mul_zero, Nat.add_zero, Int.reducePow] <;> omega
theorem wd_range (f : Nat → Int) (hf : ∀ i, 0 ≤ f i ∧ f i ≤ 255) (k : Nat) : 0 ≤ wd f k ∧ wd f k < 18446744073709551616 := by
  have b0 := hf k
  have b1 := hf (k + 1)
  have b2 := hf (k + 2)
  have b3 := hf (k + 3)
  have b4 := hf (k + 4)
  have b5 := hf (k + 5)
  have b6 := hf (k + 6)
  have b7 := hf (k + 7)
  unfold wd
  omega
def lv (n : Nat) (f : Nat → Int) (a : Int) : Int := if wrg n a 8 = 0 then wd f a.toNat else 0
theorem load_step (g b n : Nat) (f : Nat → Int) (a : Int) (w : World) (h : Mem w g b n f) : Calls Try.prog 22 #[.pointer (some ⟨g, 0, none⟩), .int .i64 a] w fun e w' => e = .returned (.tuple #[.int .u64 (lv n f a), .int .i64 (wrg n a 8)]) ∧ w = w' := by
  unfold lv
  by_cases h0 : wrg n a 8 = 0
  · obtain ⟨h1, h2, h3⟩ := wrg_no h0
    obtain ⟨k, rfl⟩ := Int.eq_ofNat_of_zero_le h1
    rw [h0, if_pos rfl]
    exact load_any g b n f k w h (by omega) (by omega)
  · rw [if_neg h0]
    exact load_no g b n f a w h h0
theorem rload_step (g b N n : Nat) (f : Nat → Int) (a : Int) (w : World) (h : RMem w g b N (wv f)) (hn : n = N * 8) : Calls Try.prog 29 #[.pointer (some ⟨g, 0, none⟩), .int .i64 a] w fun e w' => e = .returned (.tuple #[.int .u64 (lv n f a), .int .i64 (wrg n a 8)]) ∧ w = w' := by
  subst hn
  unfold lv
  by_cases h0 : wrg (N * 8) a 8 = 0
  · obtain ⟨h1, h2, h3⟩ := wrg_no h0
    obtain ⟨k, hk⟩ : ∃ k : Nat, a = ((8 * k : Nat) : Int) := ⟨(a / 8).toNat, by omega⟩
    subst hk
    rw [h0, if_pos rfl]
    exact rload_any g b N (wv f) k w h (by omega)
  · rw [if_neg h0]
    exact rload_no g b N (wv f) a w h h0
end Go.Proofs.Ytfolbfacnlhlmaa

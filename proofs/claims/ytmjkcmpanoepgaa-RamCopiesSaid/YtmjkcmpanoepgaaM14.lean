/- Parts of the proofs of layer 2 (ram): contracts of its functions, and the laws' walks. -/
import Derived.Test.YtmjkcmpanoepgaaProg
import Derived.WalkKit
import Derived.WalkSpells
import Derived.WalkLawsBesides
import Derived.BigQuiet
import Derived.Deep.QuietTactic
import Derived.Lib.Hide
import Derived.Deep.RegionHeld3
import Derived.Deep.DeepCutAuto
import Derived.KernelRfl
import Derived.Deep.OwnRows
import Derived.Laws.CopyOwn
import Derived.Laws.CopyRow
import Derived.StillTailTactics
import Derived.Test.YtmjkcmpanoepgaaM13
namespace Go.Proofs.Ytmjkcmpanoepgaa
open Go.RowKit
set_option linter.unusedVariables false
set_option linter.unusedSimpArgs false

theorem byt_wd (f : Nat → Int) (hf : ∀ i, 0 ≤ f i ∧ f i ≤ 255) (k j : Nat) (hj : j < 8) : byt (wd f k) j = f (k + j) := by
  have b0 := hf k
  have b1 := hf (k + 1)
  have b2 := hf (k + 2)
  have b3 := hf (k + 3)
  have b4 := hf (k + 4)
  have b5 := hf (k + 5)
  have b6 := hf (k + 6)
  have b7 := hf (k + 7)
  have hjj : j = 0 ∨ j = 1 ∨ j = 2 ∨ j = 3 ∨ j = 4 ∨ j = 5 ∨ j = 6 ∨ j = 7 := by omega
  unfold byt wd
  rcases hjj with rfl | rfl | rfl | rfl | rfl | rfl | rfl | rfl <;> simp only [Nat.reduceMul, Nat.mul_zero, Nat.add_zero, Int.reducePow] <;> omega
theorem wd_range (f : Nat → Int) (hf : ∀ i, 0 ≤ f i ∧ f i ≤ 255) (k : Nat) : 0 ≤ wd f k ∧ wd f k < 18446744073709551616 := by
  have b0 := hf k
  have b1 := hf (k + 1)
  have b2 := hf (k + 2)
  have b3 := hf (k + 3)
  have b4 := hf (k + 4)
  have b5 := hf (k + 5)
  have b6 := hf (k + 6)
  have b7 := hf (k + 7)
  unfold wd
  omega
def lv (n : Nat) (f : Nat → Int) (a : Int) : Int := if wrg n a 8 = 0 then wd f a.toNat else 0
def bv (n : Nat) (f : Nat → Int) (a : Int) : Int := if wrg n a 1 = 0 then f a.toNat else 0
theorem load_step (g b n : Nat) (f : Nat → Int) (a : Int) (w : World) (h : Mem w g b n f) : Calls Try.prog 13 #[.pointer (some ⟨g, 0, none⟩), .int .i64 a] w fun e w' => e = .returned (.tuple #[.int .u64 (lv n f a), .int .i64 (wrg n a 8)]) ∧ w = w' := by
  unfold lv
  by_cases h0 : wrg n a 8 = 0
  · obtain ⟨h1, h2, h3⟩ := wrg_no h0
    obtain ⟨k, rfl⟩ := Int.eq_ofNat_of_zero_le h1
    rw [h0, if_pos rfl]
    exact load_any g b n f k w h (by omega) (by omega)
  · rw [if_neg h0]
    exact load_no g b n f a w h h0
theorem byte_step (g b n : Nat) (f : Nat → Int) (a : Int) (w : World) (h : Mem w g b n f) : Calls Try.prog 12 #[.pointer (some ⟨g, 0, none⟩), .int .i64 a] w fun e w' => e = .returned (.tuple #[.int .u8 (bv n f a), .int .i64 (wrg n a 1)]) ∧ w = w' := by
  unfold bv
  by_cases h0 : wrg n a 1 = 0
  · obtain ⟨h1, h2, h3⟩ := wrg_no h0
    rw [h0, if_pos rfl]
    exact byte_any g b n f a w h h1 h2
  · rw [if_neg h0]
    exact byte_no g b n f a w h h0
theorem rload_step (g b N n : Nat) (f : Nat → Int) (a : Int) (w : World) (h : RMem w g b N (wv f)) (hn : n = N * 8) : Calls Try.prog 16 #[.pointer (some ⟨g, 0, none⟩), .int .i64 a] w fun e w' => e = .returned (.tuple #[.int .u64 (lv n f a), .int .i64 (wrg n a 8)]) ∧ w = w' := by
  subst hn
  unfold lv
  by_cases h0 : wrg (N * 8) a 8 = 0
  · obtain ⟨h1, h2, h3⟩ := wrg_no h0
    obtain ⟨k, hk⟩ : ∃ k : Nat, a = ((8 * k : Nat) : Int) := ⟨(a / 8).toNat, by omega⟩
    subst hk
    rw [h0, if_pos rfl]
    exact rload_any g b N (wv f) k w h (by omega)
  · rw [if_neg h0]
    exact rload_no g b N (wv f) a w h h0
theorem rbyte_step (g b N n : Nat) (f : Nat → Int) (a : Int) (w : World) (h : RMem w g b N (wv f)) (hn : n = N * 8) (hf : ∀ i, 0 ≤ f i ∧ f i ≤ 255) : Calls Try.prog 17 #[.pointer (some ⟨g, 0, none⟩), .int .i64 a] w fun e w' => e = .returned (.tuple #[.int .u8 (bv n f a), .int .i64 (wrg n a 1)]) ∧ w = w' := by
  subst hn
  unfold bv
  by_cases h0 : wrg (N * 8) a 1 = 0
  · obtain ⟨h1, h2, h3⟩ := wrg_no h0
    obtain ⟨k, rfl⟩ := Int.eq_ofNat_of_zero_le h1
    rw [h0, if_pos rfl]
    have e : byt (wv f (k / 8)) (k % 8) = f k := by
      unfold wv
      rw [byt_wd f hf _ _ (by omega), show 8 * (k / 8) + k % 8 = k from by omega]
    have := rbyte_any g b N (wv f) k (k / 8) (k % 8) w h (wd_range f hf _) rfl rfl (by omega)
    rw [e] at this
    exact this
  · rw [if_neg h0]
    exact rbyte_no g b N (wv f) a w h h0
/-- A slice of calls that came in: its elements' fields. -/
def Acts (w : World) (ao : Option Addr) (len : Nat) (z : Nat → Nat → Int) : Prop :=
  ∀ j, j < len → ∃ b o, ao = some ⟨b, o, none⟩ ∧ w.cell? ⟨b, o + j * 5, none⟩ = some (.int .i64 (z j 0)) ∧ w.cell? ⟨b, o + j * 5 + 1, none⟩ = some (.int .i64 (z j 1)) ∧ w.cell? ⟨b, o + j * 5 + 2, none⟩ = some (.int .i64 (z j 2)) ∧ w.cell? ⟨b, o + j * 5 + 3, none⟩ = some (.int .i64 (z j 3)) ∧ w.cell? ⟨b, o + j * 5 + 4, none⟩ = some (.int .u64 (z j 4)) ∧
    (-9223372036854775808 ≤ z j 1 ∧ z j 1 < 9223372036854775808) ∧ (-9223372036854775808 ≤ z j 2 ∧ z j 2 < 9223372036854775808) ∧ (0 ≤ z j 4 ∧ z j 4 < 18446744073709551616)
theorem Acts.below {w w' : World} {ao : Option Addr} {len : Nat} {z : Nat → Nat → Int} (h : Acts w ao len z) (hb : Below w.heap.size w w') : Acts w' ao len z := fun j hj => by
  obtain ⟨b, o, e, e0, e1, e2, e3, e4, r⟩ := h j hj
  exact ⟨b, o, e, cell_keep hb e0, cell_keep hb e1, cell_keep hb e2, cell_keep hb e3, cell_keep hb e4, r⟩

end Go.Proofs.Ytmjkcmpanoepgaa

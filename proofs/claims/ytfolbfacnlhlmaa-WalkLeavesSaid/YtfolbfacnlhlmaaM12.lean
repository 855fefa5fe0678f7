/- Parts of the proofs of layer 7 (walk): contracts of its functions, and the laws' walks. -/
import Derived.Test.YtfolbfacnlhlmaaProg
import Derived.WalkKit
import Derived.WalkSpells
import Derived.WalkLawsBesides
import Derived.BigQuiet
import Derived.Deep.QuietTactic
import Derived.Lib.Hide
import Derived.Deep.RegionHeld3
import Derived.Deep.DeepCutAuto
import Derived.KernelRfl
import Derived.Deep.OwnRows
import Derived.Laws.CopyOwn
import Derived.Laws.CopyRow
import Derived.StillTailTactics
import Derived.Deep.RegionLaw
import Derived.Test.YtfolbfacnlhlmaaM9
namespace Go.Proofs.Ytfolbfacnlhlmaa
open Go.RowKit
set_option linter.unusedVariables false
set_option linter.unusedSimpArgs false

/-- w' is w, but for block B, and blocks that are new. -/
def Oth (B : Nat) (w w' : World) : Prop := w'.os = w.os ∧ w'.tape = w.tape ∧ w'.output = w.output ∧ w.heap.size ≤ w'.heap.size ∧ ∀ b, b < w.heap.size → b ≠ B → w'.heap[b]? = w.heap[b]?
theorem One.oth {B : Nat} {w w' : World} (h : One B w w') : Oth B w w' := ⟨h.1, h.2.1, h.2.2.1, Nat.le_of_eq h.2.2.2.1.symm, fun b _ hb => h.2.2.2.2 b hb⟩
theorem Oth.refl (B : Nat) (w : World) : Oth B w w := (One.refl B w).oth
theorem Oth.of_below {B : Nat} {w w1 w' : World} (h : Below w.heap.size w w1) (k : One B w1 w') : Oth B w w' :=
  ⟨k.1.trans h.os, k.2.1.trans h.tape, k.2.2.1.trans h.output, Nat.le_trans h.size (Nat.le_of_eq k.2.2.2.1.symm), fun b hb hne => (k.2.2.2.2 b hne).trans (h.block b hb)⟩
theorem Oth.below {B C : Nat} {w w' : World} (h : Oth B w w') (hc : C ≤ B) (hs : C ≤ w.heap.size) : Below C w w' := ⟨h.1, h.2.1, h.2.2.1, h.2.2.2.1, fun k hk => h.2.2.2.2 k (by omega) (by omega)⟩
theorem Mem.oth {w w' : World} {g b n B : Nat} {f : Nat → Int} (h : Mem w g b n f) (ho : Oth B w w') (h1 : g ≠ B) (h2 : b ≠ B) : Mem w' g b n f := h.of_blocks (ho.2.2.2.2 g h.lt.1 h1) (ho.2.2.2.2 b h.lt.2 h2)
theorem RMem.oth {w w' : World} {g b n B : Nat} {v : Nat → Int} (h : RMem w g b n v) (ho : Oth B w w') (h1 : g ≠ B) (h2 : b ≠ B) : RMem w' g b n v := h.of_blocks (ho.2.2.2.2 g h.lt.1 h1) (ho.2.2.2.2 b h.lt.2 h2)
def sf (n : Nat) (f : Nat → Int) (a x : Int) : Nat → Int := if wrg n a 8 = 0 then lay f a.toNat 8 x else f
theorem store_step (g b n : Nat) (f : Nat → Int) (a x : Int) (w : World) (h : Mem w g b n f) (hx : 0 ≤ x ∧ x < 18446744073709551616) : Calls Try.prog 17 #[.pointer (some ⟨g, 0, none⟩), .int .i64 a, .int .u64 x] w fun e w' => e = .returned (.int .i64 (wrg n a 8)) ∧ Oth b w w' ∧ Mem w' g b n (sf n f a x) := by
  unfold sf
  by_cases h0 : wrg n a 8 = 0
  · obtain ⟨h1, h2, h3⟩ := wrg_no h0
    obtain ⟨k, rfl⟩ := Int.eq_ofNat_of_zero_le h1
    rw [h0, if_pos rfl]
    exact (store_any g b n f k x w h (by omega) (by omega) hx).mono fun e w' ⟨q1, q2, q3⟩ => ⟨q1, q2.oth, q3⟩
  · rw [if_neg h0]
    exact (store_no g b n f a x w h h0).mono fun e w' ⟨q1, q2⟩ => by subst q2; exact ⟨q1, Oth.refl _ _, h⟩
/-- The words that the bytes are. -/
def wv (f : Nat → Int) (i : Nat) : Int := wd f (8 * i)
theorem wd_eq {f f' : Nat → Int} {k k' : Nat} (h : ∀ d, d < 8 → f (k + d) = f' (k' + d)) : wd f k = wd f' k' := by
  have e0 := h 0 (by omega)
  rw [Nat.add_zero, Nat.add_zero] at e0
  unfold wd
  rw [e0, h 1 (by omega), h 2 (by omega), h 3 (by omega), h 4 (by omega), h 5 (by omega), h 6 (by omega), h 7 (by omega)]
theorem rstore_step (g b N n : Nat) (f : Nat → Int) (a x : Int) (w : World) (h : RMem w g b N (wv f)) (hn : n = N * 8) (hx : 0 ≤ x ∧ x < 18446744073709551616) : Calls Try.prog 18 #[.pointer (some ⟨g, 0, none⟩), .int .i64 a, .int .u64 x] w fun e w' => e = .returned (.int .i64 (wrg n a 8)) ∧ Oth b w w' ∧ RMem w' g b N (wv (sf n f a x)) := by
  subst hn
  unfold sf
  by_cases h0 : wrg (N * 8) a 8 = 0
  · obtain ⟨h1, h2, h3⟩ := wrg_no h0
    obtain ⟨k, hk⟩ : ∃ k : Nat, a = ((8 * k : Nat) : Int) := ⟨(a / 8).toNat, by omega⟩
    subst hk
    rw [h0, if_pos rfl]
    refine (rstore_any g b N (wv f) k x w h (by omega)).mono fun e w' ⟨q1, q2, q3⟩ => ⟨q1, q2.oth, q3.congr fun i hi => ?_⟩
    rw [Int.toNat_natCast]
    show (if i = k then x else wd f (8 * i)) = wd (lay f (8 * k) 8 x) (8 * i)
    split
    · rename_i h; subst h; exact (wd_lay f _ x hx).symm
    · exact (wd_other f _ _ x (by omega)).symm
  · rw [if_neg h0]
    exact (rstore_no g b N (wv f) a x w h h0).mono fun e w' ⟨q1, q2⟩ => by subst q2; exact ⟨q1, Oth.refl _ _, h⟩
end Go.Proofs.Ytfolbfacnlhlmaa

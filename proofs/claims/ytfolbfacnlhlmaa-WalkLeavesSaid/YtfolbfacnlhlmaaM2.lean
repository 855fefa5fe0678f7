/- Parts of the proofs of layer 7 (walk): contracts of its functions, and the laws' walks. -/
import Derived.Test.YtfolbfacnlhlmaaProg
import Derived.WalkKit
import Derived.WalkSpells
import Derived.WalkLawsBesides
import Derived.BigQuiet
import Derived.Deep.QuietTactic
import Derived.Lib.Hide
import Derived.Deep.RegionHeld3
import Derived.Deep.DeepCutAuto
import Derived.KernelRfl
import Derived.Deep.OwnRows
import Derived.Laws.CopyOwn
import Derived.Laws.CopyRow
import Derived.StillTailTactics
import Derived.Deep.RegionLaw
import Derived.Test.YtfolbfacnlhlmaaM1
namespace Go.Proofs.Ytfolbfacnlhlmaa
open Go.RowKit
set_option linter.unusedVariables false
set_option linter.unusedSimpArgs false

/-- The i-th byte of a word. -/
def byt (x : Int) (i : Nat) : Int := x / 2 ^ (8 * i) % 256
theorem byt_range (x : Int) (i : Nat) : 0 ≤ byt x i ∧ byt x i ≤ 255 := by unfold byt; omega
/-- The first j bytes of the word x laid at k. -/
def lay (f : Nat → Int) (k j : Nat) (x : Int) (i : Nat) : Int := if k ≤ i ∧ i < k + j then byt x (i - k) else f i
theorem Mem.set {w : World} {g b n : Nat} {f : Nat → Int} (h : Mem w g b n f) (k j : Nat) (x : Int) (hj : k + j < n) : Mem (w.setCell ⟨b, k + j, none⟩ (.int .u8 (byt x j))) g b n (fun i => if i = k + j then byt x j else f i) := by
  obtain ⟨h1, h2, h3, h4, h5, h6, h7⟩ := h
  refine ⟨?_, (h2.set (k + j) _).congr fun i hi => ?_, h3, h4, h5, h6, fun i => ?_⟩
  · rw [← h1]; exact Below.heap_setCell _ _ _ _ h3
  · show (if i = k + j then Value.int .u8 (byt x j) else Value.int .u8 (f i)) = Value.int .u8 (if i = k + j then byt x j else f i)
    split <;> rfl
  · show 0 ≤ (if i = k + j then byt x j else f i) ∧ (if i = k + j then byt x j else f i) ≤ 255
    split
    · exact byt_range x j
    · exact h7 i
theorem Mem.congr {w : World} {g b n : Nat} {f f' : Nat → Int} (h : Mem w g b n f) (e : ∀ i, f i = f' i) : Mem w g b n f' := by
  rw [show f' = f from funext fun i => (e i).symm]; exact h
theorem lay_step (f : Nat → Int) (k j : Nat) (x : Int) (i : Nat) : (if i = k + j then byt x j else lay f k j x i) = lay f k (j + 1) x i := by
  unfold lay
  by_cases h : i = k + j
  · rw [if_pos h, if_pos (by omega), show i - k = j from by omega]
  · rw [if_neg h]
    by_cases h2 : k ≤ i ∧ i < k + j
    · rw [if_pos h2, if_pos (by omega)]
    · rw [if_neg h2, if_neg (by omega)]
set_option maxHeartbeats 2000000 in
theorem store_any (g b n : Nat) (f : Nat → Int) (k : Nat) (x : Int) (w : World) (h : Mem w g b n f) (h0 : k % 8 = 0) (h1 : k < n) (hx : 0 ≤ x ∧ x < 18446744073709551616) : Calls Try.prog 17 #[.pointer (some ⟨g, 0, none⟩), .int .i64 k, .int .u64 x] w fun e w' => e = .returned (.int .i64 0) ∧ One b w w' ∧ Mem w' g b n (lay f k 8 x) := by
  have hn : n ≤ 65536 := h.2.2.2.2.1
  have hn64 : n % 64 = 0 := h.2.2.2.2.2.1
  have HW := Lib.hid (wrg_ok (n := n) (at_ := k) (even := 8) (by omega) (by omega) (by omega))
  have hk : k + 7 < n := by omega
  have H := Lib.hid h
  clear h
  go_enter Try.func17, Try.ntmps17
  go_wp2_with fail
  refine (wrong_any g b n f k 8 _ H.out (by omega)).mono ?_
  rintro e w1 ⟨rfl, rfl⟩
  rw [HW.out]
  go_wp2_with fail
  go_loopw [15] (fun s wr => ∃ j : Nat, j ≤ 8 ∧ s = .int .i64 j ∧ RowKit.Hid (One b w wr ∧ Mem wr g b n (lay f k j x))) (fun s _ => 8 - (intOf s).toNat)
  case atStart => exact ⟨0, by omega, rfl, Lib.hid ⟨One.refl _ _, H.out.congr fun i => by unfold lay; rw [if_neg (by omega)]⟩⟩
  case round =>
    obtain ⟨j, hj, rfl, HM⟩ := hrel
    by_cases hlt : j < 8
    · have c0 := cell_of_one HM.out.2.1
      have c1 := HM.out.2.2.1.cell (i := k + j) (by omega)
      have c2 := HM.out.2.2.1.frozen (k + j)
      have s1 : IntKind.i64.wrap (8 * (j : Int)) = ((8 * j : Nat) : Int) := by rw [IntKind.wrap_i64]; omega
      have s2 : IntKind.i64.wrap ((k : Int) + j) = ((k + j : Nat) : Int) := by rw [IntKind.wrap_i64]; omega
      have s3 : ((k : Int) + j).toNat = k + j := by omega
      have s4 : 0 ≤ (k : Int) + j := by omega
      have s5 : (k : Int) + j < n := by omega
      have s6 : k + j < n := by omega
      have s7 : IntKind.u8.wrap (x / 2 ^ (8 * (j : Int)).toNat) = byt x j := by
        rw [show (8 * (j : Int)).toNat = 8 * j from by omega]
        rfl
      go_wp2_with fail
      go_still_tail 13, (by kernel_rfl)
      change wpList _ _ _ _ _ (World.drew _)
      have HM2 : RowKit.Hid (One b w wr.drew ∧ Mem wr.drew g b n (lay f k j x)) := Lib.hid ⟨HM.out.1, HM.out.2⟩
      clear HM c0 c1 c2
      generalize wr.drew = wd at HM2 ⊢
      have c1 := HM2.out.2.2.1.cell (i := k + j) (by omega)
      have c2 := HM2.out.2.2.1.frozen (k + j)
      go_wp2_with fail
      go_round
      case rel => exact ⟨j + 1, by omega, by go_num, Lib.hid ⟨HM2.out.1.trans (One.setCell _ _ _ _), (HM2.out.2.set k j x (by omega)).congr fun i => lay_step f k j x i⟩⟩
      case measure => simp [intOf]; omega
    · have hj8 : j = 8 := by omega
      subst hj8
      go_wp2_with fail
      go_ret
      exact ⟨rfl, HM.out.1, HM.out.2⟩
/-- What is stored is loaded. -/
theorem wd_lay (f : Nat → Int) (k : Nat) (x : Int) (hx : 0 ≤ x ∧ x < 18446744073709551616) : wd (lay f k 8 x) k = x := by
  have e : ∀ d, d < 8 → lay f k 8 x (k + d) = byt x d := fun d hd => by unfold lay; rw [if_pos (by omega), show k + d - k = d from by omega]
  unfold wd
  have e0 := e 0 (by omega)
  rw [Nat.add_zero] at e0
  rw [e0, e 1 (by omega), e 2 (by omega), e 3 (by omega), e 4 (by omega), e 5 (by omega), e 6 (by omega), e 7 (by omega)]
  simp only [byt, Nat.reduceMul, Nat.mul_zero]
  omega
theorem wd_other (f : Nat → Int) (k j : Nat) (x : Int) (h : j + 8 ≤ k ∨ k + 8 ≤ j) : wd (lay f k 8 x) j = wd f j := by
  have e : ∀ d, d < 8 → lay f k 8 x (j + d) = f (j + d) := fun d hd => by unfold lay; rw [if_neg (by omega)]
  unfold wd
  have e0 := e 0 (by omega)
  rw [Nat.add_zero] at e0
  rw [e0, e 1 (by omega), e 2 (by omega), e 3 (by omega), e 4 (by omega), e 5 (by omega), e 6 (by omega), e 7 (by omega)]

end Go.Proofs.Ytfolbfacnlhlmaa

/- Parts of the proofs of layer 2 (ram): contracts of its functions, and the laws' walks. -/
import Derived.Test.YtmjkcmpanoepgaaProg
import Derived.WalkKit
import Derived.WalkSpells
import Derived.WalkLawsBesides
import Derived.BigQuiet
import Derived.Deep.QuietTactic
import Derived.Lib.Hide
import Derived.Deep.RegionHeld3
import Derived.Deep.DeepCutAuto
import Derived.KernelRfl
import Derived.Deep.OwnRows
import Derived.Laws.CopyOwn
import Derived.Laws.CopyRow
import Derived.StillTailTactics
import Derived.Test.YtmjkcmpanoepgaaM9
namespace Go.Proofs.Ytmjkcmpanoepgaa
open Go.RowKit
set_option linter.unusedVariables false
set_option linter.unusedSimpArgs false

def zr (v : Nat → Int) (lo hi : Nat) (i : Nat) : Int := if lo ≤ i ∧ i < hi then 0 else v i
theorem zr_step (v : Nat → Int) (lo i j : Nat) (h : lo ≤ i) : (if j = i then 0 else zr v lo i j) = zr v lo (i + 1) j := by
  unfold zr
  by_cases h1 : j = i
  · rw [if_pos h1, if_pos (by omega)]
  · rw [if_neg h1]
    by_cases h2 : lo ≤ j ∧ j < i
    · rw [if_pos h2, if_pos (by omega)]
    · rw [if_neg h2, if_neg (by omega)]
set_option maxHeartbeats 2000000 in
theorem rzero_any (g b N n : Nat) (v : Nat → Int) (fr m : Nat) (w : World) (h : RMem w g b N v) (hn : n = N * 8) (h0 : 1 ≤ m) (h1 : fr + m ≤ n / 64) : Calls Try.prog 24 #[.pointer (some ⟨g, 0, none⟩), .int .i64 fr, .int .i64 m] w fun e w' => e = .returned (.int .i64 0) ∧ One b w w' ∧ RMem w' g b N (zr v (fr * 8) ((fr + m) * 8)) := by
  have hN : N ≤ 8192 := h.2.2.2.2.1
  have H := Lib.hid h
  clear h
  have ht : (frm n fr m == 0) = true := by
    rw [beq_iff_eq]
    unfold frm
    rw [if_neg (by omega), if_neg (by omega), if_neg (by omega), if_neg (by omega)]
  have HT := Lib.hid ht
  clear ht
  have hm1 : decide ((m : Int) < 1) = false := decide_eq_false (by omega)
  have hhi : (fr + m) * 8 ≤ N := by omega
  go_enter Try.func24, Try.ntmps24
  go_wp2_with fail
  refine (there_any g b N n v fr m _ H.out hn (by omega) (by omega)).mono ?_
  rintro e wz ⟨rfl, rfl⟩
  rw [HT.out]
  clear h1 hn
  go_wp2_with fail
  go_loopw [7] (fun s wr => ∃ i : Nat, fr * 8 ≤ i ∧ i ≤ (fr + m) * 8 ∧ s = .int .i64 i ∧ RowKit.Hid (One b w wr ∧ RMem wr g b N (zr v (fr * 8) i))) (fun s _ => (fr + m) * 8 - (intOf s).toNat)
  case atStart => exact ⟨fr * 8, by omega, by omega, by go_num, Lib.hid ⟨One.refl _ _, H.out.congr fun i _ => by unfold zr; rw [if_neg (by omega)]⟩⟩
  case round =>
    obtain ⟨i, hi0, hi1, rfl, HM⟩ := hrel
    have w1 : IntKind.i64.wrap (((fr : Int) + m) * 8) = ((fr : Int) + m) * 8 := by rw [IntKind.wrap_i64]; omega
    by_cases hlt : i < (fr + m) * 8
    · have d1 : decide ((i : Int) < ((fr : Int) + m) * 8) = true := decide_eq_true (by omega)
      have c0 := cell_of_one HM.out.2.1
      have c1 := HM.out.2.2.1.cell (i := i) (by omega)
      have c2 := HM.out.2.2.1.frozen i
      have hiN : i < N := by omega
      go_wp2_with fail
      go_round
      case rel => exact ⟨i + 1, by omega, by omega, by go_num, Lib.hid ⟨HM.out.1.trans (One.setCell _ _ _ _), (HM.out.2.set i 0).congr fun j _ => zr_step v (fr * 8) i j hi0⟩⟩
      case measure => simp [intOf]; omega
    · have d1 : decide ((i : Int) < ((fr : Int) + m) * 8) = false := decide_eq_false (by omega)
      have hie : i = (fr + m) * 8 := by omega
      subst hie
      go_wp2_with fail
      go_ret
      exact ⟨rfl, HM.out.1, HM.out.2⟩
set_option maxHeartbeats 1000000 in
theorem rzero_no (g b N n : Nat) (v : Nat → Int) (fr m : Int) (w : World) (h : RMem w g b N v) (hn : n = N * 8) (hr : -9223372036854775808 ≤ fr ∧ fr < 9223372036854775808) (h0 : frm n fr m ≠ 0) : Calls Try.prog 24 #[.pointer (some ⟨g, 0, none⟩), .int .i64 fr, .int .i64 m] w fun e w' => e = .returned (.int .i64 (frm n fr m)) ∧ w = w' := by
  have H := Lib.hid h
  clear h
  by_cases hm : m < 1
  · have hm1 : decide (m < 1) = true := decide_eq_true hm
    have e2 : frm n fr m = 2 := by unfold frm; rw [if_pos hm]
    rw [e2]
    go_enter Try.func24, Try.ntmps24
    go_wp2_with fail
    go_ret
    exact ⟨rfl, rfl⟩
  · have hm1 : decide (m < 1) = false := decide_eq_false hm
    have e3 : frm n fr m = 3 := by
      unfold frm at h0 ⊢
      rw [if_neg hm] at h0 ⊢
      split
      · rfl
      · split
        · rfl
        · split
          · rfl
          · rename_i a1 a2 a3
            rw [if_neg a1, if_neg a2, if_neg a3] at h0
            exact (h0 rfl).elim
    have ht : (frm n fr m == 0) = false := by rw [beq_eq_false_iff_ne]; exact h0
    have HT := Lib.hid ht
    rw [e3]
    clear ht h0 e3
    go_enter Try.func24, Try.ntmps24
    go_wp2_with fail
    refine (there_any g b N n v fr m _ H.out hn (by omega) hr).mono ?_
    rintro e wz ⟨rfl, rfl⟩
    rw [HT.out]
    go_wp2_with fail
    go_ret
    exact ⟨rfl, rfl⟩

end Go.Proofs.Ytmjkcmpanoepgaa

/- Parts of the proofs of layer 2 (ram): contracts of its functions, and the laws' walks. -/
import Derived.Test.YtmjkcmpanoepgaaProg
import Derived.WalkKit
import Derived.WalkSpells
import Derived.WalkLawsBesides
import Derived.BigQuiet
import Derived.Deep.QuietTactic
import Derived.Lib.Hide
import Derived.Deep.RegionHeld3
import Derived.Deep.DeepCutAuto
import Derived.KernelRfl
import Derived.Deep.OwnRows
import Derived.Laws.CopyOwn
import Derived.Laws.CopyRow
import Derived.StillTailTactics
import Derived.Test.YtmjkcmpanoepgaaM2
namespace Go.Proofs.Ytmjkcmpanoepgaa
open Go.RowKit
set_option linter.unusedVariables false
set_option linter.unusedSimpArgs false

/-- What is wrong with m frames from fr on. -/
def frm (n : Nat) (fr m : Int) : Int := if m < 1 then 2 else if fr < 0 then 3 else if (n : Int) / 64 < fr then 3 else if (n : Int) / 64 - fr < m then 3 else 0
theorem frm_ok {n : Nat} {fr m : Int} (h : frm n fr m = 0) : 1 ≤ m ∧ 0 ≤ fr ∧ fr + m ≤ (n : Int) / 64 := by
  unfold frm at h
  split at h
  · cases h
  · split at h
    · cases h
    · split at h
      · cases h
      · split at h
        · cases h
        · omega
set_option maxHeartbeats 2000000 in
theorem frames_ok (g b n : Nat) (f : Nat → Int) (fr m : Nat) (w : World) (h : Mem w g b n f) (h0 : 1 ≤ m) (h1 : fr + m ≤ n / 64) : Calls Try.prog 26 #[.pointer (some ⟨g, 0, none⟩), .int .i64 fr, .int .i64 m] w fun e w' => e = .returned (.tuple #[.slice (some ⟨b, fr * 64, none⟩) (m * 64) (n - fr * 64), .int .i64 0]) ∧ w = w' := by
  have hn : n ≤ 65536 := h.2.2.2.2.1
  have hn64 : n % 64 = 0 := h.2.2.2.2.2.1
  have c0 := cell_of_one h.1
  have H := Lib.hid h
  clear h
  have hm1 : decide ((m : Int) < 1) = false := decide_eq_false (by omega)
  have d1 : decide ((n : Int) / 64 < (fr : Int)) = false := decide_eq_false (by omega)
  have d2 : decide ((n : Int) / 64 - fr < (m : Int)) = false := decide_eq_false (by omega)
  have d4 : decide ((fr : Int) < 0) = false := decide_eq_false (by omega)
  have w1 : IntKind.i64.wrap ((n : Int) / 64 - fr) = (n : Int) / 64 - fr := by rw [IntKind.wrap_i64]; omega
  go_enter Try.func26, Try.ntmps26
  go_wp2_with fail
  go_wp2_with (go_at_call 18; refine (frames_any g b n f _ H.out).mono ?_; rintro e _ ⟨rfl, rfl⟩)
  go_ret2
  exact ⟨by rw [show (fr + m) * 64 - fr * 64 = m * 64 from by omega] <;> rfl, rfl⟩
set_option maxHeartbeats 2000000 in
theorem frames_no (g b n : Nat) (f : Nat → Int) (fr m : Int) (w : World) (h : Mem w g b n f) (hr : -9223372036854775808 ≤ fr ∧ fr < 9223372036854775808) (h0 : frm n fr m ≠ 0) : Calls Try.prog 26 #[.pointer (some ⟨g, 0, none⟩), .int .i64 fr, .int .i64 m] w fun e w' => e = .returned (.tuple #[.slice none 0 0, .int .i64 (frm n fr m)]) ∧ w = w' := by
  have hn : n ≤ 65536 := h.2.2.2.2.1
  have H := Lib.hid h
  clear h
  by_cases hm : m < 1
  · have hm1 : decide (m < 1) = true := decide_eq_true hm
    have hf : frm n fr m = 2 := by unfold frm; rw [if_pos hm]
    rw [hf]
    go_enter Try.func26, Try.ntmps26
    go_wp2_with fail
    go_ret2
    exact ⟨rfl, rfl⟩
  · have hm1 : decide (m < 1) = false := decide_eq_false hm
    have hf : frm n fr m = 3 := by
      unfold frm at h0 ⊢
      rw [if_neg hm] at h0 ⊢
      split
      · rfl
      · split
        · rfl
        · rename_i h1 h2
          rw [if_neg h1, if_neg h2] at h0
          split
          · rfl
          · rename_i h3
            rw [if_neg h3] at h0
            exact (h0 rfl).elim
    have HF := Lib.hid hf
    have hall : fr < 0 ∨ (n : Int) / 64 < fr ∨ (n : Int) / 64 - fr < m := by
      by_cases a1 : fr < 0
      · exact Or.inl a1
      · by_cases a2 : (n : Int) / 64 < fr
        · exact Or.inr (Or.inl a2)
        · by_cases a3 : (n : Int) / 64 - fr < m
          · exact Or.inr (Or.inr a3)
          · exfalso
            apply h0
            unfold frm
            rw [if_neg hm, if_neg a1, if_neg a2, if_neg a3]
    rw [hf]
    clear hf h0
    by_cases a1 : fr < 0
    · have d4 : decide (fr < 0) = true := decide_eq_true a1
      go_enter Try.func26, Try.ntmps26
      go_wp2_with fail
      go_ret2
      exact ⟨rfl, rfl⟩
    · have d4 : decide (fr < 0) = false := decide_eq_false a1
      by_cases a2 : (n : Int) / 64 < fr
      · have d1 : decide ((n : Int) / 64 < fr) = true := decide_eq_true a2
        go_enter Try.func26, Try.ntmps26
        go_wp2_with fail
        go_wp2_with (go_at_call 18; refine (frames_any g b n f _ H.out).mono ?_; rintro e _ ⟨rfl, rfl⟩)
        go_ret2
        exact ⟨rfl, rfl⟩
      · have d1 : decide ((n : Int) / 64 < fr) = false := decide_eq_false a2
        have d2 : decide ((n : Int) / 64 - fr < m) = true := decide_eq_true (by omega)
        have w1 : IntKind.i64.wrap ((n : Int) / 64 - fr) = (n : Int) / 64 - fr := by rw [IntKind.wrap_i64]; omega
        go_enter Try.func26, Try.ntmps26
        go_wp2_with fail
        go_wp2_with (go_at_call 18; refine (frames_any g b n f _ H.out).mono ?_; rintro e _ ⟨rfl, rfl⟩)
        go_ret2
        exact ⟨rfl, rfl⟩

end Go.Proofs.Ytmjkcmpanoepgaa

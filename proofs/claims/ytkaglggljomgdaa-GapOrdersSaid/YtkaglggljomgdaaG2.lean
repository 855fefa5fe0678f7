/- Parts of the proofs of layer 18 (gap): contracts of its functions, and the laws' walks. -/
import Derived.Test.YtkaglggljomgdaaProg
import Derived.WalkKit
import Derived.WalkSpells
import Derived.WalkLawsBesides
import Derived.BigQuiet
import Derived.Deep.QuietTactic
import Derived.Lib.Hide
import Derived.Deep.RegionHeld3
import Derived.Deep.DeepCutAuto
import Derived.KernelRfl
import Derived.Deep.OwnRows
import Derived.Laws.CopyOwn
import Derived.Laws.CopyRow
import Derived.StillTailTactics
import Derived.Deep.RegionLaw
import Derived.Test.YtkaglggljomgdaaG1
namespace Go.Proofs.Ytkaglggljomgdaa
open Go.RowKit
set_option linter.unusedVariables false
set_option linter.unusedSimpArgs false
namespace G

def siz (n : Int) : Int := if ord n = true then two n else 0
theorem pow_step (k : Nat) : (2 : Int) ^ k * 2 = 2 ^ (k + 1) := rfl
theorem pow_small (k : Nat) (h : k ≤ 9) : 1 ≤ (2 : Int) ^ k ∧ (2 : Int) ^ k ≤ 512 := by
  have hc : k = 0 ∨ k = 1 ∨ k = 2 ∨ k = 3 ∨ k = 4 ∨ k = 5 ∨ k = 6 ∨ k = 7 ∨ k = 8 ∨ k = 9 := by omega
  rcases hc with rfl | rfl | rfl | rfl | rfl | rfl | rfl | rfl | rfl | rfl <;> decide
set_option maxHeartbeats 2000000 in
theorem size_any (n : Int) (w : World) : Calls Try.prog 31 #[.int .i64 n] w fun e w' => e = .returned (.int .i64 (siz n)) ∧ w = w' := by
  go_enter Try.func31, Try.ntmps31
  go_wp2
  go_loop [3, 4] (fun m i => ∃ k : Nat, k ≤ 9 ∧ ((k : Int) ≤ n ∨ k = 0) ∧ i = .int .i64 k ∧ m = .int .i64 (2 ^ k)) (fun _ i => 9 - (intOf i).toNat)
  case atStart => exact ⟨0, by omega, .inr rfl, rfl, rfl⟩
  case round =>
    obtain ⟨k, hk, hkn, rfl, rfl⟩ := hrel
    have hp := pow_small k hk
    by_cases hlt : (k : Int) < n ∧ k < 9
    · obtain ⟨h1, h2⟩ := hlt
      have h3 : (k : Int) < 9 := by omega
      go_wp2
      go_round
      case rel => exact ⟨k + 1, by omega, by omega, by go_num, rfl⟩
      case measure => simp [intOf]; omega
    · by_cases ho : 0 ≤ n ∧ n ≤ 8
      · have hs : siz n = 2 ^ k := by
          have h1 : ord n = true := by simp [ord, ho]
          unfold siz two
          rw [if_pos h1]
          congr 1
          omega
        have HS := Lib.hid hs
        clear hs
        have hge : ¬ (k : Int) < n := by omega
        obtain ⟨ho1, ho2⟩ := ho
        go_wp2
        all_goals
          go_ret
          exact ⟨by rw [HS.out] <;> rfl, rfl⟩
      · have hs : siz n = 0 := by
          have h1 : ord n = false := by simp [ord]; omega
          unfold siz
          rw [if_neg (by rw [h1]; decide)]
        have HS := Lib.hid hs
        clear hs
        have hno : n < 0 ∨ 8 < n := by omega
        have hge : ¬ (k : Int) < n ∨ ¬ (k : Int) < 9 := by omega
        clear ho hlt
        rcases hno with hno | hno
        all_goals
          go_wp2
          all_goals
            first
            | (go_ret; exact ⟨by rw [HS.out] <;> rfl, rfl⟩)
            | (exfalso; omega)
theorem siz_range (n : Int) (h : ord n = true) : 1 ≤ siz n ∧ siz n ≤ 256 := by
  unfold siz
  rw [if_pos h]
  have h1 : 0 ≤ n ∧ n ≤ 8 := by simpa [ord] using h
  have hc : n = 0 ∨ n = 1 ∨ n = 2 ∨ n = 3 ∨ n = 4 ∨ n = 5 ∨ n = 6 ∨ n = 7 ∨ n = 8 := by omega
  rcases hc with rfl | rfl | rfl | rfl | rfl | rfl | rfl | rfl | rfl <;> decide
theorem tmod_bound (x n : Int) (hn : 1 ≤ n) : -n < x.tmod n ∧ x.tmod n < n := by
  have h := Int.tmod_lt_of_pos x (show 0 < n by omega)
  have h2 := Int.lt_tmod_of_pos x (show 0 < n by omega)
  exact ⟨h2, h⟩
theorem rest_tmod (x n : Int) (hn : 1 ≤ n) : (if x.tmod n < 0 then x.tmod n + n else x.tmod n) = x % n := by
  have h := Int.tmod_eq_emod (a := x) (b := n)
  have h0 := Int.emod_nonneg x (show n ≠ 0 by omega)
  have h1 := Int.emod_lt_of_pos x (show 0 < n by omega)
  have h2 : n.sign = 1 := Int.sign_eq_one_of_pos (by omega)
  have h3 : ((n.natAbs : Nat) : Int) = n := by omega
  generalize x.tmod n = t at h ⊢
  generalize x % n = r at h h0 h1 ⊢
  split at h <;> split <;> first | omega | (simp at h; omega)
theorem wrap64_small (x : Int) (h0 : -9223372036854775808 ≤ x) (h1 : x < 9223372036854775808) : wrap64 x = x := by unfold wrap64; omega
set_option maxHeartbeats 2000000 in
theorem rest_any (page n : Int) (w : World) (hn : 1 ≤ n) (hn2 : n ≤ 256) (h0 : -9223372036854775808 ≤ page) (h1 : page < 9223372036854775808) : Calls Try.prog 32 #[.int .i64 page, .int .i64 n] w fun e w' => e = .returned (.int .i64 (page % n)) ∧ w = w' := by
  go_enter Try.func32, Try.ntmps32
  have H := Lib.hid (rest_tmod page n hn)
  have HL := tmod_bound page n hn
  go_wp2
  all_goals
    go_ret
  · have hneg : page.tmod n < 0 := by assumption
    exact ⟨by rw [← H.out, if_pos hneg, ← wrap64_small (page.tmod n + n) (by omega) (by omega)]; rfl, rfl⟩
  · have hneg : 0 ≤ page.tmod n := by assumption
    exact ⟨by rw [← H.out, if_neg (by omega)]; rfl, rfl⟩
theorem dwn_low (page n : Int) (h : ord n = true) (h0 : -9223372036854775808 ≤ page) : -9223372036854775808 ≤ page - page % siz n := by
  unfold siz
  rw [if_pos h]
  have h1 : 0 ≤ n ∧ n ≤ 8 := by simpa [ord] using h
  have hc : n = 0 ∨ n = 1 ∨ n = 2 ∨ n = 3 ∨ n = 4 ∨ n = 5 ∨ n = 6 ∨ n = 7 ∨ n = 8 := by omega
  obtain ⟨t0, t1, t2, t3, t4, t5, t6, t7, t8⟩ := two_vals
  rcases hc with rfl | rfl | rfl | rfl | rfl | rfl | rfl | rfl | rfl
  · rw [t0]; omega
  · rw [t1]; omega
  · rw [t2]; omega
  · rw [t3]; omega
  · rw [t4]; omega
  · rw [t5]; omega
  · rw [t6]; omega
  · rw [t7]; omega
  · rw [t8]; omega
set_option maxHeartbeats 2000000 in
theorem reven_any (page n : Int) (w : World) (h0 : -9223372036854775808 ≤ page) (h1 : page < 9223372036854775808) : Calls Try.prog 15 #[.int .i64 page, .int .i64 n] w fun e w' => e = .returned (.bool (evn page n)) ∧ w = w' := by
  by_cases ho : ord n = true
  · obtain ⟨hs, hr⟩ := siz_range n ho
    have hd : evn page n = (page % siz n == 0) := by unfold evn siz; rw [if_pos ho, ho, Bool.true_and]
    have HD := Lib.hid hd
    clear hd
    go_enter Try.func15, Try.ntmps15
    go_wp2_with (first | (go_at_call 31; refine (size_any _ _).mono ?_; rintro e w1 ⟨rfl, rfl⟩) | (go_at_call 32; refine (rest_any _ _ _ hs hr h0 h1).mono ?_; rintro e w1 ⟨rfl, rfl⟩))
    go_ret
    exact ⟨by rw [HD.out] <;> rfl, rfl⟩
  · have hs : siz n = 0 := by unfold siz; rw [if_neg ho]
    have hd : evn page n = false := by unfold evn; simp [ho]
    rw [hd]
    clear hd
    have HS := Lib.hid hs
    clear hs
    go_enter Try.func15, Try.ntmps15
    go_wp2_with (first | (go_at_call 31; refine (size_any _ _).mono ?_; rintro e w1 ⟨rfl, rfl⟩; rw [HS.out]))
    go_ret
    exact ⟨rfl, rfl⟩
end G
end Go.Proofs.Ytkaglggljomgdaa

/- Parts of the proofs of layer 3 (geo): contracts of its functions, and the laws' walks. -/
import Derived.Test.YtnpcpgjaffpnjaaProg
import Derived.WalkKit
import Derived.WalkSpells
import Derived.WalkLawsBesides
import Derived.BigQuiet
import Derived.Deep.QuietTactic
import Derived.Lib.Hide
import Derived.Deep.RegionHeld3
import Derived.Deep.DeepCutAuto
import Derived.KernelRfl
import Derived.Test.YtnpcpgjaffpnjaaG8
namespace Go.Proofs.Ytnpcpgjaffpnjaa
open Go.RowKit
set_option linter.unusedVariables false
set_option linter.unusedSimpArgs false

theorem pg_digs (p : Int) (h0 : 0 ≤ p) (h1 : p < 4096) : pgv (digs p) = p ∧ pge (digs p) = 0 := by
  unfold digs
  refine (pg_vals _ _ _ _).1 ?_ ?_ ?_ ?_ |>.imp (fun h => h.trans (by omega)) id
  all_goals simp [dok]; omega
set_option maxHeartbeats 1000000 in
theorem back_law (p : Int) (w : World) : Calls Try.prog 4 #[.int .i64 p] w fun e w' => e = .returned (.bool true) ∧ Below w.heap.size w w' := by
  by_cases hp : 0 ≤ p ∧ p < 4096
  · obtain ⟨p0, p1⟩ := hp
    have HP := Lib.hid (pg_digs p p0 p1)
    have hz : ∀ z ∈ digs p, -9223372036854775808 ≤ z ∧ z < 9223372036854775808 := by
      intro z hz
      simp [digs] at hz
      omega
    have HZ := Lib.hid hz
    clear hz
    go_enter Try.func4, Try.ntmps4
    go_wp2_with fail
    refine (digits_any p _ p0 p1).mono ?_
    rintro e w1 ⟨v1, rfl, hv1, hb1⟩
    go_wp2_with fail
    refine (awake_any _).mono ?_
    rintro e w5 ⟨rfl, hb5⟩
    go_wp2_with fail
    refine (page_any (digs p) _ _ (hv1.below hb5) HZ.out).mono ?_
    rintro e w3 ⟨rfl, rfl⟩
    rw [HP.out.1, HP.out.2]
    go_wp2
    go_ret
    exact ⟨rfl, bnext hb1 hb5⟩
  · have hp2 : p < 0 ∨ 4096 ≤ p := by omega
    have HP := Lib.hid hp2
    clear hp hp2
    go_enter Try.func4, Try.ntmps4
    go_wp2_with fail
    refine (digits_no p _ HP.out).mono ?_
    rintro e w1 ⟨rfl, rfl⟩
    go_wp2_with fail
    refine (awake_any _).mono ?_
    rintro e w5 ⟨rfl, hb5⟩
    go_wp2_with fail
    refine (awake_any _).mono ?_
    rintro e w6 ⟨rfl, hb6⟩
    go_wp2
    go_ret
    exact ⟨rfl, bnext hb5 hb6⟩
theorem rgt_ok {at_ n : Int} (h : rgt at_ n 0 = 0) : 1 ≤ at_ ∧ 1 ≤ n ∧ at_ + n ≤ 4096 := by
  unfold rgt at h
  split at h
  · cases h
  · rename_i h1
    simp only [Bool.or_eq_true, not_or] at h1
    have h2 : ¬ n < 1 := by simpa using h1.1.1.2
    split at h
    · cases h
    · omega
set_option maxHeartbeats 1000000 in
theorem cut_no (at_ n most : Int) (w : World) (h : rgt at_ n 0 ≠ 0 ∨ ord most = false) (h0 : -9223372036854775808 ≤ at_ ∧ at_ < 9223372036854775808) (h1 : -9223372036854775808 ≤ n ∧ n < 9223372036854775808) : Calls Try.prog 22 #[.int .i64 at_, .int .i64 n, .int .i64 most] w fun e w' => e = .returned (.slice none 0 0) ∧ w = w' := by
  obtain ⟨p0, p1⟩ := h0
  obtain ⟨q0, q1⟩ := h1
  by_cases hr : rgt at_ n 0 = 0
  · have ho : ord most = false := by rcases h with h | h; exact absurd hr h; exact h
    have k0 : (rgt at_ n 0 != 0) = false := by rw [hr]; rfl
    clear h hr
    go_enter Try.func22, Try.ntmps22
    go_wp2_with (first | (go_at_call 19; refine (right_any _ _ _ _ p0 p1 q0 q1).mono ?_; rintro e w1 ⟨rfl, rfl⟩) | (go_at_call 24; refine (order_any _ _).mono ?_; rintro e w1 ⟨rfl, rfl⟩))
    go_ret
    exact ⟨rfl, rfl⟩
  · have k0 : (rgt at_ n 0 != 0) = true := by rw [bne_iff_ne]; exact hr
    clear h hr
    go_enter Try.func22, Try.ntmps22
    go_wp2_with (first | (go_at_call 19; refine (right_any _ _ _ _ p0 p1 q0 q1).mono ?_; rintro e w1 ⟨rfl, rfl⟩) | (go_at_call 24; refine (order_any _ _).mono ?_; rintro e w1 ⟨rfl, rfl⟩))
    go_ret
    exact ⟨rfl, rfl⟩
theorem siz_no {n : Int} (h : ord n = false) : siz n = 0 := by unfold siz; rw [h]; rfl
set_option maxHeartbeats 1000000 in
theorem rcut_no (at_ n most : Int) (w : World) (h : rgt at_ n 0 ≠ 0 ∨ ord most = false) (h0 : -9223372036854775808 ≤ at_ ∧ at_ < 9223372036854775808) (h1 : -9223372036854775808 ≤ n ∧ n < 9223372036854775808) : Calls Try.prog 23 #[.int .i64 at_, .int .i64 n, .int .i64 most] w fun e w' => e = .returned (.slice none 0 0) ∧ w = w' := by
  obtain ⟨p0, p1⟩ := h0
  obtain ⟨q0, q1⟩ := h1
  by_cases hr : rgt at_ n 0 = 0
  · have ho : ord most = false := by rcases h with h | h; exact absurd hr h; exact h
    have hs := siz_no ho
    have k0 : (rgt at_ n 0 != 0) = false := by rw [hr]; rfl
    clear h hr
    go_enter Try.func23, Try.ntmps23
    go_wp2_with (first | (go_at_call 20; refine (rright_any _ _ _ _ p0 p1 q0 q1).mono ?_; rintro e w1 ⟨rfl, rfl⟩) | (go_at_call 25; refine (size_any _ _).mono ?_; rintro e w1 ⟨rfl, rfl⟩))
    go_ret
    exact ⟨rfl, rfl⟩
  · have k0 : (rgt at_ n 0 != 0) = true := by rw [bne_iff_ne]; exact hr
    clear h hr
    go_enter Try.func23, Try.ntmps23
    go_wp2_with (first | (go_at_call 20; refine (rright_any _ _ _ _ p0 p1 q0 q1).mono ?_; rintro e w1 ⟨rfl, rfl⟩) | (go_at_call 25; refine (size_any _ _).mono ?_; rintro e w1 ⟨rfl, rfl⟩))
    go_ret
    exact ⟨rfl, rfl⟩
set_option maxHeartbeats 1000000 in
theorem cuts_law (at_ n o : Int) (w : World) (h0 : -9223372036854775808 ≤ at_ ∧ at_ < 9223372036854775808) (h1 : -9223372036854775808 ≤ n ∧ n < 9223372036854775808) : Calls Try.prog 6 #[.int .i64 at_, .int .i64 n, .int .i64 o] w fun e w' => e = .returned (.bool true) ∧ Below w.heap.size w w' := by
  have hself : ∀ l : List (Int × Int), (l == l) = true := fun l => by simp
  have HS := Lib.hid hself
  clear hself
  by_cases hg : rgt at_ n 0 = 0 ∧ ord o = true
  · have HR := Lib.hid (rgt_ok hg.1)
    have HG := Lib.hid hg
    clear hg
    go_enter Try.func6, Try.ntmps6
    go_wp2_with fail
    refine (awake_any _).mono ?_
    rintro e w1 ⟨rfl, hb1⟩
    go_wp2_with fail
    refine (cut_any at_ n o _ HG.out.1 HG.out.2 HR.out.1 HR.out.2.1 HR.out.2.2).mono ?_
    rintro e w2 ⟨v2, rfl, hv2, hb2⟩
    go_wp2_with fail
    refine (rcut_any at_ n o _ HG.out.1 HG.out.2 HR.out.1 HR.out.2.1 HR.out.2.2).mono ?_
    rintro e w3 ⟨v3, rfl, hv3, hb3⟩
    go_wp2_with fail
    refine (same_any _ _ _ _ _ (hv2.below hb3) hv3).mono ?_
    rintro e w4 ⟨rfl, k4, rfl⟩
    rw [HS.out]
    go_wp2
    go_ret
    exact ⟨rfl, below_drewN (bnext (bnext hb1 hb2) hb3) k4⟩
  · have hg2 : rgt at_ n 0 ≠ 0 ∨ ord o = false := by
      by_cases h : rgt at_ n 0 = 0
      · exact .inr (by cases h2 : ord o; rfl; exact absurd ⟨h, h2⟩ hg)
      · exact .inl h
    have HG := Lib.hid hg2
    have H0 := Lib.hid h0
    have H1 := Lib.hid h1
    clear hg hg2 h0 h1
    go_enter Try.func6, Try.ntmps6
    go_wp2_with fail
    refine (awake_any _).mono ?_
    rintro e w1 ⟨rfl, hb1⟩
    go_wp2_with fail
    refine (cut_no at_ n o _ HG.out H0.out H1.out).mono ?_
    rintro e w2 ⟨rfl, rfl⟩
    go_wp2_with fail
    refine (rcut_no at_ n o _ HG.out H0.out H1.out).mono ?_
    rintro e w3 ⟨rfl, rfl⟩
    go_wp2_with fail
    refine (same_any [] [] _ _ _ (RV.nil _ _) (RV.nil _ _)).mono ?_
    rintro e w4 ⟨rfl, k4, rfl⟩
    rw [HS.out]
    go_wp2
    go_ret
    exact ⟨rfl, below_drewN hb1 k4⟩
theorem nine {x : Int} (h : 0 ≤ x ∧ x ≤ 8) : x = 0 ∨ x = 1 ∨ x = 2 ∨ x = 3 ∨ x = 4 ∨ x = 5 ∨ x = 6 ∨ x = 7 ∨ x = 8 := by omega
theorem two_mul (x y : Int) (hx : 0 ≤ x) (h : x ≤ y) : ∃ k, 1 ≤ k ∧ two y = two x * k := by
  refine ⟨two (y - x), two_pos _, ?_⟩
  unfold two
  rw [← Int.pow_add, show y.toNat = x.toNat + (y - x).toNat from by omega]
theorem emod_mul' (p a k : Int) (ha : 0 < a) (hk : 0 < k) : p % (a * k) = p % a + a * (p / a % k) := by
  have h1 := Int.emod_add_mul_ediv p a
  have h2 := Int.emod_add_mul_ediv (p / a) k
  have m0 := Int.emod_nonneg p (show a ≠ 0 by omega)
  have m1 := Int.emod_lt_of_pos p ha
  have n0 := Int.emod_nonneg (p / a) (show k ≠ 0 by omega)
  have n1 := Int.emod_lt_of_pos (p / a) hk
  have hp : p = (p % a + a * (p / a % k)) + (a * k) * (p / a / k) := by
    have e : a * (p / a) = a * (p / a % k) + a * k * (p / a / k) := by
      rw [Int.mul_assoc, ← Int.mul_add, h2]
    omega
  have hlt : p % a + a * (p / a % k) < a * k := by
    have e : a * (p / a % k) ≤ a * (k - 1) := Int.mul_le_mul_of_nonneg_left (by omega) (by omega)
    rw [Int.mul_sub, Int.mul_one] at e
    omega
  have hge : 0 ≤ p % a + a * (p / a % k) := by
    have := Int.mul_nonneg (Int.le_of_lt ha) n0
    omega
  have h3 : p % (a * k) = ((p % a + a * (p / a % k)) + (a * k) * (p / a / k)) % (a * k) := by rw [← hp]
  rw [Int.add_mul_emod_self_left, Int.emod_eq_of_lt hge hlt] at h3
  exact h3
theorem dwn_law (p x y : Int) (hx : 0 ≤ x ∧ x ≤ 8) (hy : 0 ≤ y ∧ y ≤ 8) (hxy : x ≤ y) :
    dwn p x ≤ p ∧ p - dwn p x < two x ∧ evn (dwn p x) x = true ∧ dwn (dwn p x) y = dwn p y ∧ dwn p y ≤ dwn p x := by
  have ox : ord x = true := by simp [ord, hx]
  have oy : ord y = true := by simp [ord, hy]
  have t1 := two_pos x
  have t2 := two_pos y
  obtain ⟨k, hk, hm⟩ := two_mul x y hx.1 hxy
  unfold evn dwn
  rw [if_pos ox, if_pos oy, if_pos oy, ox]
  generalize two x = a at *
  rw [hm]
  generalize two y = b at *
  have m0 := Int.emod_nonneg p (show a ≠ 0 by omega)
  have m1 := Int.emod_lt_of_pos p (show 0 < a by omega)
  have hd : p % (a * k) = p % a + a * (p / a % k) := emod_mul' p a k (by omega) (by omega)
  have hq := Int.emod_nonneg (p / a) (show k ≠ 0 by omega)
  have e1 : p - p % a = a * (p / a) := by have := Int.emod_add_mul_ediv p a; omega
  have e2 : (p - p % a) % a = 0 := by rw [e1]; exact Int.mul_emod_right a _
  have e3 : (p - p % a) % (a * k) = a * (p / a % k) := by
    rw [emod_mul' _ a k (by omega) (by omega), e2, e1, Int.mul_ediv_cancel_left _ (show a ≠ 0 by omega)]; omega
  have e4 : 0 ≤ a * (p / a % k) := Int.mul_nonneg (by omega) hq
  refine ⟨by omega, by omega, by rw [e2]; rfl, by rw [e3, hd]; omega, by rw [hd]; omega⟩
set_option maxHeartbeats 2000000 in
theorem down_law (p a b : Int) (w : World) (ha : 0 ≤ a ∧ a ≤ 255) (hb : 0 ≤ b ∧ b ≤ 255) (hp : -9223372036854775808 ≤ p ∧ p < 9223372036854775808) : Calls Try.prog 8 #[.int .i64 p, .int .u8 a, .int .u8 b] w fun e w' => e = .returned (.bool true) ∧ Below w.heap.size w w' := by
  obtain ⟨a0, a1⟩ := ha
  obtain ⟨b0, b1⟩ := hb
  obtain ⟨p0, p1⟩ := hp
  by_cases hc : -4096 ≤ p ∧ p ≤ 8192 ∧ a % 9 ≤ b % 9
  · obtain ⟨c0, c1, c2⟩ := hc
    have HD := dwn_law p (a % 9) (b % 9) (by omega) (by omega) c2
    obtain ⟨d1, d2, d3, d4, d5⟩ := HD
    have H4 := Lib.hid d4
    have hle : two (a % 9) ≤ 256 := by
      have h := siz_range (a % 9) (by simp [ord]; omega)
      unfold siz at h
      rw [if_pos (by simp [ord]; omega)] at h
      exact h.2
    have hlow : -9223372036854775808 ≤ dwn p (a % 9) := by omega
    have htw : wrap64 (2 ^ (a % 9).toNat) = two (a % 9) := by
      rcases nine (x := a % 9) (by omega) with h | h | h | h | h | h | h | h | h <;> (rw [h]; unfold wrap64; rfl)
    clear d4
    go_enter Try.func8, Try.ntmps8
    go_wp2_with fail
    refine (awake_any _).mono ?_
    rintro e w1 ⟨rfl, hb1⟩
    go_wp2_with fail
    refine (down_any p (a % 9) _ p0 p1).mono ?_
    rintro e w2 ⟨rfl, rfl⟩
    go_wp2_with fail
    refine (even_any (dwn p (a % 9)) (a % 9) _ hlow (by omega)).mono ?_
    rintro e w2 ⟨rfl, rfl⟩
    go_wp2_with fail
    refine (down_any (dwn p (a % 9)) (b % 9) _ hlow (by omega)).mono ?_
    rintro e w2 ⟨rfl, rfl⟩
    rw [H4.out]
    go_wp2_with fail
    refine (down_any p (b % 9) _ p0 p1).mono ?_
    rintro e w2 ⟨rfl, rfl⟩
    go_wp2_with fail
    refine (down_any p (b % 9) _ p0 p1).mono ?_
    rintro e w2 ⟨rfl, rfl⟩
    go_wp2
    go_ret
    exact ⟨rfl, hb1⟩
  · have hc2 : p < -4096 ∨ (-4096 ≤ p ∧ 8192 < p) ∨ (-4096 ≤ p ∧ p ≤ 8192 ∧ b % 9 < a % 9) := by omega
    clear hc
    rcases hc2 with hc | hc | hc
    all_goals
      go_enter Try.func8, Try.ntmps8
      go_wp2_with fail
      refine (awake_any _).mono ?_
      rintro e w1 ⟨rfl, hb1⟩
      go_wp2_with (go_at_call 13; refine (awake_any _).mono ?_; rintro e w2 ⟨rfl, hb2⟩)
      go_ret
      exact ⟨rfl, bnext hb1 hb2⟩

end Go.Proofs.Ytnpcpgjaffpnjaa

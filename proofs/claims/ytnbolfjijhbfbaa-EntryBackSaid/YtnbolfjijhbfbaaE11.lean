/- Parts of the proofs of layer 1 (entries): contracts of its functions, and the laws' walks. -/
import Derived.Test.YtnbolfjijhbfbaaProg
import Derived.WalkKit
import Derived.WalkSpells
import Derived.WalkLawsBesides
import Derived.BigQuiet
import Derived.Deep.QuietTactic
import Derived.StillTailTactics
import Derived.Lib.Hide
import Derived.Deep.RegionHeld3
import Derived.Deep.DeepCutAuto
import Derived.KernelRfl
import Derived.Test.YtnbolfjijhbfbaaE10
import Derived.Deep.RegionWith
namespace Go.Proofs.Ytnbolfjijhbfbaa
open Go.RowKit
set_option linter.unusedVariables false
set_option linter.unusedSimpArgs false

def b1 (b : Bool) : Int := if b = true then 1 else 0
theorem b1_bit (b : Bool) : (b1 b == 1) = b := by cases b <;> rfl
theorem b1_range (b : Bool) : 0 ≤ b1 b ∧ b1 b ≤ 1 := by cases b <;> decide
theorem pk_bits (fr : Int) (p wr hu he us di : Bool) : ∃ a0 a1 a5 a6 a7 a9 : Int, a0 = b1 p ∧ a1 = b1 wr ∧ a5 = b1 us ∧ a6 = b1 di ∧ a7 = b1 hu ∧ a9 = b1 he ∧ (0 ≤ a0 ∧ a0 ≤ 1) ∧ (0 ≤ a1 ∧ a1 ≤ 1) ∧ (0 ≤ a5 ∧ a5 ≤ 1) ∧ (0 ≤ a6 ∧ a6 ≤ 1) ∧ (0 ≤ a7 ∧ a7 ≤ 1) ∧ (0 ≤ a9 ∧ a9 ≤ 1) ∧
    pk fr p wr hu he us di = fr * 4096 + 512 * a9 + 128 * a7 + 64 * a6 + 32 * a5 + 2 * a1 + a0 := by
  refine ⟨_, _, _, _, _, _, rfl, rfl, rfl, rfl, rfl, rfl, b1_range p, b1_range wr, b1_range us, b1_range di, b1_range hu, b1_range he, ?_⟩
  have d : ∀ (b : Bool) (y : Int), b2 b y = y * b1 b := fun b y => by cases b <;> simp [b2, b1]
  unfold pk
  simp only [d]
  omega
theorem un_pk (fr : Int) (p wr hu he us di : Bool) : pk fr p wr hu he us di / 4096 = fr ∧ tb (pk fr p wr hu he us di) 0 = p ∧ tb (pk fr p wr hu he us di) 1 = wr ∧ tb (pk fr p wr hu he us di) 7 = hu ∧ tb (pk fr p wr hu he us di) 9 = he ∧ tb (pk fr p wr hu he us di) 5 = us ∧ tb (pk fr p wr hu he us di) 6 = di := by
  obtain ⟨a0, a1, a5, a6, a7, a9, e0, e1, e5, e6, e7, e9, r0, r1, r5, r6, r7, r9, hx⟩ := pk_bits fr p wr hu he us di
  rw [hx]
  refine ⟨by omega, ?_, ?_, ?_, ?_, ?_, ?_⟩
  · rw [← rt0, show (fr * 4096 + 512 * a9 + 128 * a7 + 64 * a6 + 32 * a5 + 2 * a1 + a0) % 2 = a0 from by omega, e0, b1_bit]
  · rw [← rt1, show (fr * 4096 + 512 * a9 + 128 * a7 + 64 * a6 + 32 * a5 + 2 * a1 + a0) % 4096 / 2 % 2 = a1 from by omega, e1, b1_bit]
  · rw [← rt7, show (fr * 4096 + 512 * a9 + 128 * a7 + 64 * a6 + 32 * a5 + 2 * a1 + a0) % 4096 / 128 % 2 = a7 from by omega, e7, b1_bit]
  · rw [← rt9, show (fr * 4096 + 512 * a9 + 128 * a7 + 64 * a6 + 32 * a5 + 2 * a1 + a0) % 4096 / 512 % 2 = a9 from by omega, e9, b1_bit]
  · rw [← rt5, show (fr * 4096 + 512 * a9 + 128 * a7 + 64 * a6 + 32 * a5 + 2 * a1 + a0) % 4096 / 32 % 2 = a5 from by omega, e5, b1_bit]
  · rw [← rt6, show (fr * 4096 + 512 * a9 + 128 * a7 + 64 * a6 + 32 * a5 + 2 * a1 + a0) % 4096 / 64 % 2 = a6 from by omega, e6, b1_bit]
theorem pk_range (fr : Int) (p wr hu he us di : Bool) (h0 : 0 ≤ fr) (h1 : fr < 1048576) : 0 ≤ pk fr p wr hu he us di ∧ pk fr p wr hu he us di < 18446744073709551616 := by
  obtain ⟨a0, a1, a5, a6, a7, a9, e0, e1, e5, e6, e7, e9, r0, r1, r5, r6, r7, r9, hx⟩ := pk_bits fr p wr hu he us di
  omega
theorem unpk_ok (fr : Int) (p wr hu he us di : Bool) (h : chk fr p wr hu he us di = 0) : unok (pk fr p wr hu he us di) = true := by
  obtain ⟨u, u0, u1, u7, u9, u5, u6⟩ := un_pk fr p wr hu he us di
  have hr := chk_range fr p wr hu he us di h
  refine un_ok (by omega) ?_ ?_
  · unfold unc; rw [u, u0, u1, u7, u9, u5, u6]; exact h
  · unfold unw; rw [u, u0, u1, u7, u9, u5, u6]; unfold pkw; rw [if_pos h]
theorem unpk_ent (fr : Int) (p wr hu he us di : Bool) (h : chk fr p wr hu he us di = 0) : unEnt (pk fr p wr hu he us di) = .agg #[.int .i64 fr, .bool p, .bool wr, .bool hu, .bool he, .bool us, .bool di] := by
  obtain ⟨u, u0, u1, u7, u9, u5, u6⟩ := un_pk fr p wr hu he us di
  rw [ent_yes (unpk_ok fr p wr hu he us di h), u, u0, u1, u7, u9, u5, u6]
theorem pk_inj (fr : Int) (p wr hu he us di : Bool) (fr' : Int) (p' wr' hu' he' us' di' : Bool) (h : pk fr p wr hu he us di = pk fr' p' wr' hu' he' us' di') : fr = fr' ∧ p = p' ∧ wr = wr' ∧ hu = hu' ∧ he = he' ∧ us = us' ∧ di = di' := by
  obtain ⟨u, u0, u1, u7, u9, u5, u6⟩ := un_pk fr p wr hu he us di
  obtain ⟨v, v0, v1, v7, v9, v5, v6⟩ := un_pk fr' p' wr' hu' he' us' di'
  rw [h] at u u0 u1 u7 u9 u5 u6
  exact ⟨u.symm.trans v, u0.symm.trans v0, u1.symm.trans v1, u7.symm.trans v7, u9.symm.trans v9, u5.symm.trans v5, u6.symm.trans v6⟩
set_option maxHeartbeats 4000000 in
theorem apart_any (fr : Int) (p wr hu he us di : Bool) (fr' : Int) (p' wr' hu' he' us' di' : Bool) (w : World) : Calls Try.prog 6 #[.agg #[.int .i64 fr, .bool p, .bool wr, .bool hu, .bool he, .bool us, .bool di], .agg #[.int .i64 fr', .bool p', .bool wr', .bool hu', .bool he', .bool us', .bool di']] w fun e w' => e = .returned (.bool true) ∧ Below w.heap.size w w' := by
  by_cases ha : chk fr p wr hu he us di = 0
  · by_cases hb : chk fr' p' wr' hu' he' us' di' = 0
    · by_cases hq : fr = fr' ∧ p = p' ∧ wr = wr' ∧ hu = hu' ∧ he = he' ∧ us = us' ∧ di = di'
      · obtain ⟨rfl, rfl, rfl, rfl, rfl, rfl, rfl⟩ := hq
        have HA := Lib.hid ha
        clear ha hb
        go_enter Try.func6, Try.ntmps6
        go_wp2_with fail
        refine (pack_any fr p wr hu he us di _).mono ?_
        rintro e w1 ⟨rfl, hb1⟩
        have q0 := seven_below (seven_alloc _ (seven_new (t := 23))) hb1
        have q1 := seven_below (seven_new (t := 23)) hb1
        simp only [World.size_alloc] at q1
        rw [HA.out]
        go_wp2_with fail
        refine (pack_any fr p wr hu he us di _).mono ?_
        rintro e w2 ⟨rfl, hb2⟩
        have p0 := seven_below q0 hb2
        have p1 := seven_below q1 hb2
        clear q0 q1
        rw [HA.out]
        go_wp2_with fail
        refine (awake_any _).mono ?_
        rintro e w3 ⟨rfl, hb3⟩
        have r0 := seven_below p0 hb3
        have r1 := seven_below p1 hb3
        clear p0 p1
        go_wp2
        all_goals
          go_ret
          exact ⟨rfl, bnext (bnext (bnextA ((Below.refl _ _).alloc (Nat.le_refl _) _) hb1) hb2) hb3⟩
      · have hne : (pkw fr p wr hu he us di == pkw fr' p' wr' hu' he' us' di') = false := by
          rw [beq_eq_false_iff_ne]
          intro h
          unfold pkw at h
          rw [if_pos ha, if_pos hb] at h
          exact hq (pk_inj _ _ _ _ _ _ _ _ _ _ _ _ _ _ h)
        have HE := Lib.hid hq
        have HA := Lib.hid ha
        have HB := Lib.hid hb
        clear hq ha hb
        go_enter Try.func6, Try.ntmps6
        go_wp2_with fail
        refine (pack_any fr p wr hu he us di _).mono ?_
        rintro e w1 ⟨rfl, hb1⟩
        have q0 := seven_below (seven_alloc _ (seven_new (t := 23))) hb1
        have q1 := seven_below (seven_new (t := 23)) hb1
        simp only [World.size_alloc] at q1
        rw [HA.out]
        go_wp2_with fail
        refine (pack_any fr' p' wr' hu' he' us' di' _).mono ?_
        rintro e w2 ⟨rfl, hb2⟩
        have p0 := seven_below q0 hb2
        have p1 := seven_below q1 hb2
        clear q0 q1
        rw [HB.out]
        go_wp2_with fail
        refine (awake_any _).mono ?_
        rintro e w3 ⟨rfl, hb3⟩
        have r0 := seven_below p0 hb3
        have r1 := seven_below p1 hb3
        clear p0 p1
        go_wp2
        all_goals first | (exact absurd ⟨by assumption, by assumption, by assumption, by assumption, by assumption, by assumption, by assumption⟩ HE.out) | (go_ret; exact ⟨rfl, bnext (bnext (bnextA ((Below.refl _ _).alloc (Nat.le_refl _) _) hb1) hb2) hb3⟩)
    · have k0 : (chk fr' p' wr' hu' he' us' di' != 0) = true := by simpa using hb
      have HA := Lib.hid ha
      clear ha hb
      go_enter Try.func6, Try.ntmps6
      go_wp2_with fail
      refine (pack_any fr p wr hu he us di _).mono ?_
      rintro e w1 ⟨rfl, hb1⟩
      have q0 := seven_below (seven_alloc _ (seven_new (t := 23))) hb1
      have q1 := seven_below (seven_new (t := 23)) hb1
      simp only [World.size_alloc] at q1
      rw [HA.out]
      go_wp2_with fail
      refine (pack_any fr' p' wr' hu' he' us' di' _).mono ?_
      rintro e w2 ⟨rfl, hb2⟩
      have p0 := seven_below q0 hb2
      have p1 := seven_below q1 hb2
      clear q0 q1
      go_wp2_with fail
      refine (awake_any _).mono ?_
      rintro e w3 ⟨rfl, hb3⟩
      have r0 := seven_below p0 hb3
      have r1 := seven_below p1 hb3
      clear p0 p1
      go_wp2
      all_goals
        go_ret
        exact ⟨rfl, bnext (bnext (bnextA ((Below.refl _ _).alloc (Nat.le_refl _) _) hb1) hb2) hb3⟩
  · have k0 : (chk fr p wr hu he us di != 0) = true := by simpa using ha
    clear ha
    go_enter Try.func6, Try.ntmps6
    go_wp2_with fail
    refine (pack_any fr p wr hu he us di _).mono ?_
    rintro e w1 ⟨rfl, hb1⟩
    have q0 := seven_below (seven_alloc _ (seven_new (t := 23))) hb1
    have q1 := seven_below (seven_new (t := 23)) hb1
    simp only [World.size_alloc] at q1
    go_wp2_with fail
    refine (pack_any fr' p' wr' hu' he' us' di' _).mono ?_
    rintro e w2 ⟨rfl, hb2⟩
    have p0 := seven_below q0 hb2
    have p1 := seven_below q1 hb2
    clear q0 q1
    go_wp2_with fail
    refine (awake_any _).mono ?_
    rintro e w3 ⟨rfl, hb3⟩
    have r0 := seven_below p0 hb3
    have r1 := seven_below p1 hb3
    clear p0 p1
    go_wp2
    all_goals
      go_ret
      exact ⟨rfl, bnext (bnext (bnextA ((Below.refl _ _).alloc (Nat.le_refl _) _) hb1) hb2) hb3⟩

end Go.Proofs.Ytnbolfjijhbfbaa

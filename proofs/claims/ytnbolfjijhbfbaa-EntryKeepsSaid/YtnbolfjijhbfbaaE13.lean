/- Parts of the proofs of layer 1 (entries): contracts of its functions, and the laws' walks. -/
import Derived.Test.YtnbolfjijhbfbaaProg
import Derived.WalkKit
import Derived.WalkSpells
import Derived.WalkLawsBesides
import Derived.BigQuiet
import Derived.Deep.QuietTactic
import Derived.StillTailTactics
import Derived.Lib.Hide
import Derived.Deep.RegionHeld3
import Derived.Deep.DeepCutAuto
import Derived.KernelRfl
import Derived.Test.YtnbolfjijhbfbaaE12
namespace Go.Proofs.Ytnbolfjijhbfbaa
open Go.RowKit
set_option linter.unusedVariables false
set_option linter.unusedSimpArgs false

theorem al_ok (fr : Int) (p wr hu he us di : Bool) (prot : Int) (h : alc fr p wr hu he us di prot = 0) : chk fr p wr hu he us di = 0 ∧ (prot = 0 ∧ hu = false ∨ prot = 1 ∨ prot = 3) := by
  unfold alc at h
  by_cases h1 : chk fr p wr hu he us di ≠ 0
  · rw [if_pos h1] at h; exact absurd h h1
  · rw [if_neg h1] at h
    refine ⟨by omega, ?_⟩
    by_cases h2 : prot = 0 ∨ prot = 1 ∨ prot = 3
    · rw [if_neg (by omega)] at h
      rcases h2 with rfl | rfl | rfl
      · by_cases h3 : (p || he) = false
        · simp [h3] at h
        · simp only [h3, if_false] at h
          cases hu
          · exact .inl ⟨rfl, rfl⟩
          · simp at h
      · exact .inr (.inl rfl)
      · exact .inr (.inr rfl)
    · rw [if_pos h2] at h; omega
theorem chk_in {fr : Int} {p wr hu he us di : Bool} (h : chk fr p wr hu he us di = 0) (p' wr' hu' he' us' di' : Bool) (hp : p' = true ∧ he' = false ∨ p' = false ∧ he' = true ∧ hu' = false ∧ wr' = false) : chk fr p' wr' hu' he' us' di' = 0 := by
  obtain ⟨h0, h1⟩ := chk_range fr p wr hu he us di h
  unfold chk
  rw [if_neg (by omega), if_neg (by omega)]
  rcases hp with ⟨rfl, rfl⟩ | ⟨rfl, rfl, rfl, rfl⟩ <;> simp
set_option maxHeartbeats 4000000 in
theorem keeps_any (fr : Int) (p wr hu he us di : Bool) (prot : Int) (w : World) : Calls Try.prog 8 #[.agg #[.int .i64 fr, .bool p, .bool wr, .bool hu, .bool he, .bool us, .bool di], .int .i64 prot] w fun e w' => e = .returned (.bool true) ∧ Below w.heap.size w w' := by
  by_cases hz : alc fr p wr hu he us di prot = 0
  · obtain ⟨hk, hp⟩ := al_ok fr p wr hu he us di prot hz
    rcases hp with ⟨rfl, rfl⟩ | rfl | rfl
    ·
      have HX := Lib.hid (alx_zero fr p wr false he us di hz)
      have HC := Lib.hid (chk_in hk false false false true false false (.inr ⟨rfl, rfl, rfl, rfl⟩))
      have HE := Lib.hid hz
      clear hz hk
      go_enter Try.func8, Try.ntmps8
      go_wp2_with fail
      refine (allow_any fr p wr false he us di _ _).mono ?_
      rintro e w1 ⟨rfl, hb1⟩
      have q0 := seven_below (seven_new (t := 23)) hb1
      rw [HE.out, HX.out]
      have q1 := seven_alloc (.cells #[.int .i64 fr, .bool false, .bool false, .bool false, .bool true, .bool false, .bool false] 23) q0
      have q2 := seven_new (W := w1) (t := 23) (v0 := .int .i64 fr) (v1 := .bool false) (v2 := .bool false) (v3 := .bool false) (v4 := .bool true) (v5 := .bool false) (v6 := .bool false)
      go_wp2_with fail
      refine (awake_any _).mono ?_
      rintro e w2 ⟨rfl, hb2⟩
      have t1 := seven_below q1 hb2
      have t2 := seven_below q2 hb2
      go_wp2_with fail
      refine (prot_any _ _ _ _ _ _ _ _).mono ?_
      rintro e w3 ⟨rfl, hb3⟩
      rw [show prt false false = 0 from rfl]
      have u1 := seven_below t1 hb3
      have u2 := seven_below t2 hb3
      go_wp2_with fail
      all_goals
        refine (check_any _ _ _ _ _ _ _ _).mono ?_
        rintro e w4 ⟨rfl, hb4⟩
        rw [HC.out]
        have v1 := seven_below u1 hb4
        have v2 := seven_below u2 hb4
        go_wp2
        all_goals
          go_ret
          exact ⟨rfl, bnext (bnext (bnextA (bnextA (Below.refl _ _) hb1) hb2) hb3) hb4⟩
    ·
      have HX := Lib.hid (alx_1 fr p wr hu he us di hz)
      have HC := Lib.hid (chk_in hk true false hu false us false (.inl ⟨rfl, rfl⟩))
      have HE := Lib.hid hz
      clear hz hk
      go_enter Try.func8, Try.ntmps8
      go_wp2_with fail
      refine (allow_any fr p wr hu he us di _ _).mono ?_
      rintro e w1 ⟨rfl, hb1⟩
      have q0 := seven_below (seven_new (t := 23)) hb1
      rw [HE.out, HX.out]
      have q1 := seven_alloc (.cells #[.int .i64 fr, .bool true, .bool false, .bool hu, .bool false, .bool us, .bool false] 23) q0
      have q2 := seven_new (W := w1) (t := 23) (v0 := .int .i64 fr) (v1 := .bool true) (v2 := .bool false) (v3 := .bool hu) (v4 := .bool false) (v5 := .bool us) (v6 := .bool false)
      go_wp2_with fail
      refine (awake_any _).mono ?_
      rintro e w2 ⟨rfl, hb2⟩
      have t1 := seven_below q1 hb2
      have t2 := seven_below q2 hb2
      go_wp2_with fail
      refine (prot_any _ _ _ _ _ _ _ _).mono ?_
      rintro e w3 ⟨rfl, hb3⟩
      rw [show prt true false = 1 from rfl]
      have u1 := seven_below t1 hb3
      have u2 := seven_below t2 hb3
      go_wp2_with fail
      all_goals
        refine (check_any _ _ _ _ _ _ _ _).mono ?_
        rintro e w4 ⟨rfl, hb4⟩
        rw [HC.out]
        have v1 := seven_below u1 hb4
        have v2 := seven_below u2 hb4
        go_wp2
        all_goals
          go_ret
          exact ⟨rfl, bnext (bnext (bnextA (bnextA (Below.refl _ _) hb1) hb2) hb3) hb4⟩
    ·
      have HX := Lib.hid (alx_3 fr p wr hu he us di hz)
      have HC := Lib.hid (chk_in hk true true hu false us di (.inl ⟨rfl, rfl⟩))
      have HE := Lib.hid hz
      clear hz hk
      go_enter Try.func8, Try.ntmps8
      go_wp2_with fail
      refine (allow_any fr p wr hu he us di _ _).mono ?_
      rintro e w1 ⟨rfl, hb1⟩
      have q0 := seven_below (seven_new (t := 23)) hb1
      rw [HE.out, HX.out]
      have q1 := seven_alloc (.cells #[.int .i64 fr, .bool true, .bool true, .bool hu, .bool false, .bool us, .bool di] 23) q0
      have q2 := seven_new (W := w1) (t := 23) (v0 := .int .i64 fr) (v1 := .bool true) (v2 := .bool true) (v3 := .bool hu) (v4 := .bool false) (v5 := .bool us) (v6 := .bool di)
      go_wp2_with fail
      refine (awake_any _).mono ?_
      rintro e w2 ⟨rfl, hb2⟩
      have t1 := seven_below q1 hb2
      have t2 := seven_below q2 hb2
      go_wp2_with fail
      refine (prot_any _ _ _ _ _ _ _ _).mono ?_
      rintro e w3 ⟨rfl, hb3⟩
      rw [show prt true true = 3 from rfl]
      have u1 := seven_below t1 hb3
      have u2 := seven_below t2 hb3
      go_wp2_with fail
      all_goals
        refine (check_any _ _ _ _ _ _ _ _).mono ?_
        rintro e w4 ⟨rfl, hb4⟩
        rw [HC.out]
        have v1 := seven_below u1 hb4
        have v2 := seven_below u2 hb4
        go_wp2
        all_goals
          go_ret
          exact ⟨rfl, bnext (bnext (bnextA (bnextA (Below.refl _ _) hb1) hb2) hb3) hb4⟩
  · have HX := Lib.hid (alx_no fr p wr hu he us di prot _ hz rfl)
    have k0 : (alc fr p wr hu he us di prot != 0) = true := by simpa using hz
    clear hz
    go_enter Try.func8, Try.ntmps8
    go_wp2_with fail
    refine (allow_any fr p wr hu he us di _ _).mono ?_
    rintro e w1 ⟨rfl, hb1⟩
    rw [HX.out]
    have q2 := seven_new (W := w1) (t := 23) (v0 := .int .i64 0) (v1 := .bool false) (v2 := .bool false) (v3 := .bool false) (v4 := .bool false) (v5 := .bool false) (v6 := .bool false)
    go_wp2_with fail
    refine (awake_any _).mono ?_
    rintro e w2 ⟨rfl, hb2⟩
    have t2 := seven_below q2 hb2
    go_wp2_with fail
    refine (awake_any _).mono ?_
    rintro e w3 ⟨rfl, hb3⟩
    have u2 := seven_below t2 hb3
    go_wp2
    all_goals
      go_ret
      exact ⟨rfl, bnext (bnextA (bnextA (Below.refl _ _) hb1) hb2) hb3⟩

end Go.Proofs.Ytnbolfjijhbfbaa

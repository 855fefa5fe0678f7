/- Parts of the proofs of layer 1 (entries): contracts of its functions, and the laws' walks. -/
import Derived.Test.YtnbolfjijhbfbaaProg
import Derived.WalkKit
import Derived.WalkSpells
import Derived.WalkLawsBesides
import Derived.BigQuiet
import Derived.Deep.QuietTactic
import Derived.StillTailTactics
import Derived.Lib.Hide
import Derived.Deep.RegionHeld3
import Derived.Deep.DeepCutAuto
import Derived.KernelRfl
import Derived.Test.YtnbolfjijhbfbaaE11
namespace Go.Proofs.Ytnbolfjijhbfbaa
open Go.RowKit
set_option linter.unusedVariables false
set_option linter.unusedSimpArgs false

theorem un_chk {x : Int} (h : unok x = true) : chk (une0 x) (unb x 0) (unb x 1) (unb x 7) (unb x 9) (unb x 5) (unb x 6) = 0 := by
  have e := h
  unfold unok at e
  simp only [Bool.and_eq_true, beq_iff_eq] at e
  have h2 := e.1.2
  unfold unc at h2
  simp only [une0, unb, h, if_true, Bool.true_and]
  exact h2
theorem un_pkw {x : Int} (h : unok x = true) : pkw (une0 x) (unb x 0) (unb x 1) (unb x 7) (unb x 9) (unb x 5) (unb x 6) = x := by
  have e := h
  unfold unok at e
  simp only [Bool.and_eq_true, beq_iff_eq] at e
  have h2 := e.2
  unfold unw at h2
  simp only [une0, unb, h, if_true, Bool.true_and]
  exact h2
set_option maxHeartbeats 4000000 in
theorem back_any (fr : Int) (p wr hu he us di : Bool) (x : Int) (w : World) (hx0 : 0 ≤ x) (hx1 : x < 18446744073709551616) : Calls Try.prog 5 #[.agg #[.int .i64 fr, .bool p, .bool wr, .bool hu, .bool he, .bool us, .bool di], .int .u64 x] w fun e w' => e = .returned (.bool true) ∧ Below w.heap.size w w' := by
  have HU : unEnt x = .agg #[.int .i64 (une0 x), .bool (unb x 0), .bool (unb x 1), .bool (unb x 7), .bool (unb x 9), .bool (unb x 5), .bool (unb x 6)] := rfl
  by_cases hk : chk fr p wr hu he us di = 0
  · have HV := unpk_ent fr p wr hu he us di hk
    have HW := une_yes (unpk_ok fr p wr hu he us di hk)
    have HP : pkw fr p wr hu he us di = pk fr p wr hu he us di := by unfold pkw; rw [if_pos hk]
    obtain ⟨hr0, hr1⟩ := pk_range fr p wr hu he us di (chk_range fr p wr hu he us di hk).1 (chk_range fr p wr hu he us di hk).2
    cases ho : unok x
    all_goals
      have HN : une x = if unok x = true then 0 else 5 := rfl
      rw [ho] at HN
      have HK := Lib.hid hk
      have HO := Lib.hid ho
      have HVV := Lib.hid HV
      have HWW := Lib.hid HW
      have HPP := Lib.hid HP
      have HUU := Lib.hid HU
      have HNN := Lib.hid HN
      clear hk ho HV HW HP HU HN
      go_enter Try.func5, Try.ntmps5
      go_wp2_with fail
      refine (pack_any fr p wr hu he us di _).mono ?_
      rintro e w1 ⟨rfl, hb1⟩
      have q0 := seven_below (seven_new (t := 23)) hb1
      rw [HK.out, HPP.out]
      go_wp2_with fail
      refine (unpack_any _ _ hr0 hr1).mono ?_
      rintro e w2 ⟨rfl, hb2⟩
      have q1 := seven_below q0 hb2
      rw [HWW.out, HVV.out]
      have z1 : w.heap.size ≠ w2.heap.size := by have h1 := hb1.size; have h2 := hb2.size; simp at h1; omega
      have q2 := seven_alloc (.cells #[.int .i64 fr, .bool p, .bool wr, .bool hu, .bool he, .bool us, .bool di] 23) q1
      go_wp2_with fail
      refine (unpack_any x _ hx0 hx1).mono ?_
      rintro e w3 ⟨rfl, hb3⟩
      rw [HUU.out, HNN.out]
      go_wp2_with fail
      refine (pack_any (une0 x) (unb x 0) (unb x 1) (unb x 7) (unb x 9) (unb x 5) (unb x 6) _).mono ?_
      rintro e w4 ⟨rfl, hb4⟩
      try rw [un_chk HO.out, un_pkw HO.out]
      go_wp2_with fail
      refine (awake_any _).mono ?_
      rintro e w5 ⟨rfl, hb5⟩
      go_wp2
      all_goals
        go_ret
        exact ⟨rfl, bnext (bnextA (bnextA (bnext (bnextA (Below.refl _ _) hb1) hb2) hb3) hb4) hb5⟩
  · have k0 : (chk fr p wr hu he us di == 0) = false := by simpa using hk
    clear hk
    cases ho : unok x
    all_goals
      have HN : une x = if unok x = true then 0 else 5 := rfl
      rw [ho] at HN
      have HO := Lib.hid ho
      have HUU := Lib.hid HU
      have HNN := Lib.hid HN
      clear ho HU HN
      go_enter Try.func5, Try.ntmps5
      go_wp2_with fail
      refine (pack_any fr p wr hu he us di _).mono ?_
      rintro e w1 ⟨rfl, hb1⟩
      go_wp2_with fail
      refine (unpack_any x _ hx0 hx1).mono ?_
      rintro e w3 ⟨rfl, hb3⟩
      rw [HUU.out, HNN.out]
      go_wp2_with fail
      refine (pack_any (une0 x) (unb x 0) (unb x 1) (unb x 7) (unb x 9) (unb x 5) (unb x 6) _).mono ?_
      rintro e w4 ⟨rfl, hb4⟩
      try rw [un_chk HO.out, un_pkw HO.out]
      go_wp2_with fail
      refine (awake_any _).mono ?_
      rintro e w5 ⟨rfl, hb5⟩
      go_wp2
      all_goals
        go_ret
        exact ⟨rfl, bnext (bnextA (bnext (bnextA (Below.refl _ _) hb1) hb3) hb4) hb5⟩

end Go.Proofs.Ytnbolfjijhbfbaa

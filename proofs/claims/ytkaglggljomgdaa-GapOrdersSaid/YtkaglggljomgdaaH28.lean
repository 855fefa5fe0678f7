/- Parts of the proofs of layer 18 (gap): contracts of its functions, and the laws' walks. -/
import Derived.Test.YtkaglggljomgdaaProg
import Derived.WalkKit
import Derived.WalkSpells
import Derived.WalkLawsBesides
import Derived.BigQuiet
import Derived.Deep.QuietTactic
import Derived.Lib.Hide
import Derived.Deep.RegionHeld3
import Derived.Deep.DeepCutAuto
import Derived.KernelRfl
import Derived.Deep.OwnRows
import Derived.Laws.CopyOwn
import Derived.Laws.CopyRow
import Derived.StillTailTactics
import Derived.Deep.RegionLaw
import Derived.Test.YtkaglggljomgdaaH27
import Derived.OwnWalk
namespace Go.Proofs.Ytkaglggljomgdaa
open Go.RowKit
set_option linter.unusedVariables false
set_option linter.unusedSimpArgs false

set_option maxRecDepth 100000 in
set_option maxHeartbeats 8000000 in
theorem balanced_law (ao : Option Addr) (len cap : Nat) (z : Nat → Nat → Int) (w : World) (hlc : len ≤ cap) (hcm : cap ≤ maxLen) (hA : Acts w ao len z) : Calls Try.prog 5 #[.slice ao len cap] w fun e w' => e = .returned (.bool true) ∧ Below w.heap.size w w' := by
  have HM0 := Lib.hid (made_any ao len cap z w hlc hcm hA)
  clear hA
  go_enter Try.func5, Try.ntmps5
  go_wp2_with fail
  refine HM0.out.mono ?_
  rintro e w1 ⟨g, g2, F1, F2, L, rfl, hm1, hb1⟩
  have HK := Lib.hid hm1.2
  have HB1 := Lib.hid hb1
  have HM1 := Lib.hid hm1.1
  clear hm1 hb1 HM0
  go_wp2_with fail
  refine (awake_any w1).mono ?_
  rintro e w2 ⟨rfl, hb2⟩
  have HM2 := Lib.hid (HM1.out.below hb2)
  have HB2 := Lib.hid (HB1.out.trans (hb2.mono HB1.out.size))
  have HRG := Lib.hid HM2.out.1.rg
  have HLN := Lib.hid (show L.length ≤ 5000 from by have := HM2.out.len; omega)
  clear hb2 HM1 HB1
  go_wp2_with fail
  refine (Height_any g F1 L w2 HM2.out.1).mono ?_
  rintro e w3 ⟨t, hA, ht, rfl, rfl⟩
  obtain ⟨h, hh⟩ := Int.eq_ofNat_of_zero_le (ht_nonneg t)
  have hav := avl_height hA ht HM2.out.len hh
  rw [hh]
  have HAV := Lib.hid hav
  have hh16 := hav.1
  clear hh hA ht hav
  obtain ⟨aL, cL, kL, _⟩ := HM2.out.2.1.cells
  go_wp2_with fail
  go_loopw [7, 8, 9] (fun a b s wr => ∃ i : Nat, i ≤ h ∧ s = .int .i64 (i : Nat) ∧ a = .int .i64 (fN i) ∧ b = .int .i64 (fN (i + 1)) ∧ wr = w2) (fun _ _ s _ => 20 - (intOf s).toNat)
  case atStart => exact ⟨0, Nat.zero_le _, rfl, rfl, rfl, rfl⟩
  case round =>
    obtain ⟨i, hi, rfl, rfl, rfl, rfl⟩ := hrel
    have hb := fN_small i (by omega)
    have hn := fN_nonneg i
    by_cases hih : i < h
    · have hiI : ((i : Nat) : Int) < ((h : Nat) : Int) := by omega
      have hstep : fN i + fN (i + 1) + 1 = fN (i + 1 + 1) := by rw [fN]
      have HST := Lib.hid hstep
      obtain ⟨f1, E1⟩ : ∃ f1, f1 = fN (i + 1) := ⟨_, rfl⟩
      obtain ⟨f0, E0⟩ : ∃ f0, f0 = fN i := ⟨_, rfl⟩
      have hb' : f0 ≤ 20000 ∧ f1 ≤ 40000 := by rw [E0, E1]; exact hb
      have hn' : 0 ≤ f0 ∧ 0 ≤ f1 := by rw [E0, E1]; exact hn
      rw [← E0, ← E1] at HST
      rw [← E0, ← E1]
      have HE1 := Lib.hid E1
      clear hstep E0 E1 hb hn
      go_wp2_with fail
      exact ⟨⟨i + 1, hih, by simp, by rw [HE1.out], by rw [HST.out], (by first | rfl | trivial)⟩, by simp [intOf]; omega⟩
    · obtain rfl : i = h := by omega
      have HF := Lib.hid (show fN i ≤ (L.length : Nat) from HAV.out.2.1)
      generalize fN (i + 1) = f1 at *
      generalize fN i = f0 at *
      clear hn hb
      go_wp2_with fail
      go_loopw [10, 11] (fun n s wx => ∃ (k m : Nat), k ≤ 20 ∧ s = .int .i64 (k : Nat) ∧ n = .int .i64 (k : Nat) ∧ wx = wr.drewN m ∧ RowKit.Hid (k = 0 ∨ ∃ j, k = j + 1 ∧ (2 : Int) ^ j - 1 < (L.length : Nat))) (fun _ s _ => 20 - (intOf s).toNat)
      case atStart => exact ⟨0, 0, Nat.zero_le _, rfl, rfl, rfl, Lib.hid (.inl rfl)⟩
      case round =>
        obtain ⟨k, m, hk, rfl, rfl, rfl, HR⟩ := hrel
        have hpw := pow_small20 k (by omega)
        obtain ⟨P, hP⟩ : ∃ P, (2 : Int) ^ k = P := ⟨_, rfl⟩
        have hPw : wrap64 (2 ^ k) = P := by rw [hP]; unfold wrap64; rw [hP] at hpw; omega
        have hPw2 : wrap64 (P - 1) = P - 1 := by unfold wrap64; rw [hP] at hpw; omega
        rw [hP] at hpw
        have HP := Lib.hid hP
        clear hP
        by_cases hk20 : k < 20
        · have hkI : ((k : Nat) : Int) < 20 := by omega
          by_cases hlt : P - 1 < (L.length : Nat)
          · have HR2 : RowKit.Hid (k + 1 = 0 ∨ ∃ j, k + 1 = j + 1 ∧ (2 : Int) ^ j - 1 < (L.length : Nat)) := Lib.hid (.inr ⟨k, rfl, by rw [HP.out]; exact hlt⟩)
            go_upto_region 12 with fail
            go_quiet (fail)
            go_wp2_with fail
            exact ⟨⟨k + 1, m + nq, by omega, by simp, by simp, by first | rfl | rw [World.drewN_drewN], HR2⟩, by simp [intOf]; omega⟩
          · have HN := Lib.hid (show ((k : Nat) : Int) ≤ ((i : Nat) : Int) from by
              rcases HR.out with e | ⟨j, e, hj⟩
              · omega
              · have := pow_lt_of hj HAV.out.2.2
                omega)
            have hki := HN.out
            have hfl := HF.out
            have hi20 : ((i : Nat) : Int) < 20 := by omega
            go_upto_region 12 with fail
            go_quiet (fail)
            go_wp2_with fail
            go_ret
            exact ⟨rfl, by first | exact below_drewN (below_drewN HB2.out _) _ | exact below_drewN HB2.out _⟩
        · have HN := Lib.hid (show ((k : Nat) : Int) ≤ ((i : Nat) : Int) from by
            rcases HR.out with e | ⟨j, e, hj⟩
            · omega
            · have := pow_lt_of hj HAV.out.2.2
              omega)
          have hki := HN.out
          omega

end Go.Proofs.Ytkaglggljomgdaa

/- Parts of the proofs of layer 6 (pick): contracts of its functions, and the laws' walks. -/
import Derived.Test.YtekkblhghbkdiaaProg
import Derived.WalkKit
import Derived.WalkSpells
import Derived.WalkLawsBesides
import Derived.BigQuiet
import Derived.Deep.QuietTactic
import Derived.Lib.Hide
import Derived.Deep.RegionHeld3
import Derived.Deep.DeepCutAuto
import Derived.KernelRfl
import Derived.Deep.OwnRows
import Derived.Laws.CopyOwn
import Derived.Laws.CopyRow
import Derived.StillTailTactics
import Derived.Deep.RegionLaw
import Derived.Test.YtekkblhghbkdiaaP8
namespace Go.Proofs.Ytekkblhghbkdiaa
open Go.RowKit
set_option linter.unusedVariables false
set_option linter.unusedSimpArgs false
set_option maxHeartbeats 4000000 in
theorem down_any (p : Nat) (F : List Nat) (L : List E) (i0 n : Nat) (w : World) (h : Pk w p F L) (hi0 : i0 < n) (hn : n ≤ L.length) :
    Calls Try.prog 26 #[hv p, .int .i64 (i0 : Nat), .int .i64 (n : Nat)] w fun e w' => e = .returned (.bool (decide (i0 < (dn n L i0).2))) ∧ Chg F F w w' ∧ Pk w' p F (dn n L i0).1 := by
  have HI := Lib.hid h
  have hm := h.2.2
  clear h
  go_enter Try.func26, Try.ntmps26
  go_wp2_with fail
  go_loopw [7] (fun s wr => ∃ (i : Nat) (L1 : List E), i < n ∧ L1.length = L.length ∧ s = .int .i64 (i : Nat) ∧ RowKit.Hid (Pk wr p F L1 ∧ Chg F F w wr ∧ dn n L1 i = dn n L i0)) (fun s _ => n - (intOf s).toNat)
  case atStart => exact ⟨i0, L, hi0, rfl, rfl, Lib.hid ⟨HI.out, Chg.refl _ _, rfl⟩⟩
  case round =>
    obtain ⟨i, L1, hi, hlen, rfl, HL⟩ := hrel
    have hw0 : IntKind.i64.wrap (2 * ((i : Nat) : Int)) = 2 * ((i : Nat) : Int) := by rw [IntKind.wrap_i64]; omega
    have hw1 : IntKind.i64.wrap (2 * ((i : Nat) : Int) + 1) = ((2 * i + 1 : Nat) : Int) := by rw [IntKind.wrap_i64]; omega
    have hw2 : IntKind.i64.wrap (((2 * i + 1 : Nat) : Int) + 1) = ((2 * i + 1 + 1 : Nat) : Int) := by rw [IntKind.wrap_i64]; omega
    have hnng : ¬ (((2 * i + 1 : Nat) : Int) < 0) := by omega
    by_cases hst : n ≤ 2 * i + 1
    · have hg1 : ((n : Nat) : Int) ≤ ((2 * i + 1 : Nat) : Int) := by omega
      have HP2 := Lib.hid HL.out.1
      have HC2 := Lib.hid HL.out.2.1
      have HE := Lib.hid (show dn n L i0 = (L1, i) from by rw [← HL.out.2.2]; exact dn_stop hst)
      go_wp2_with fail
      go_ret
      rw [HE.out]
      exact ⟨by simp [gt_iff_lt], HC2.out, HP2.out⟩
    · have HN := Lib.hid hst
      have hg1 : ¬ (((n : Nat) : Int) ≤ ((2 * i + 1 : Nat) : Int)) := by omega
      have hg1b : ((2 * i + 1 : Nat) : Int) < ((n : Nat) : Int) := by omega
      by_cases h2 : 2 * i + 1 + 1 < n
      · have hg2 : ((2 * i + 1 + 1 : Nat) : Int) < ((n : Nat) : Int) := by omega
        have HA := Lib.hid (Less_any p F L1 (2 * i + 1 + 1) (2 * i + 1) wr HL.out.1 (by omega) (by omega))
        by_cases hl1 : lt (g L1 (2 * i + 1 + 1)) (g L1 (2 * i + 1))
        · rw [decide_eq_true hl1] at HA
          have HKD := Lib.hid (show kid n L1 i = 2 * i + 1 + 1 from if_pos ⟨h2, hl1⟩)
          have hkn : 2 * i + 1 + 1 < n := h2
          clear hl1
          go_wp2_with fail
          refine HA.out.mono ?_
          rintro e w1 ⟨rfl, hb1⟩
          have HPb := Lib.hid (HL.out.1.below hb1)
          have HCb := Lib.hid (HL.out.2.1.trans (Chg.of_below hb1))
          have HA2 := Lib.hid (Less_any p F L1 (2 * i + 1 + 1) i w1 HPb.out (by omega) (by omega))
          by_cases hlt : lt (g L1 ((2 * i + 1 + 1))) (g L1 i)
          · rw [decide_eq_true hlt] at HA2
            have HLT := Lib.hid hlt
            clear hlt
            go_wp2_with fail
            refine HA2.out.mono ?_
            rintro e w2 ⟨rfl, hb2⟩
            have HP2 := Lib.hid (HPb.out.below hb2)
            have HS := Lib.hid (Swap_any p F L1 i (2 * i + 1 + 1) w2 HP2.out (by omega) (by omega) (by omega))
            have HC2 := Lib.hid (HCb.out.trans (Chg.of_below hb2))
            go_wp2_with fail
            refine HS.out.mono ?_
            rintro e w3 ⟨rfl, hc3, hk3⟩
            have HK3 := Lib.hid (And.intro hc3 hk3)
            clear hc3 hk3
            go_wp2_with fail
            refine ⟨⟨(2 * i + 1 + 1), swp L1 i (2 * i + 1 + 1), hkn, by rw [swp_length]; exact hlen, by simp [hw2], Lib.hid ⟨HK3.out.2, HC2.out.trans HK3.out.1, ?_⟩⟩, by simp [intOf, hw2]; omega⟩
            have := HL.out.2.2
            rw [dn_move HN.out (by rw [HKD.out]; exact HLT.out), HKD.out] at this
            exact this
          · rw [decide_eq_false hlt] at HA2
            have HLT := Lib.hid hlt
            clear hlt
            go_wp2_with fail
            refine HA2.out.mono ?_
            rintro e w2 ⟨rfl, hb2⟩
            have HP2 := Lib.hid (HPb.out.below hb2)
            have HC2 := Lib.hid (HCb.out.trans (Chg.of_below hb2))
            have HE := Lib.hid (show dn n L i0 = (L1, i) from by rw [← HL.out.2.2]; exact dn_rest HN.out (by rw [HKD.out]; exact HLT.out))
            go_wp2_with fail
            go_ret
            rw [HE.out]
            exact ⟨by simp [gt_iff_lt], HC2.out, HP2.out⟩
        · rw [decide_eq_false hl1] at HA
          have HKD := Lib.hid (show kid n L1 i = 2 * i + 1 from if_neg (fun h => hl1 h.2))
          have hkn : 2 * i + 1 < n := by omega
          clear hl1
          go_wp2_with fail
          refine HA.out.mono ?_
          rintro e w1 ⟨rfl, hb1⟩
          have HPb := Lib.hid (HL.out.1.below hb1)
          have HCb := Lib.hid (HL.out.2.1.trans (Chg.of_below hb1))
          have HA2 := Lib.hid (Less_any p F L1 (2 * i + 1) i w1 HPb.out (by omega) (by omega))
          by_cases hlt : lt (g L1 ((2 * i + 1))) (g L1 i)
          · rw [decide_eq_true hlt] at HA2
            have HLT := Lib.hid hlt
            clear hlt
            go_wp2_with fail
            refine HA2.out.mono ?_
            rintro e w2 ⟨rfl, hb2⟩
            have HP2 := Lib.hid (HPb.out.below hb2)
            have HS := Lib.hid (Swap_any p F L1 i (2 * i + 1) w2 HP2.out (by omega) (by omega) (by omega))
            have HC2 := Lib.hid (HCb.out.trans (Chg.of_below hb2))
            go_wp2_with fail
            refine HS.out.mono ?_
            rintro e w3 ⟨rfl, hc3, hk3⟩
            have HK3 := Lib.hid (And.intro hc3 hk3)
            clear hc3 hk3
            go_wp2_with fail
            refine ⟨⟨(2 * i + 1), swp L1 i (2 * i + 1), hkn, by rw [swp_length]; exact hlen, by simp [hw1], Lib.hid ⟨HK3.out.2, HC2.out.trans HK3.out.1, ?_⟩⟩, by simp [intOf, hw1]; omega⟩
            have := HL.out.2.2
            rw [dn_move HN.out (by rw [HKD.out]; exact HLT.out), HKD.out] at this
            exact this
          · rw [decide_eq_false hlt] at HA2
            have HLT := Lib.hid hlt
            clear hlt
            go_wp2_with fail
            refine HA2.out.mono ?_
            rintro e w2 ⟨rfl, hb2⟩
            have HP2 := Lib.hid (HPb.out.below hb2)
            have HC2 := Lib.hid (HCb.out.trans (Chg.of_below hb2))
            have HE := Lib.hid (show dn n L i0 = (L1, i) from by rw [← HL.out.2.2]; exact dn_rest HN.out (by rw [HKD.out]; exact HLT.out))
            go_wp2_with fail
            go_ret
            rw [HE.out]
            exact ⟨by simp [gt_iff_lt], HC2.out, HP2.out⟩
      · have hg2 : ¬ (((2 * i + 1 + 1 : Nat) : Int) < ((n : Nat) : Int)) := by omega
        have HKD := Lib.hid (show kid n L1 i = 2 * i + 1 from if_neg (fun h => h2 h.1))
        have hkn : 2 * i + 1 < n := by omega
        have HPb := Lib.hid HL.out.1
        have HCb := Lib.hid HL.out.2.1
        have HA2 := Lib.hid (Less_any p F L1 (2 * i + 1) i wr HPb.out (by omega) (by omega))
        by_cases hlt : lt (g L1 ((2 * i + 1))) (g L1 i)
        · rw [decide_eq_true hlt] at HA2
          have HLT := Lib.hid hlt
          clear hlt
          go_wp2_with fail
          refine HA2.out.mono ?_
          rintro e w2 ⟨rfl, hb2⟩
          have HP2 := Lib.hid (HPb.out.below hb2)
          have HS := Lib.hid (Swap_any p F L1 i (2 * i + 1) w2 HP2.out (by omega) (by omega) (by omega))
          have HC2 := Lib.hid (HCb.out.trans (Chg.of_below hb2))
          go_wp2_with fail
          refine HS.out.mono ?_
          rintro e w3 ⟨rfl, hc3, hk3⟩
          have HK3 := Lib.hid (And.intro hc3 hk3)
          clear hc3 hk3
          go_wp2_with fail
          refine ⟨⟨(2 * i + 1), swp L1 i (2 * i + 1), hkn, by rw [swp_length]; exact hlen, by simp [hw1], Lib.hid ⟨HK3.out.2, HC2.out.trans HK3.out.1, ?_⟩⟩, by simp [intOf, hw1]; omega⟩
          have := HL.out.2.2
          rw [dn_move HN.out (by rw [HKD.out]; exact HLT.out), HKD.out] at this
          exact this
        · rw [decide_eq_false hlt] at HA2
          have HLT := Lib.hid hlt
          clear hlt
          go_wp2_with fail
          refine HA2.out.mono ?_
          rintro e w2 ⟨rfl, hb2⟩
          have HP2 := Lib.hid (HPb.out.below hb2)
          have HC2 := Lib.hid (HCb.out.trans (Chg.of_below hb2))
          have HE := Lib.hid (show dn n L i0 = (L1, i) from by rw [← HL.out.2.2]; exact dn_rest HN.out (by rw [HKD.out]; exact HLT.out))
          go_wp2_with fail
          go_ret
          rw [HE.out]
          exact ⟨by simp [gt_iff_lt], HC2.out, HP2.out⟩

end Go.Proofs.Ytekkblhghbkdiaa

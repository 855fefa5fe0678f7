/- Parts of the proofs of layer 1 (entries): contracts of its functions, and the laws' walks. -/
import Derived.Test.YtnbolfjijhbfbaaProg
import Derived.WalkKit
import Derived.WalkSpells
import Derived.WalkLawsBesides
import Derived.BigQuiet
import Derived.Deep.QuietTactic
import Derived.StillTailTactics
import Derived.Lib.Hide
import Derived.Deep.RegionHeld3
import Derived.Deep.DeepCutAuto
import Derived.KernelRfl
import Derived.Test.YtnbolfjijhbfbaaE7D
namespace Go.Proofs.Ytnbolfjijhbfbaa
open Go.RowKit
set_option linter.unusedVariables false
set_option linter.unusedSimpArgs false

set_option maxHeartbeats 4000000 in
theorem rallow_any (fr : Int) (p wr hu he us di : Bool) (prot : Int) (w : World) :
    Calls Try.prog 17 #[.agg #[.int .i64 fr, .bool p, .bool wr, .bool hu, .bool he, .bool us, .bool di], .int .i64 prot] w fun e w' => e = .returned (.tuple #[alx fr p wr hu he us di prot, .int .i64 (alc fr p wr hu he us di prot)]) ∧ Below w.heap.size w w' := by
  by_cases hc : chk fr p wr hu he us di = 0
  · have HC := Lib.hid hc
    by_cases hp : prot = 0 ∨ prot = 1 ∨ prot = 3
    · cases p
      · cases he
        · obtain ⟨rfl, rfl, rfl, rfl, rfl⟩ := chk_zero hc
          have HX := Lib.hid (alx_no 0 false false false false false false prot 6 (by omega) (al_none prot hp))
          have HE := Lib.hid (al_none prot hp)
          clear hc
          rcases hp with rfl | rfl | rfl
          ·
            go_enter Try.func17, Try.ntmps17
            go_wp2_with (go_at_call 13; refine (rcheck_any _ _ _ _ _ _ _ _).mono ?_; rintro e w2 ⟨rfl, hb⟩; have hcc := bcell hb; obtain ⟨hcc, hff⟩ := hcc; have hl : w.heap.size < w.heap.size + 1 + 1 := (by omega); have hz : w.heap.size + 1 < w2.heap.size := (by have := hb.size; simp at this; omega); (try rw [HC.out]))
            all_goals
              have y1 : Below w.heap.size w w2 := (((Below.refl _ _).alloc (Nat.le_refl _) _).alloc (by simp) _).trans (hb.mono (by simp <;> omega))
              refine bodyPost_ret (v := .tuple #[.agg #[.int .i64 0, .bool false, .bool false, .bool false, .bool false, .bool false, .bool false], .int .i64 6]) (by simp [results, Try.results17, go_sem, hcc, hz, hl] <;> first | assumption | exact Bool.eq_false_iff.mpr (by assumption)) rfl ⟨by rw [HX.out, HE.out], by ((repeat (with_reducible refine Below.setCell ?_ (by simp) _)); with_reducible exact y1)⟩
          ·
            go_enter Try.func17, Try.ntmps17
            go_wp2_with (go_at_call 13; refine (rcheck_any _ _ _ _ _ _ _ _).mono ?_; rintro e w2 ⟨rfl, hb⟩; have hcc := bcell hb; obtain ⟨hcc, hff⟩ := hcc; have hl : w.heap.size < w.heap.size + 1 + 1 := (by omega); have hz : w.heap.size + 1 < w2.heap.size := (by have := hb.size; simp at this; omega); (try rw [HC.out]))
            all_goals
              have y1 : Below w.heap.size w w2 := (((Below.refl _ _).alloc (Nat.le_refl _) _).alloc (by simp) _).trans (hb.mono (by simp <;> omega))
              refine bodyPost_ret (v := .tuple #[.agg #[.int .i64 0, .bool false, .bool false, .bool false, .bool false, .bool false, .bool false], .int .i64 6]) (by simp [results, Try.results17, go_sem, hcc, hz, hl] <;> first | assumption | exact Bool.eq_false_iff.mpr (by assumption)) rfl ⟨by rw [HX.out, HE.out], by ((repeat (with_reducible refine Below.setCell ?_ (by simp) _)); with_reducible exact y1)⟩
          ·
            go_enter Try.func17, Try.ntmps17
            go_wp2_with (go_at_call 13; refine (rcheck_any _ _ _ _ _ _ _ _).mono ?_; rintro e w2 ⟨rfl, hb⟩; have hcc := bcell hb; obtain ⟨hcc, hff⟩ := hcc; have hl : w.heap.size < w.heap.size + 1 + 1 := (by omega); have hz : w.heap.size + 1 < w2.heap.size := (by have := hb.size; simp at this; omega); (try rw [HC.out]))
            all_goals
              have y1 : Below w.heap.size w w2 := (((Below.refl _ _).alloc (Nat.le_refl _) _).alloc (by simp) _).trans (hb.mono (by simp <;> omega))
              refine bodyPost_ret (v := .tuple #[.agg #[.int .i64 0, .bool false, .bool false, .bool false, .bool false, .bool false, .bool false], .int .i64 6]) (by simp [results, Try.results17, go_sem, hcc, hz, hl] <;> first | assumption | exact Bool.eq_false_iff.mpr (by assumption)) rfl ⟨by rw [HX.out, HE.out], by ((repeat (with_reducible refine Below.setCell ?_ (by simp) _)); with_reducible exact y1)⟩
        ·
          cases hu
          · rcases hp with rfl | rfl | rfl
            ·
              have HE := Lib.hid (al_zero fr false wr true us di hc (by simp))
              have HX := Lib.hid (alx_zero fr false wr false true us di HE.out)
              clear hc
              go_enter Try.func17, Try.ntmps17
              go_wp2_with (go_at_call 13; refine (rcheck_any _ _ _ _ _ _ _ _).mono ?_; rintro e w2 ⟨rfl, hb⟩; have hcc := bcell hb; obtain ⟨hcc, hff⟩ := hcc; have hl : w.heap.size < w.heap.size + 1 + 1 := (by omega); have hz : w.heap.size + 1 < w2.heap.size := (by have := hb.size; simp at this; omega); (try rw [HC.out]))
              all_goals
                have y1 : Below w.heap.size w w2 := (((Below.refl _ _).alloc (Nat.le_refl _) _).alloc (by simp) _).trans (hb.mono (by simp <;> omega))
                refine bodyPost_ret (v := .tuple #[.agg #[.int .i64 fr, .bool false, .bool false, .bool false, .bool true, .bool false, .bool false], .int .i64 0]) (by simp [results, Try.results17, go_sem, hcc, hz, hl] <;> first | assumption | exact Bool.eq_false_iff.mpr (by assumption)) rfl ⟨by rw [HX.out, HE.out], by ((repeat (with_reducible refine Below.setCell ?_ (by simp) _)); with_reducible exact y1)⟩
            ·
              have HE := Lib.hid (al_some fr false wr false true us di 1 hc (by simp) (by omega))
              have HX := Lib.hid (alx_1 fr false wr false true us di HE.out)
              clear hc
              go_enter Try.func17, Try.ntmps17
              go_wp2_with (go_at_call 13; refine (rcheck_any _ _ _ _ _ _ _ _).mono ?_; rintro e w2 ⟨rfl, hb⟩; have hcc := bcell hb; obtain ⟨hcc, hff⟩ := hcc; have hl : w.heap.size < w.heap.size + 1 + 1 := (by omega); have hz : w.heap.size + 1 < w2.heap.size := (by have := hb.size; simp at this; omega); (try rw [HC.out]))
              all_goals
                have y1 : Below w.heap.size w w2 := (((Below.refl _ _).alloc (Nat.le_refl _) _).alloc (by simp) _).trans (hb.mono (by simp <;> omega))
                refine bodyPost_ret (v := .tuple #[.agg #[.int .i64 fr, .bool true, .bool false, .bool false, .bool false, .bool us, .bool false], .int .i64 0]) (by simp [results, Try.results17, go_sem, hcc, hz, hl] <;> first | assumption | exact Bool.eq_false_iff.mpr (by assumption)) rfl ⟨by rw [HX.out, HE.out], by ((repeat (with_reducible refine Below.setCell ?_ (by simp) _)); with_reducible exact y1)⟩
            ·
              have HE := Lib.hid (al_some fr false wr false true us di 3 hc (by simp) (by omega))
              have HX := Lib.hid (alx_3 fr false wr false true us di HE.out)
              clear hc
              go_enter Try.func17, Try.ntmps17
              go_wp2_with (go_at_call 13; refine (rcheck_any _ _ _ _ _ _ _ _).mono ?_; rintro e w2 ⟨rfl, hb⟩; have hcc := bcell hb; obtain ⟨hcc, hff⟩ := hcc; have hl : w.heap.size < w.heap.size + 1 + 1 := (by omega); have hz : w.heap.size + 1 < w2.heap.size := (by have := hb.size; simp at this; omega); (try rw [HC.out]))
              all_goals
                have y1 : Below w.heap.size w w2 := (((Below.refl _ _).alloc (Nat.le_refl _) _).alloc (by simp) _).trans (hb.mono (by simp <;> omega))
                refine bodyPost_ret (v := .tuple #[.agg #[.int .i64 fr, .bool true, .bool true, .bool false, .bool false, .bool us, .bool di], .int .i64 0]) (by simp [results, Try.results17, go_sem, hcc, hz, hl] <;> first | assumption | exact Bool.eq_false_iff.mpr (by assumption)) rfl ⟨by rw [HX.out, HE.out], by ((repeat (with_reducible refine Below.setCell ?_ (by simp) _)); with_reducible exact y1)⟩
          · rcases hp with rfl | rfl | rfl
            ·
              have HE := Lib.hid (al_huge fr false wr true us di hc (by simp))
              have HX := Lib.hid (alx_no fr false wr true true us di 0 5 (by omega) HE.out)
              clear hc
              go_enter Try.func17, Try.ntmps17
              go_wp2_with (go_at_call 13; refine (rcheck_any _ _ _ _ _ _ _ _).mono ?_; rintro e w2 ⟨rfl, hb⟩; have hcc := bcell hb; obtain ⟨hcc, hff⟩ := hcc; have hl : w.heap.size < w.heap.size + 1 + 1 := (by omega); have hz : w.heap.size + 1 < w2.heap.size := (by have := hb.size; simp at this; omega); (try rw [HC.out]))
              all_goals
                have y1 : Below w.heap.size w w2 := (((Below.refl _ _).alloc (Nat.le_refl _) _).alloc (by simp) _).trans (hb.mono (by simp <;> omega))
                refine bodyPost_ret (v := .tuple #[.agg #[.int .i64 0, .bool false, .bool false, .bool false, .bool false, .bool false, .bool false], .int .i64 5]) (by simp [results, Try.results17, go_sem, hcc, hz, hl] <;> first | assumption | exact Bool.eq_false_iff.mpr (by assumption)) rfl ⟨by rw [HX.out, HE.out], by ((repeat (with_reducible refine Below.setCell ?_ (by simp) _)); with_reducible exact y1)⟩
            ·
              have HE := Lib.hid (al_some fr false wr true true us di 1 hc (by simp) (by omega))
              have HX := Lib.hid (alx_1 fr false wr true true us di HE.out)
              clear hc
              go_enter Try.func17, Try.ntmps17
              go_wp2_with (go_at_call 13; refine (rcheck_any _ _ _ _ _ _ _ _).mono ?_; rintro e w2 ⟨rfl, hb⟩; have hcc := bcell hb; obtain ⟨hcc, hff⟩ := hcc; have hl : w.heap.size < w.heap.size + 1 + 1 := (by omega); have hz : w.heap.size + 1 < w2.heap.size := (by have := hb.size; simp at this; omega); (try rw [HC.out]))
              all_goals
                have y1 : Below w.heap.size w w2 := (((Below.refl _ _).alloc (Nat.le_refl _) _).alloc (by simp) _).trans (hb.mono (by simp <;> omega))
                refine bodyPost_ret (v := .tuple #[.agg #[.int .i64 fr, .bool true, .bool false, .bool true, .bool false, .bool us, .bool false], .int .i64 0]) (by simp [results, Try.results17, go_sem, hcc, hz, hl] <;> first | assumption | exact Bool.eq_false_iff.mpr (by assumption)) rfl ⟨by rw [HX.out, HE.out], by ((repeat (with_reducible refine Below.setCell ?_ (by simp) _)); with_reducible exact y1)⟩
            ·
              have HE := Lib.hid (al_some fr false wr true true us di 3 hc (by simp) (by omega))
              have HX := Lib.hid (alx_3 fr false wr true true us di HE.out)
              clear hc
              go_enter Try.func17, Try.ntmps17
              go_wp2_with (go_at_call 13; refine (rcheck_any _ _ _ _ _ _ _ _).mono ?_; rintro e w2 ⟨rfl, hb⟩; have hcc := bcell hb; obtain ⟨hcc, hff⟩ := hcc; have hl : w.heap.size < w.heap.size + 1 + 1 := (by omega); have hz : w.heap.size + 1 < w2.heap.size := (by have := hb.size; simp at this; omega); (try rw [HC.out]))
              all_goals
                have y1 : Below w.heap.size w w2 := (((Below.refl _ _).alloc (Nat.le_refl _) _).alloc (by simp) _).trans (hb.mono (by simp <;> omega))
                refine bodyPost_ret (v := .tuple #[.agg #[.int .i64 fr, .bool true, .bool true, .bool true, .bool false, .bool us, .bool di], .int .i64 0]) (by simp [results, Try.results17, go_sem, hcc, hz, hl] <;> first | assumption | exact Bool.eq_false_iff.mpr (by assumption)) rfl ⟨by rw [HX.out, HE.out], by ((repeat (with_reducible refine Below.setCell ?_ (by simp) _)); with_reducible exact y1)⟩
      ·
        cases hu
        · rcases hp with rfl | rfl | rfl
          ·
            have HE := Lib.hid (al_zero fr true wr he us di hc (by simp))
            have HX := Lib.hid (alx_zero fr true wr false he us di HE.out)
            clear hc
            go_enter Try.func17, Try.ntmps17
            go_wp2_with (go_at_call 13; refine (rcheck_any _ _ _ _ _ _ _ _).mono ?_; rintro e w2 ⟨rfl, hb⟩; have hcc := bcell hb; obtain ⟨hcc, hff⟩ := hcc; have hl : w.heap.size < w.heap.size + 1 + 1 := (by omega); have hz : w.heap.size + 1 < w2.heap.size := (by have := hb.size; simp at this; omega); (try rw [HC.out]))
            all_goals
              have y1 : Below w.heap.size w w2 := (((Below.refl _ _).alloc (Nat.le_refl _) _).alloc (by simp) _).trans (hb.mono (by simp <;> omega))
              refine bodyPost_ret (v := .tuple #[.agg #[.int .i64 fr, .bool false, .bool false, .bool false, .bool true, .bool false, .bool false], .int .i64 0]) (by simp [results, Try.results17, go_sem, hcc, hz, hl] <;> first | assumption | exact Bool.eq_false_iff.mpr (by assumption)) rfl ⟨by rw [HX.out, HE.out], by ((repeat (with_reducible refine Below.setCell ?_ (by simp) _)); with_reducible exact y1)⟩
          ·
            have HE := Lib.hid (al_some fr true wr false he us di 1 hc (by simp) (by omega))
            have HX := Lib.hid (alx_1 fr true wr false he us di HE.out)
            clear hc
            go_enter Try.func17, Try.ntmps17
            go_wp2_with (go_at_call 13; refine (rcheck_any _ _ _ _ _ _ _ _).mono ?_; rintro e w2 ⟨rfl, hb⟩; have hcc := bcell hb; obtain ⟨hcc, hff⟩ := hcc; have hl : w.heap.size < w.heap.size + 1 + 1 := (by omega); have hz : w.heap.size + 1 < w2.heap.size := (by have := hb.size; simp at this; omega); (try rw [HC.out]))
            all_goals
              have y1 : Below w.heap.size w w2 := (((Below.refl _ _).alloc (Nat.le_refl _) _).alloc (by simp) _).trans (hb.mono (by simp <;> omega))
              refine bodyPost_ret (v := .tuple #[.agg #[.int .i64 fr, .bool true, .bool false, .bool false, .bool false, .bool us, .bool false], .int .i64 0]) (by simp [results, Try.results17, go_sem, hcc, hz, hl] <;> first | assumption | exact Bool.eq_false_iff.mpr (by assumption)) rfl ⟨by rw [HX.out, HE.out], by ((repeat (with_reducible refine Below.setCell ?_ (by simp) _)); with_reducible exact y1)⟩
          ·
            have HE := Lib.hid (al_some fr true wr false he us di 3 hc (by simp) (by omega))
            have HX := Lib.hid (alx_3 fr true wr false he us di HE.out)
            clear hc
            go_enter Try.func17, Try.ntmps17
            go_wp2_with (go_at_call 13; refine (rcheck_any _ _ _ _ _ _ _ _).mono ?_; rintro e w2 ⟨rfl, hb⟩; have hcc := bcell hb; obtain ⟨hcc, hff⟩ := hcc; have hl : w.heap.size < w.heap.size + 1 + 1 := (by omega); have hz : w.heap.size + 1 < w2.heap.size := (by have := hb.size; simp at this; omega); (try rw [HC.out]))
            all_goals
              have y1 : Below w.heap.size w w2 := (((Below.refl _ _).alloc (Nat.le_refl _) _).alloc (by simp) _).trans (hb.mono (by simp <;> omega))
              refine bodyPost_ret (v := .tuple #[.agg #[.int .i64 fr, .bool true, .bool true, .bool false, .bool false, .bool us, .bool di], .int .i64 0]) (by simp [results, Try.results17, go_sem, hcc, hz, hl] <;> first | assumption | exact Bool.eq_false_iff.mpr (by assumption)) rfl ⟨by rw [HX.out, HE.out], by ((repeat (with_reducible refine Below.setCell ?_ (by simp) _)); with_reducible exact y1)⟩
        · rcases hp with rfl | rfl | rfl
          ·
            have HE := Lib.hid (al_huge fr true wr he us di hc (by simp))
            have HX := Lib.hid (alx_no fr true wr true he us di 0 5 (by omega) HE.out)
            clear hc
            go_enter Try.func17, Try.ntmps17
            go_wp2_with (go_at_call 13; refine (rcheck_any _ _ _ _ _ _ _ _).mono ?_; rintro e w2 ⟨rfl, hb⟩; have hcc := bcell hb; obtain ⟨hcc, hff⟩ := hcc; have hl : w.heap.size < w.heap.size + 1 + 1 := (by omega); have hz : w.heap.size + 1 < w2.heap.size := (by have := hb.size; simp at this; omega); (try rw [HC.out]))
            all_goals
              have y1 : Below w.heap.size w w2 := (((Below.refl _ _).alloc (Nat.le_refl _) _).alloc (by simp) _).trans (hb.mono (by simp <;> omega))
              refine bodyPost_ret (v := .tuple #[.agg #[.int .i64 0, .bool false, .bool false, .bool false, .bool false, .bool false, .bool false], .int .i64 5]) (by simp [results, Try.results17, go_sem, hcc, hz, hl] <;> first | assumption | exact Bool.eq_false_iff.mpr (by assumption)) rfl ⟨by rw [HX.out, HE.out], by ((repeat (with_reducible refine Below.setCell ?_ (by simp) _)); with_reducible exact y1)⟩
          ·
            have HE := Lib.hid (al_some fr true wr true he us di 1 hc (by simp) (by omega))
            have HX := Lib.hid (alx_1 fr true wr true he us di HE.out)
            clear hc
            go_enter Try.func17, Try.ntmps17
            go_wp2_with (go_at_call 13; refine (rcheck_any _ _ _ _ _ _ _ _).mono ?_; rintro e w2 ⟨rfl, hb⟩; have hcc := bcell hb; obtain ⟨hcc, hff⟩ := hcc; have hl : w.heap.size < w.heap.size + 1 + 1 := (by omega); have hz : w.heap.size + 1 < w2.heap.size := (by have := hb.size; simp at this; omega); (try rw [HC.out]))
            all_goals
              have y1 : Below w.heap.size w w2 := (((Below.refl _ _).alloc (Nat.le_refl _) _).alloc (by simp) _).trans (hb.mono (by simp <;> omega))
              refine bodyPost_ret (v := .tuple #[.agg #[.int .i64 fr, .bool true, .bool false, .bool true, .bool false, .bool us, .bool false], .int .i64 0]) (by simp [results, Try.results17, go_sem, hcc, hz, hl] <;> first | assumption | exact Bool.eq_false_iff.mpr (by assumption)) rfl ⟨by rw [HX.out, HE.out], by ((repeat (with_reducible refine Below.setCell ?_ (by simp) _)); with_reducible exact y1)⟩
          ·
            have HE := Lib.hid (al_some fr true wr true he us di 3 hc (by simp) (by omega))
            have HX := Lib.hid (alx_3 fr true wr true he us di HE.out)
            clear hc
            go_enter Try.func17, Try.ntmps17
            go_wp2_with (go_at_call 13; refine (rcheck_any _ _ _ _ _ _ _ _).mono ?_; rintro e w2 ⟨rfl, hb⟩; have hcc := bcell hb; obtain ⟨hcc, hff⟩ := hcc; have hl : w.heap.size < w.heap.size + 1 + 1 := (by omega); have hz : w.heap.size + 1 < w2.heap.size := (by have := hb.size; simp at this; omega); (try rw [HC.out]))
            all_goals
              have y1 : Below w.heap.size w w2 := (((Below.refl _ _).alloc (Nat.le_refl _) _).alloc (by simp) _).trans (hb.mono (by simp <;> omega))
              refine bodyPost_ret (v := .tuple #[.agg #[.int .i64 fr, .bool true, .bool true, .bool true, .bool false, .bool us, .bool di], .int .i64 0]) (by simp [results, Try.results17, go_sem, hcc, hz, hl] <;> first | assumption | exact Bool.eq_false_iff.mpr (by assumption)) rfl ⟨by rw [HX.out, HE.out], by ((repeat (with_reducible refine Below.setCell ?_ (by simp) _)); with_reducible exact y1)⟩
    · have HE := Lib.hid (al_arg fr p wr hu he us di prot hc hp)
      have HX := Lib.hid (alx_no fr p wr hu he us di prot 2 (by omega) HE.out)
      have p0 : (prot != 0) = true := by rw [bne_iff_ne]; omega
      have p1 : (prot != 1) = true := by rw [bne_iff_ne]; omega
      have p3 : (prot != 3) = true := by rw [bne_iff_ne]; omega
      clear hc hp
      go_enter Try.func17, Try.ntmps17
      go_wp2_with (go_at_call 13; refine (rcheck_any _ _ _ _ _ _ _ _).mono ?_; rintro e w2 ⟨rfl, hb⟩; have hcc := bcell hb; obtain ⟨hcc, hff⟩ := hcc; have hl : w.heap.size < w.heap.size + 1 + 1 := (by omega); have hz : w.heap.size + 1 < w2.heap.size := (by have := hb.size; simp at this; omega); (try rw [HC.out]))
      all_goals
        have y1 : Below w.heap.size w w2 := (((Below.refl _ _).alloc (Nat.le_refl _) _).alloc (by simp) _).trans (hb.mono (by simp <;> omega))
        refine bodyPost_ret (v := .tuple #[.agg #[.int .i64 0, .bool false, .bool false, .bool false, .bool false, .bool false, .bool false], .int .i64 2]) (by simp [results, Try.results17, go_sem, hcc, hz, hl] <;> first | assumption | exact Bool.eq_false_iff.mpr (by assumption)) rfl ⟨by rw [HX.out, HE.out], by ((repeat (with_reducible refine Below.setCell ?_ (by simp) _)); with_reducible exact y1)⟩
  · have HC : RowKit.Hid (chk fr p wr hu he us di = chk fr p wr hu he us di) := Lib.hid rfl
    have HE := Lib.hid (al_chk fr p wr hu he us di prot hc)
    have HX := Lib.hid (alx_no fr p wr hu he us di prot _ hc HE.out)
    have k0 : (chk fr p wr hu he us di != 0) = true := by simpa using hc
    clear hc
    go_enter Try.func17, Try.ntmps17
    go_wp2_with (go_at_call 13; refine (rcheck_any _ _ _ _ _ _ _ _).mono ?_; rintro e w2 ⟨rfl, hb⟩; have hcc := bcell hb; obtain ⟨hcc, hff⟩ := hcc; have hl : w.heap.size < w.heap.size + 1 + 1 := (by omega); have hz : w.heap.size + 1 < w2.heap.size := (by have := hb.size; simp at this; omega); (try rw [HC.out]))
    all_goals
      have y1 : Below w.heap.size w w2 := (((Below.refl _ _).alloc (Nat.le_refl _) _).alloc (by simp) _).trans (hb.mono (by simp <;> omega))
      refine bodyPost_ret (v := .tuple #[.agg #[.int .i64 0, .bool false, .bool false, .bool false, .bool false, .bool false, .bool false], .int .i64 (chk fr p wr hu he us di)]) (by simp [results, Try.results17, go_sem, hcc, hz, hl] <;> first | assumption | exact Bool.eq_false_iff.mpr (by assumption)) rfl ⟨by rw [HX.out, HE.out], by ((repeat (with_reducible refine Below.setCell ?_ (by simp) _)); with_reducible exact y1)⟩

end Go.Proofs.Ytnbolfjijhbfbaa

/- Parts of the proofs of layer 7 (walk): contracts of its functions, and the laws' walks. -/
import Derived.Test.YtfolbfacnlhlmaaProg
import Derived.WalkKit
import Derived.WalkSpells
import Derived.WalkLawsBesides
import Derived.BigQuiet
import Derived.Deep.QuietTactic
import Derived.Lib.Hide
import Derived.Deep.RegionHeld3
import Derived.Deep.DeepCutAuto
import Derived.KernelRfl
import Derived.Deep.OwnRows
import Derived.Laws.CopyOwn
import Derived.Laws.CopyRow
import Derived.StillTailTactics
import Derived.Deep.RegionLaw
import Derived.Test.YtfolbfacnlhlmaaW14
namespace Go.Proofs.Ytfolbfacnlhlmaa
open Go.RowKit
set_option linter.unusedVariables false
set_option linter.unusedSimpArgs false

theorem od_leaf {x : Int} {k : Nat} (h : E.tb x 7 = true ∨ k = 0) : od x k = 3 * k := by
  unfold od
  split
  · rfl
  · rcases h with h | h
    · rename_i hn; exact (hn h).elim
    · subst h; rfl
theorem wk_lev (n : Nat) (f : Nat → Int) (page : Int) : ∀ (k t : Nat) (P : List Int), (wk n f page (k + 1) t P).err = 0 → 0 ≤ (wk n f page (k + 1) t P).lev ∧ (wk n f page (k + 1) t P).lev ≤ k ∧ (wk n f page (k + 1) t P).lev ≠ 3 := by
  intro k
  induction k with
  | zero =>
    intro t P
    rw [wk_st n f page 0 t P _ _ rfl rfl]
    unfold st
    split
    · exact fun h => absurd h (by first | (show ¬ (6 : Int) = 0; decide) | decide)
    · split
      · exact fun h => absurd h (by first | (show ¬ (6 : Int) = 0; decide) | decide)
      · split
        · exact fun h => absurd h (by first | (show ¬ (6 : Int) = 0; decide) | decide)
        · split
          · exact fun h => absurd h (by first | (show ¬ (6 : Int) = 0; decide) | decide)
          · split
            · exact fun _ => ⟨Int.le_refl 0, Int.le_refl 0, by show (0 : Int) ≠ 3; omega⟩
            · exact fun h => absurd h (by show ¬ (5 : Int) = 0; decide)
  | succ k ih =>
    intro t P
    rw [wk_st n f page (k + 1) t P _ _ rfl rfl]
    unfold st
    split
    · exact fun h => absurd h (by first | (show ¬ (6 : Int) = 0; decide) | decide)
    · split
      · exact fun h => absurd h (by first | (show ¬ (6 : Int) = 0; decide) | decide)
      · split
        · exact fun h => absurd h (by first | (show ¬ (6 : Int) = 0; decide) | decide)
        · rename_i hbd
          split
          · exact fun h => absurd h (by first | (show ¬ (6 : Int) = 0; decide) | decide)
          · split
            · rename_i hl
              refine fun _ => ⟨?_, ?_, ?_⟩
              · show (0 : Int) ≤ ((k + 1 : Nat) : Int); omega
              · show ((k + 1 : Nat) : Int) ≤ ((k + 1 : Nat) : Int); omega
              · show ((k + 1 : Nat) : Int) ≠ 3
                intro h3
                have hk : k + 1 = 3 := by omega
                rcases hl with hl | hl
                · apply hbd
                  unfold bd
                  rw [hl, hk]
                  simp
                · omega
            · intro h
              obtain ⟨h1, h2, h3⟩ := ih _ _ h
              exact ⟨h1, by omega, h3⟩
theorem wk_same (n : Nat) (f : Nat → Int) (page other : Int) : ∀ (k t : Nat) (P : List Int), (wk n f page (k + 1) t P).err = 0 → (∀ j : Nat, j ≤ k → (wk n f page (k + 1) t P).lev ≤ j → dg page j = dg other j) →
    (wk n f other (k + 1) t P).err = 0 ∧ (wk n f other (k + 1) t P).x = (wk n f page (k + 1) t P).x ∧ (wk n f other (k + 1) t P).lev = (wk n f page (k + 1) t P).lev ∧
      (wk n f other (k + 1) t P).frm - (wk n f page (k + 1) t P).frm = (other - G.dwn other (3 * (wk n f page (k + 1) t P).lev)) - (page - G.dwn page (3 * (wk n f page (k + 1) t P).lev)) := by
  intro k
  induction k with
  | zero =>
    intro t P he hd
    have hlev := wk_lev n f page 0 t P he
    have hd0 := hd 0 (Nat.le_refl _) hlev.2.1
    rw [wk_st n f page 0 t P _ _ rfl rfl] at he ⊢
    rw [wk_st n f other 0 t P (wd f (64 * t + 8 * (dg page 0).toNat)) (dg page 0) hd0 rfl]
    unfold st at he ⊢
    split at he
    · exact absurd he (by first | (show ¬ (6 : Int) = 0; decide) | decide)
    · rename_i h1
      rw [if_neg h1, if_neg h1]
      split at he
      · exact absurd he (by first | (show ¬ (6 : Int) = 0; decide) | decide)
      · rename_i h2
        rw [if_neg h2, if_neg h2]
        split at he
        · exact absurd he (by first | (show ¬ (6 : Int) = 0; decide) | decide)
        · rename_i h3
          rw [if_neg h3, if_neg h3]
          split at he
          · exact absurd he (by first | (show ¬ (6 : Int) = 0; decide) | decide)
          · rename_i h4
            rw [if_neg h4, if_neg h4]
            split at he
            · rename_i h5
              rw [if_pos h5, if_pos h5, od_leaf h5]
              refine ⟨rfl, rfl, rfl, ?_⟩
              dsimp only
              omega
            · exact absurd he (by show ¬ (5 : Int) = 0; decide)
  | succ k ih =>
    intro t P he hd
    have hlev := wk_lev n f page (k + 1) t P he
    have hd0 := hd (k + 1) (Nat.le_refl _) hlev.2.1
    rw [wk_st n f page (k + 1) t P _ _ rfl rfl] at he hd ⊢
    rw [wk_st n f other (k + 1) t P (wd f (64 * t + 8 * (dg page (k + 1)).toNat)) (dg page (k + 1)) hd0 rfl]
    unfold st at he hd ⊢
    split at he
    · exact absurd he (by first | (show ¬ (6 : Int) = 0; decide) | decide)
    · rename_i h1
      rw [if_neg h1] at hd
      rw [if_neg h1, if_neg h1]
      split at he
      · exact absurd he (by first | (show ¬ (6 : Int) = 0; decide) | decide)
      · rename_i h2
        rw [if_neg h2] at hd
        rw [if_neg h2, if_neg h2]
        split at he
        · exact absurd he (by first | (show ¬ (6 : Int) = 0; decide) | decide)
        · rename_i h3
          rw [if_neg h3] at hd
          rw [if_neg h3, if_neg h3]
          split at he
          · exact absurd he (by first | (show ¬ (6 : Int) = 0; decide) | decide)
          · rename_i h4
            rw [if_neg h4] at hd
            rw [if_neg h4, if_neg h4]
            split at he
            · rename_i h5
              rw [if_pos h5, if_pos h5, od_leaf h5]
              refine ⟨rfl, rfl, rfl, ?_⟩
              dsimp only
              omega
            · rename_i h5
              rw [if_neg h5] at hd
              rw [if_neg h5, if_neg h5]
              exact ih _ _ he fun j hj hl => hd j (by omega) hl
theorem dwn3 (p : Int) : G.dwn p 3 = p - p % 8 := by unfold G.dwn; rw [if_pos (by decide)]; rfl
theorem dwn6 (p : Int) : G.dwn p 6 = p - p % 64 := by unfold G.dwn; rw [if_pos (by decide)]; rfl
/-- Two pages of one leaf. -/
theorem wk_two (n : Nat) (f : Nat → Int) (page other : Int) (t : Nat) (he : (wk n f page 4 t []).err = 0) (hl : ((wk n f page 4 t []).lev = 1 ∧ other / 8 = page / 8) ∨ ((wk n f page 4 t []).lev = 2 ∧ other / 64 = page / 64)) :
    (wk n f other 4 t []).err = 0 ∧ (wk n f other 4 t []).x = (wk n f page 4 t []).x ∧ (wk n f other 4 t []).lev = (wk n f page 4 t []).lev ∧ (wk n f other 4 t []).frm - (wk n f page 4 t []).frm = other - page := by
  have h := wk_same n f page other 3 t [] he ?_
  · obtain ⟨h1, h2, h3, h4⟩ := h
    refine ⟨h1, h2, h3, ?_⟩
    rcases hl with ⟨hl, hq⟩ | ⟨hl, hq⟩
    · have h4' : (wk n f other 4 t []).frm - (wk n f page 4 t []).frm = (other - G.dwn other (3 * (wk n f page 4 t []).lev)) - (page - G.dwn page (3 * (wk n f page 4 t []).lev)) := h4
      rw [hl, show (3 * 1 : Int) = 3 from rfl, dwn3, dwn3] at h4'
      omega
    · have h4' : (wk n f other 4 t []).frm - (wk n f page 4 t []).frm = (other - G.dwn other (3 * (wk n f page 4 t []).lev)) - (page - G.dwn page (3 * (wk n f page 4 t []).lev)) := h4
      rw [hl, show (3 * 2 : Int) = 6 from rfl, dwn6, dwn6] at h4'
      omega
  · intro j hj hlj
    have hlj' : (wk n f page 4 t []).lev ≤ j := hlj
    have hc : j = 0 ∨ j = 1 ∨ j = 2 ∨ j = 3 := by omega
    rcases hc with rfl | rfl | rfl | rfl <;> rcases hl with ⟨hl, hq⟩ | ⟨hl, hq⟩ <;> first | (exfalso; omega) | (simp only [dg]; omega)

end Go.Proofs.Ytfolbfacnlhlmaa

/- Plain theorems for layer 18 (gap): trees of stretches, lists of stretches, room. -/
import Derived.Test.YtkaglggljomgdaaH23
namespace Go.Proofs.Ytkaglggljomgdaa
set_option linter.unusedVariables false
set_option linter.unusedSimpArgs false

theorem fm_free {L : List (Int × Int)} {p e : Int} (hr : Rg 1 L 4096) (hpe : p < e) (h : ∀ q, p ≤ q → q < e → Free L q) : fm p e L = none := fm_none fun d hd hm => by
  obtain ⟨h1, h2⟩ := hm
  have := hr.mem d hd
  exact h (max p d.1) (by omega) (by omega) d hd ⟨by omega, by omega⟩
theorem roomV_ok {low n o : Int} {L : List (Int × Int)} (hr : Rg 1 L 4096) (h : (roomV low n o L).2 = 0) :
    1 ≤ n ∧ (0 ≤ o ∧ o ≤ 8) ∧ 1 ≤ (roomV low n o L).1 ∧ low ≤ (roomV low n o L).1 ∧ (roomV low n o L).1 % G.two o = 0 ∧ (roomV low n o L).1 + n ≤ 4096 ∧ (∀ q, (roomV low n o L).1 ≤ q → q < (roomV low n o L).1 + n → Free L q) ∧ putE (roomV low n o L).1 ((roomV low n o L).1 + n) L = 0 := by
  unfold roomV at h ⊢
  split at h
  · cases h
  · rename_i h1
    rw [if_neg h1]
    split at h
    · cases h
    · rename_i h2
      rw [if_neg h2]
      split at h
      · cases h
      · rename_i h3
        rw [if_neg h3]
        have hn : 1 ≤ n := by omega
        have ho : 0 ≤ o ∧ o ≤ 8 := by omega
        rcases scanF_spec (max low 1) n (G.two o) (two_size o ho).1 hn L 1 (by omega) hr with ⟨a, _⟩ | ⟨a, b, c, d⟩
        · exact absurd a h3
        · generalize scanF (max low 1) n (G.two o) L 1 = p at *
          obtain ⟨c1, c2, c3, c4⟩ := c
          simp only
          refine ⟨hn, ho, by omega, by omega, c2, c3, c4, ?_⟩
          have hw : wrg p (p + n) = 0 := wrg_ok.2 ⟨by omega, by omega, by omega⟩
          unfold putE
          rw [if_neg (by simp [hw]), fm_free hr (by omega) c4]
          rfl
theorem roomV_bad {low n o : Int} {L : List (Int × Int)} (h : ¬ (roomV low n o L).2 = 0) : (roomV low n o L).1 = 0 := by
  unfold roomV at *
  split
  · rfl
  · split
    · rfl
    · split
      · rfl
      · rename_i h1 h2 h3
        rw [if_neg h1, if_neg h2, if_neg h3] at h
        exact absurd rfl h

end Go.Proofs.Ytkaglggljomgdaa

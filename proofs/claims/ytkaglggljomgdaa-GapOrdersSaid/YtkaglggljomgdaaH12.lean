/- Parts of the proofs of layer 18 (gap): contracts of its functions, and the laws' walks. -/
import Derived.Test.YtkaglggljomgdaaProg
import Derived.WalkKit
import Derived.WalkSpells
import Derived.WalkLawsBesides
import Derived.BigQuiet
import Derived.Deep.QuietTactic
import Derived.Lib.Hide
import Derived.Deep.RegionHeld3
import Derived.Deep.DeepCutAuto
import Derived.KernelRfl
import Derived.Deep.OwnRows
import Derived.Laws.CopyOwn
import Derived.Laws.CopyRow
import Derived.StillTailTactics
import Derived.Deep.RegionLaw
import Derived.Test.YtkaglggljomgdaaH11
import Derived.Test.YtkaglggljomgdaaG2
import Derived.OwnWalk
namespace Go.Proofs.Ytkaglggljomgdaa
open Go.RowKit
set_option linter.unusedVariables false
set_option linter.unusedSimpArgs false

theorem two_size (o : Int) (h : 0 ≤ o ∧ o ≤ 8) : Size (G.two o) ∧ 1 ≤ G.two o ∧ G.two o ≤ 256 := by
  obtain ⟨t0, t1, t2, t3, t4, t5, t6, t7, t8⟩ := G.two_vals
  unfold Size
  rcases (show o = 0 ∨ o = 1 ∨ o = 2 ∨ o = 3 ∨ o = 4 ∨ o = 5 ∨ o = 6 ∨ o = 7 ∨ o = 8 from by omega) with rfl | rfl | rfl | rfl | rfl | rfl | rfl | rfl | rfl <;> simp [t0, t1, t2, t3, t4, t5, t6, t7, t8]
set_option maxHeartbeats 1000000 in
theorem fit_any (f tt low n o : Int) (w : World) (hf : 1 ≤ f ∧ f ≤ 5000) (ht : 0 ≤ tt ∧ tt ≤ 5000) (hl : 1 ≤ low ∧ low ≤ 5000) (ho : 0 ≤ o ∧ o ≤ 8) (hn : 1 ≤ n) :
    Calls Try.prog 30 #[.int .i64 f, .int .i64 tt, .int .i64 low, .int .i64 n, .int .i64 o] w fun e w' => e = .returned (.int .i64 (fitI low n (G.two o) f tt)) ∧ w = w' := by
  have hk := two_size o ho
  have hord : G.ord o = true := by simp [G.ord, ho]
  obtain ⟨m, hm⟩ : ∃ m, max f low = m := ⟨_, rfl⟩
  have hmr : 1 ≤ m ∧ m ≤ 5000 := by omega
  have hmx : (if f < low then low else f) = m := by split <;> omega
  have hD : G.dwn m o = m - m % G.two o := if_pos hord
  have hmod : 0 ≤ m % G.two o ∧ m % G.two o < G.two o := ⟨Int.emod_nonneg _ (by omega), Int.emod_lt_of_pos _ (by omega)⟩
  have HF : RowKit.Hid (fitI low n (G.two o) f tt = if (if m - m % G.two o < m then m - m % G.two o + G.two o else m - m % G.two o) < tt ∧ n ≤ tt - (if m - m % G.two o < m then m - m % G.two o + G.two o else m - m % G.two o) then (if m - m % G.two o < m then m - m % G.two o + G.two o else m - m % G.two o) else 0) := Lib.hid (by unfold fitI; rw [hm])
  have HD := Lib.hid (by have := G.down_any m o w (by omega) (by omega); rw [hD] at this; exact this)
  have hw0 : wrap64 (2 ^ o.toNat) = G.two o := by
    have h1 : wrap64 (G.two o) = G.two o := by unfold wrap64; omega
    exact h1
  clear hord hm
  generalize hd : m - m % G.two o = d at *
  have hdr : -300 ≤ d ∧ d ≤ m := by omega
  clear hmod hd hD
  generalize G.two o = k at *
  obtain ⟨R, hR⟩ : ∃ R, fitI low n k f tt = R := ⟨_, rfl⟩
  rw [hR] at HF ⊢
  clear hR
  by_cases c1 : d < m
  · have e1 : wrap64 (d + k) = d + k := by unfold wrap64; omega
    have e2 : wrap64 (tt - (d + k)) = tt - (d + k) := by unfold wrap64; omega
    by_cases c2 : d + k < tt
    · by_cases c3 : n ≤ tt - (d + k)
      · skip
        have HR := Lib.hid (show R = d + k from by rw [HF.out]; simp [*])
        clear HF
        go_enter Try.func30, Try.ntmps30
        go_wp2_with fail
        refine HD.out.mono ?_
        rintro ex w1 ⟨rfl, rfl⟩
        go_wp2_with fail
        go_ret
        exact ⟨by rw [HR.out]; rfl, rfl⟩
      · skip
        have HR := Lib.hid (show R = 0 from by rw [HF.out]; simp [*])
        clear HF
        go_enter Try.func30, Try.ntmps30
        go_wp2_with fail
        refine HD.out.mono ?_
        rintro ex w1 ⟨rfl, rfl⟩
        go_wp2_with fail
        go_ret
        exact ⟨by rw [HR.out]; rfl, rfl⟩
    · skip
      have HR := Lib.hid (show R = 0 from by rw [HF.out]; simp [*])
      clear HF
      go_enter Try.func30, Try.ntmps30
      go_wp2_with fail
      refine HD.out.mono ?_
      rintro ex w1 ⟨rfl, rfl⟩
      go_wp2_with fail
      go_ret
      exact ⟨by rw [HR.out]; rfl, rfl⟩
  · have e2 : wrap64 (tt - d) = tt - d := by unfold wrap64; omega
    by_cases c2 : d < tt
    · by_cases c3 : n ≤ tt - (d)
      · skip
        have HR := Lib.hid (show R = d from by rw [HF.out]; simp [*])
        clear HF
        go_enter Try.func30, Try.ntmps30
        go_wp2_with fail
        refine HD.out.mono ?_
        rintro ex w1 ⟨rfl, rfl⟩
        go_wp2_with fail
        go_ret
        exact ⟨by rw [HR.out]; rfl, rfl⟩
      · skip
        have HR := Lib.hid (show R = 0 from by rw [HF.out]; simp [*])
        clear HF
        go_enter Try.func30, Try.ntmps30
        go_wp2_with fail
        refine HD.out.mono ?_
        rintro ex w1 ⟨rfl, rfl⟩
        go_wp2_with fail
        go_ret
        exact ⟨by rw [HR.out]; rfl, rfl⟩
    · skip
      have HR := Lib.hid (show R = 0 from by rw [HF.out]; simp [*])
      clear HF
      go_enter Try.func30, Try.ntmps30
      go_wp2_with fail
      refine HD.out.mono ?_
      rintro ex w1 ⟨rfl, rfl⟩
      go_wp2_with fail
      go_ret
      exact ⟨by rw [HR.out]; rfl, rfl⟩

end Go.Proofs.Ytkaglggljomgdaa

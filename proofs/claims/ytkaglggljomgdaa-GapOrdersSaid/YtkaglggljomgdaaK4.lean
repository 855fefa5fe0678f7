/- Plain theorems for layer 18 (gap): trees of stretches, lists of stretches, room. -/
import Derived.Test.YtkaglggljomgdaaH21
namespace Go.Proofs.Ytkaglggljomgdaa
set_option linter.unusedVariables false
set_option linter.unusedSimpArgs false

/-- Whether a page is taken. -/
def tkn (L : List (Int × Int)) (q : Nat) : Bool := q == 0 || L.any (fun e => decide (Has q e))
theorem tkn_false {L : List (Int × Int)} {q : Nat} : tkn L q = false ↔ q ≠ 0 ∧ Free L q := by
  unfold tkn
  rw [Bool.or_eq_false_iff, List.any_eq_false, beq_eq_false_iff_ne]
  constructor
  · rintro ⟨h1, h2⟩; exact ⟨h1, fun e he hh => h2 e he (decide_eq_true (p := Has q e) hh)⟩
  · rintro ⟨h1, h2⟩; exact ⟨h1, fun e he hh => h2 e he (of_decide_eq_true hh)⟩
/-- How many pages are free in a row, d pages from the end on. -/
def runF (T : Nat → Bool) : Nat → Nat
  | 0 => 0
  | d + 1 => if T (4096 - (d + 1)) = true then 0 else runF T d + 1
theorem runF_le (T : Nat → Bool) (d : Nat) : runF T d ≤ d := by
  induction d with
  | zero => exact Nat.le_refl _
  | succ d ih => rw [runF]; split <;> omega
theorem runF_spec (T : Nat → Bool) (d : Nat) (hd : d ≤ 4096) : ∀ n : Nat, 1 ≤ n → (n ≤ runF T d ↔ n ≤ d ∧ ∀ q, 4096 - d ≤ q → q < 4096 - d + n → T q = false) := by
  induction d with
  | zero => intro n hn; simp [runF]; omega
  | succ d ih =>
    intro n hn
    rw [runF]
    split
    · rename_i ht
      constructor
      · intro h; omega
      · rintro ⟨h1, h2⟩
        have := h2 (4096 - (d + 1)) (by omega) (by omega)
        rw [ht] at this
        cases this
    · rename_i ht
      have ht' : T (4096 - (d + 1)) = false := by simpa using ht
      by_cases h1 : n = 1
      · subst h1
        constructor
        · intro _
          refine ⟨by omega, fun q q1 q2 => ?_⟩
          obtain rfl : q = 4096 - (d + 1) := by omega
          exact ht'
        · intro _; omega
      · have i := ih (by omega) (n - 1) (by omega)
        constructor
        · intro h
          obtain ⟨a, b⟩ := i.1 (by omega)
          refine ⟨by omega, fun q q1 q2 => ?_⟩
          by_cases hq : q = 4096 - (d + 1)
          · rw [hq]; exact ht'
          · exact b q (by omega) (by omega)
        · rintro ⟨a, b⟩
          have := i.2 ⟨by omega, fun q q1 q2 => b q (by omega) (by omega)⟩
          omega
/-- How many pages of room there are from p on. -/
def rv (L : List (Int × Int)) (p : Nat) : Nat := runF (tkn L) (4096 - p)
theorem rv_spec (L : List (Int × Int)) (p : Nat) (n : Int) (hp : p < 4096) (hn : 1 ≤ n) (hp1 : 1 ≤ p) : n ≤ (rv L p : Nat) ↔ (p : Int) + n ≤ 4096 ∧ ∀ q : Int, (p : Int) ≤ q → q < (p : Int) + n → Free L q := by
  obtain ⟨m, rfl⟩ := Int.eq_ofNat_of_zero_le (show 0 ≤ n by omega)
  have h := runF_spec (tkn L) (4096 - p) (by omega) m (by omega)
  unfold rv
  have e : 4096 - (4096 - p) = p := by omega
  rw [e] at h
  constructor
  · intro h0
    obtain ⟨a, b⟩ := h.1 (by omega)
    refine ⟨by omega, fun q q1 q2 => ?_⟩
    obtain ⟨k, rfl⟩ := Int.eq_ofNat_of_zero_le (show 0 ≤ q by omega)
    exact (tkn_false.1 (b k (by omega) (by omega))).2
  · rintro ⟨a, b⟩
    have := h.2 ⟨by omega, fun q q1 q2 => tkn_false.2 ⟨by omega, b q (by omega) (by omega)⟩⟩
    omega
/-- What the search looks for. -/
def Hit (L : List (Int × Int)) (low n k : Int) (p : Nat) : Prop := low ≤ (p : Int) ∧ (p : Int) % k = 0 ∧ n ≤ (rv L p : Nat)
theorem hit_okp (L : List (Int × Int)) (low n k : Int) (p : Nat) (hp : p < 4096) (hp1 : 1 ≤ p) (hn : 1 ≤ n) : Hit L low n k p ↔ Okp L (max low 1) n k p := by
  unfold Hit Okp
  rw [rv_spec L p n hp hn hp1]
  constructor
  · rintro ⟨a, b, c, d⟩; exact ⟨by omega, b, c, d⟩
  · rintro ⟨a, b, c, d⟩; exact ⟨by omega, b, c, d⟩
theorem roomV_hit {L : List (Int × Int)} {low n o : Int} (h : Rg 1 L 4096) (hn : 1 ≤ n) (ho : 0 ≤ o ∧ o ≤ 8) (hk : Size (G.two o)) {p : Nat} (hp : p < 4096) (hp1 : 1 ≤ p) (hh : Hit L low n (G.two o) p) (hno : ∀ q, 1 ≤ q → q < p → ¬ Hit L low n (G.two o) q) : roomV low n o L = (((p : Nat) : Int), 0) := by
  have hok := (hit_okp L low n _ p hp hp1 hn).1 hh
  have hs : scanF (max low 1) n (G.two o) L 1 = (p : Nat) := by
    rcases scanF_spec (max low 1) n (G.two o) hk hn L 1 (by omega) h with ⟨_, h2⟩ | ⟨h1, h2, h3, h4⟩
    · exact absurd hok (h2 p (by omega))
    · have hle := h4 p (by omega) hok
      generalize hS : scanF (max low 1) n (G.two o) L 1 = S at *
      obtain ⟨q, rfl⟩ := Int.eq_ofNat_of_zero_le (show 0 ≤ S by omega)
      by_cases hq : q < p
      · exact absurd ((hit_okp L low n _ q (by omega) (by omega) hn).2 h3) (hno q (by omega) hq)
      · omega
  have hl : ¬ 4096 ≤ low := by have := hh.1; omega
  unfold roomV
  rw [if_neg (by omega), if_neg hl, hs, if_neg (by omega)]
theorem roomV_none {L : List (Int × Int)} {low n o : Int} (h : Rg 1 L 4096) (hn : 1 ≤ n) (ho : 0 ≤ o ∧ o ≤ 8) (hk : Size (G.two o)) (hno : ∀ q, 1 ≤ q → q < 4096 → ¬ Hit L low n (G.two o) q) : roomV low n o L = (0, 13) := by
  unfold roomV
  rw [if_neg (by omega)]
  split
  · rfl
  · have hs : scanF (max low 1) n (G.two o) L 1 = 0 := by
      rcases scanF_spec (max low 1) n (G.two o) hk hn L 1 (by omega) h with ⟨h1, _⟩ | ⟨h1, h2, h3, h4⟩
      · exact h1
      · generalize hS : scanF (max low 1) n (G.two o) L 1 = S at *
        obtain ⟨q, rfl⟩ := Int.eq_ofNat_of_zero_le (show 0 ≤ S by omega)
        have hlt : q < 4096 := by have := h3.2.2.1; omega
        exact absurd ((hit_okp L low n _ q hlt (by omega) hn).2 h3) (hno q (by omega) hlt)
    rw [hs]; rfl
/-- The state of the search for the greatest gap behind p pages: the best so far, the run that ends there. -/
def Best (T : Nat → Bool) (p : Nat) (best n : Int) : Prop :=
  0 ≤ best ∧ 0 ≤ n ∧ n ≤ (p : Int) - 1 ∧ (∀ q : Int, (p : Int) - n ≤ q → q < p → T q.toNat = false) ∧ ((p : Int) - n = 1 ∨ T (p - n.toNat - 1) = true) ∧
    ∀ k : Int, 1 ≤ k → (k ≤ best ↔ ∃ q : Int, 1 ≤ q ∧ q + k ≤ p ∧ ∀ r : Int, q ≤ r → r < q + k → T r.toNat = false)
theorem Best.zero (T : Nat → Bool) : Best T 1 0 0 :=
  ⟨by omega, by omega, by omega, fun q h1 h2 => by omega, .inl (by omega), fun k hk => ⟨fun h => by omega, fun ⟨q, h1, h2, _⟩ => by omega⟩⟩
theorem Best.taken {T : Nat → Bool} {p : Nat} {best n : Int} (h : Best T p best n) (hp : 1 ≤ p) (ht : T p = true) : Best T (p + 1) (max best 0) 0 := by
  obtain ⟨h1, h2, h3, h4, h5, h6⟩ := h
  rw [show max best 0 = best by omega]
  refine ⟨h1, by omega, by omega, fun q a b => by omega, .inr (by simpa using ht), fun k hk => ?_⟩
  rw [h6 k hk]
  constructor
  · rintro ⟨q, a, b, c⟩; exact ⟨q, a, by omega, c⟩
  · rintro ⟨q, a, b, c⟩
    refine ⟨q, a, ?_, c⟩
    by_cases hq : q + k ≤ p
    · exact hq
    · have := c p (by omega) (by omega)
      rw [show ((p : Nat) : Int).toNat = p by omega, ht] at this
      cases this
theorem Best.free {T : Nat → Bool} {p : Nat} {best n : Int} (h : Best T p best n) (hp : 1 ≤ p) (ht : T p = false) : Best T (p + 1) (max best (n + 1)) (n + 1) := by
  obtain ⟨h1, h2, h3, h4, h5, h6⟩ := h
  have hfree : ∀ q : Int, (p : Int) - n ≤ q → q < (p : Int) + 1 → T q.toNat = false := fun q a b => by
    by_cases hq : q = p
    · rw [hq, show ((p : Nat) : Int).toNat = p by omega]; exact ht
    · exact h4 q a (by omega)
  refine ⟨by omega, by omega, by omega, fun q a b => hfree q (by omega) (by omega), ?_, fun k hk => ?_⟩
  · rcases h5 with h5 | h5
    · exact .inl (by omega)
    · refine .inr ?_
      rw [show p + 1 - (n + 1).toNat - 1 = p - n.toNat - 1 by omega]
      exact h5
  · constructor
    · intro hk2
      by_cases hb : k ≤ best
      · obtain ⟨q, a, b, c⟩ := (h6 k hk).1 hb
        exact ⟨q, a, by omega, c⟩
      · exact ⟨(p : Int) + 1 - k, by omega, by omega, fun r a b => hfree r (by omega) (by omega)⟩
    · rintro ⟨q, a, b, c⟩
      by_cases hq : q + k ≤ p
      · have := (h6 k hk).2 ⟨q, a, hq, c⟩
        omega
      · -- the run ends at p: it begins no earlier than p - n
        have : (p : Int) - n ≤ q := by
          rcases h5 with h5 | h5
          · omega
          · by_cases hh : (p : Int) - n ≤ q
            · exact hh
            · have := c ((p : Int) - n - 1) (by omega) (by omega)
              rw [show ((p : Int) - n - 1).toNat = p - n.toNat - 1 by omega, h5] at this
              cases this
        omega
theorem Best.gTot {L : List (Int × Int)} {best n : Int} (h : Best (tkn L) 4096 best n) (hr : Rg 1 L 4096) : best = gTot 1 L := by
  obtain ⟨h1, h2, h3, h4, h5, h6⟩ := h
  have hg : 0 ≤ Go.Proofs.Ytkaglggljomgdaa.gTot 1 L := by rw [gTot_eq L 1 hr]; have := gapMax_nonneg L 1; omega
  have key : ∀ k : Int, 1 ≤ k → (k ≤ best ↔ k ≤ Go.Proofs.Ytkaglggljomgdaa.gTot 1 L) := fun k hk => by
    rw [h6 k hk, gTot_spec L 1 hr k hk]
    constructor
    · rintro ⟨q, a, b, c⟩
      refine ⟨q, a, by omega, fun p p1 p2 => ?_⟩
      have := (tkn_false.1 (c p p1 p2)).2
      rw [show ((p.toNat : Nat) : Int) = p by omega] at this
      exact this
    · rintro ⟨q, a, b, c⟩
      refine ⟨q, a, by omega, fun r r1 r2 => tkn_false.2 ⟨by omega, ?_⟩⟩
      rw [show ((r.toNat : Nat) : Int) = r by omega]
      exact c r r1 r2
  have a := key best
  have b := key (Go.Proofs.Ytkaglggljomgdaa.gTot 1 L)
  by_cases c1 : 1 ≤ best
  · have := (a c1).1 (Int.le_refl _)
    by_cases c2 : 1 ≤ Go.Proofs.Ytkaglggljomgdaa.gTot 1 L
    · have := (b c2).2 (Int.le_refl _); omega
    · omega
  · by_cases c2 : 1 ≤ Go.Proofs.Ytkaglggljomgdaa.gTot 1 L
    · have := (b c2).2 (Int.le_refl _); omega
    · omega

end Go.Proofs.Ytkaglggljomgdaa

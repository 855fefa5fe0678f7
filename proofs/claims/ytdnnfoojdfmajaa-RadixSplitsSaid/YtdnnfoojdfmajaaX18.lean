/- Parts of the proofs of layer 19 (radix): contracts of its functions, and the laws' walks. -/
import Derived.Test.YtdnnfoojdfmajaaProg
import Derived.WalkKit
import Derived.WalkSpells
import Derived.WalkLawsBesides
import Derived.BigQuiet
import Derived.Deep.QuietTactic
import Derived.Lib.Hide
import Derived.Deep.RegionHeld3
import Derived.Deep.DeepCutAuto
import Derived.KernelRfl
import Derived.Deep.OwnRows
import Derived.Laws.CopyOwn
import Derived.Laws.CopyRow
import Derived.StillTailTactics
import Derived.Deep.RegionLaw
import Derived.Handy
import Derived.Deep.CutRange
import Derived.Deep.CutBlock
import Derived.Test.YtdnnfoojdfmajaaX17
namespace Go.Proofs.Ytdnnfoojdfmajaa
open Go.RowKit
set_option linter.unusedVariables false
set_option linter.unusedSimpArgs false

/-- The tree that lies and the entries of the list. -/
structure Ab (σ : St) (L : List X) : Prop where
  n : ∀ k p, (∃ b, σ.N k p = some b) ↔ (k ≤ 3 ∧ Need L k p)
  e : ∀ k q, (∃ x, σ.E k q = some x) ↔ Ent L k q
  v : ∀ x ∈ L, σ.V x.k (x.p / 8 ^ x.k) = x.v
  m : ∀ k q m, k ≤ 3 → m < 3 → (σ.M k q m = true ↔ Bit L k q m)
theorem k4 {k : Nat} (h : k ≤ 3) : k = 0 ∨ k = 1 ∨ k = 2 ∨ k = 3 := by omega
theorem k3 {k : Nat} (h : k ≤ 2) : k = 0 ∨ k = 1 ∨ k = 2 := by omega
theorem Xok.slot {x : X} (h : Xok x) {k q : Nat} (hk : k ≤ 3) (hx : x.k ≤ k) (hq : x.p / 8 ^ k = q) : q * 8 ^ k ≤ x.p ∧ x.p + 8 ^ x.k ≤ (q + 1) * 8 ^ k := by
  obtain ⟨h1, h2, _⟩ := h
  rcases k4 hk with rfl | rfl | rfl | rfl
  all_goals (
    rcases k3 h1 with e | e | e <;> rw [e] at h2 ⊢ <;> simp only [Nat.reducePow] at hq h2 ⊢ <;> omega)
theorem Xok.aligned {x : X} (h : Xok x) : x.p = x.p / 8 ^ x.k * 8 ^ x.k := by
  have h2 := h.2.1
  have := Nat.div_add_mod x.p (8 ^ x.k)
  rw [h2, Nat.add_zero, Nat.mul_comm] at this
  exact this.symm
theorem Xok.cov {x : X} (h : Xok x) (g : Nat) : Cov x g ↔ x.p / 8 ^ x.k = g / 8 ^ x.k := by
  obtain ⟨h1, h2, _⟩ := h
  unfold Cov
  rcases k3 h1 with e | e | e <;> rw [e] at h2 ⊢ <;> simp only [Nat.reducePow] at h2 ⊢ <;> omega
theorem div_step {p k : Nat} : p / 8 ^ (k + 1) = p / 8 ^ k / 8 := by rw [Nat.pow_succ, Nat.div_div_eq_div_mul]
theorem Xok.lt {x : X} (h : Xok x) : x.p < 4096 := by
  obtain ⟨_, _, h3, _⟩ := h
  have : 0 < 8 ^ x.k := Nat.pos_of_ne_zero (by simp)
  omega
theorem div_up {p j k : Nat} (h : j ≤ k) {q : Nat} (e : p / 8 ^ j = q / 8 ^ j) : p / 8 ^ k = q / 8 ^ k := by
  obtain ⟨d, rfl⟩ : ∃ d, k = j + d := ⟨k - j, by omega⟩
  rw [Nat.pow_add, ← Nat.div_div_eq_div_mul, ← Nat.div_div_eq_div_mul, e]
section
variable {σ : St} {L : List X}
/-- One that lies in a slot where an entry stands is that entry. -/
theorem Ab.slot_ent (h : Ab σ L) (hg : Good L) {k q : Nat} (hk : k ≤ 3) {e : Nat} (he : σ.E k q = some e) : ∃ x ∈ L, x.k = k ∧ x.p = q * 8 ^ k ∧ ∀ y ∈ L, y.k ≤ k → y.p / 8 ^ k = q → y = x := by
  obtain ⟨x, hx, hxk, hxp⟩ := (h.e k q).1 ⟨e, he⟩
  refine ⟨x, hx, hxk, hxp, fun y hy hyk hyq => ?_⟩
  have h1 := (hg.1 y hy).slot hk hyk hyq
  have h8 : (q + 1) * 8 ^ k = q * 8 ^ k + 8 ^ k := by rw [Nat.add_mul, Nat.one_mul]
  have hy8 : 0 < 8 ^ y.k := Nat.pos_of_ne_zero (by simp)
  exact hg.disj hy hx (g := y.p) ⟨Nat.le_refl _, by omega⟩ ⟨by omega, by rw [hxk]; omega⟩
theorem Ab.slot_none (h : Ab σ L) (hg : Good L) {k q : Nat} (hk : k ≤ 3) (he : σ.E k q = none) (hb : σ.bel k q = none) : ∀ y ∈ L, y.k ≤ k → y.p / 8 ^ k ≠ q := by
  intro y hy hyk hyq
  by_cases e : y.k = k
  · have := (h.e k q).2 ⟨y, hy, e, by have := (hg.1 y hy).aligned; rw [e, hyq] at this; exact this⟩
    obtain ⟨x, hx⟩ := this
    rw [he] at hx
    cases hx
  · have := (h.n (k - 1) q).2 ⟨by omega, y, hy, by omega, by rw [show k - 1 + 1 = k from by omega]; exact hyq⟩
    obtain ⟨x, hx⟩ := this
    unfold St.bel at hb
    rw [if_neg (by omega), hx] at hb
    cases hb
theorem Ab.ent_le (h : Ab σ L) (hg : Good L) {k q e : Nat} (he : σ.E k q = some e) : k ≤ 2 := by
  obtain ⟨x, hx, hxk, _⟩ := (h.e k q).1 ⟨e, he⟩
  have := (hg.1 x hx).1
  omega
/-- What entries exclude, and what nodes want. -/
theorem Ab.bel_ent (h : Ab σ L) (hg : Good L) {k q : Nat} (hb : σ.bel k q ≠ none) : σ.E k q = none := by
  cases he : σ.E k q with
  | none => rfl
  | some e =>
    exfalso
    have hk2 := h.ent_le hg he
    obtain ⟨x, hx, hxk, hxp, huni⟩ := h.slot_ent hg (by omega) he
    cases hbb : σ.bel k q with
    | none => exact hb hbb
    | some c =>
      unfold St.bel at hbb
      by_cases h0 : k = 0
      · rw [if_pos h0] at hbb; cases hbb
      · rw [if_neg h0] at hbb
        obtain ⟨_, y, hy, hyk, hyq⟩ := (h.n (k - 1) q).1 ⟨c, hbb⟩
        rw [show k - 1 + 1 = k from by omega] at hyq
        have := huni y hy (by omega) hyq
        subst this
        omega
theorem Ab.n3 (h : Ab σ L) {k p : Nat} (hk : 3 < k) : σ.N k p = none := by
  cases hn : σ.N k p with
  | none => rfl
  | some b => have := ((h.n k p).1 ⟨b, hn⟩).1; omega
/-- The entry that covers a page is found. -/
theorem Ab.at_ (h : Ab σ L) (hg : Good L) {x : X} (hx : x ∈ L) {g : Nat} (hg4 : g < 4096) (hc : Cov x g) : ∃ l e, At σ g x.k l ∧ σ.E x.k (g / 8 ^ x.k) = some e := by
  have hok := hg.1 x hx
  have hq := (hok.cov g).1 hc
  obtain ⟨e, he⟩ := (h.e x.k (g / 8 ^ x.k)).2 ⟨x, hx, rfl, by rw [← hq]; exact hok.aligned⟩
  have hb : σ.bel x.k (g / 8 ^ x.k) = none := by
    cases hbb : σ.bel x.k (g / 8 ^ x.k) with
    | none => rfl
    | some c => have := h.bel_ent hg (k := x.k) (q := g / 8 ^ x.k) (by rw [hbb]; simp); rw [he] at this; cases this
  have hN : ∀ j, x.k ≤ j → j ≤ 3 → ∃ b, σ.N j (g / 8 ^ (j + 1)) = some b := fun j h1 h2 => (h.n j _).2 ⟨h2, x, hx, h1, div_up (by omega) hq⟩
  have hk2 := hok.1
  obtain ⟨l, hl⟩ : ∃ l : List Nat, l = (List.range (4 - x.k)).map fun i => (σ.N (3 - i) (g / 8 ^ (4 - i))).getD 0 := ⟨_, rfl⟩
  have hlen : l.length = 4 - x.k := by rw [hl]; simp
  refine ⟨l, e, ⟨by omega, by omega, fun i hi => ?_, hb⟩, he⟩
  obtain ⟨b, hb⟩ := hN (3 - i) (by omega) (by omega)
  rw [show 3 - i + 1 = 4 - i from by omega] at hb
  rw [hb, hl, List.getElem?_map, List.getElem?_range (by omega)]
  simp [hb]
theorem Ab.nf (h : Ab σ L) (hg : Good L) {g : Nat} (hg4 : g < 4096) (hn : ∀ x ∈ L, ¬ Cov x g) : Nf σ g := by
  by_cases h0 : σ.N 3 0 = none
  · exact .inl h0
  · right
    have key : ∀ n j, j + n = 3 → (∃ b, σ.N j (g / 8 ^ (j + 1)) = some b) → ∀ l, Pth σ g j l → ∃ κ l', At σ g κ l' ∧ σ.E κ (g / 8 ^ κ) = none := by
      intro n
      have : ∀ j, ∀ n, j + n = 3 → (∃ b, σ.N j (g / 8 ^ (j + 1)) = some b) → ∀ l, Pth σ g j l → ∃ κ l', At σ g κ l' ∧ σ.E κ (g / 8 ^ κ) = none := by
        intro j
        induction j with
        | zero =>
          intro n hn3 ⟨b, hb⟩ l hl
          refine ⟨0, l ++ [b], ⟨by omega, by have := hl.1; simp; omega, hl.last hb, rfl⟩, ?_⟩
          cases he : σ.E 0 (g / 8 ^ 0) with
          | none => rfl
          | some e =>
            obtain ⟨x, hx, hxk, hxp, _⟩ := h.slot_ent hg (by omega) he
            exact absurd (((hg.1 x hx).cov g).2 (by rw [hxk, hxp]; simp)) (hn x hx)
        | succ i ih =>
          intro n hn3 ⟨b, hb⟩ l hl
          cases hbb : σ.bel (i + 1) (g / 8 ^ (i + 1)) with
          | some c =>
            unfold St.bel at hbb
            rw [if_neg (by omega), Nat.add_sub_cancel] at hbb
            exact ih (n + 1) (by omega) ⟨c, hbb⟩ (l ++ [b]) (hl.more hb)
          | none =>
            refine ⟨i + 1, l ++ [b], ⟨by omega, by have := hl.1; simp; omega, hl.last hb, hbb⟩, ?_⟩
            cases he : σ.E (i + 1) (g / 8 ^ (i + 1)) with
            | none => rfl
            | some e =>
              obtain ⟨x, hx, hxk, hxp, _⟩ := h.slot_ent hg (by omega) he
              exact absurd (((hg.1 x hx).cov g).2 (by rw [hxk, hxp, Nat.mul_div_cancel _ (Nat.pos_of_ne_zero (by simp))])) (hn x hx)
      exact fun j => this j n
    have hg0 : g / 8 ^ 4 = 0 := by show g / 4096 = 0; omega
    obtain ⟨b, hb⟩ : ∃ b, σ.N 3 (g / 8 ^ (3 + 1)) = some b := by
      rw [show g / 8 ^ (3 + 1) = 0 from hg0]
      cases hb : σ.N 3 0 with
      | none => exact absurd hb h0
      | some b => exact ⟨b, rfl⟩
    exact key 0 3 rfl ⟨b, hb⟩ [] ⟨rfl, fun i hi => by simp at hi⟩
end

end Go.Proofs.Ytdnnfoojdfmajaa

/- Plain facts of heaps: what sinks, what rises, what stands first. -/
namespace Go.Proofs.Ytekkblhghbkdiaa
set_option linter.unusedVariables false
/-- A frame and its worth. -/
structure E where
  f : Int
  w : Int
  deriving DecidableEq, Inhabited
def lt (a b : E) : Prop := a.w < b.w ∨ (a.w = b.w ∧ a.f < b.f)
instance (a b : E) : Decidable (lt a b) := by unfold lt; infer_instance
def le (a b : E) : Prop := ¬ lt b a
theorem le_trans {a b c : E} (h : le a b) (k : le b c) : le a c := by unfold le lt at *; omega
theorem le_refl (a : E) : le a a := by unfold le lt; omega
theorem le_of_lt {a b : E} (h : lt a b) : le a b := by unfold le lt at *; omega
theorem le_total (a b : E) : le a b ∨ le b a := by unfold le lt; omega
theorem le_antisymm {a b : E} (h : le a b) (k : le b a) : a = b := by
  cases a; cases b
  unfold le lt at *
  simp only [E.mk.injEq]
  dsimp only at *
  omega
def g (l : List E) (i : Nat) : E := l.getD i default
theorem g_of {l : List E} {i : Nat} {e : E} (h : l[i]? = some e) : g l i = e := by unfold g; rw [List.getD_eq_getElem?_getD, h]; rfl
theorem get_g {l : List E} {i : Nat} (h : i < l.length) : l[i]? = some (g l i) := by
  rw [List.getElem?_eq_getElem h, g_of (List.getElem?_eq_getElem h)]
/-- Two change places. -/
def swp (l : List E) (i j : Nat) : List E := (l.set i (g l j)).set j (g l i)
theorem swp_length (l : List E) (i j : Nat) : (swp l i j).length = l.length := by unfold swp; rw [List.length_set, List.length_set]
theorem swp_get {l : List E} {i j : Nat} (hi : i < l.length) (hj : j < l.length) (k : Nat) : g (swp l i j) k = if k = j then g l i else if k = i then g l j else g l k := by
  unfold g swp
  rw [List.getD_eq_getElem?_getD, List.getElem?_set]
  by_cases h1 : j = k
  · subst h1
    rw [if_pos rfl, if_pos (by rw [List.length_set]; exact hj), if_pos rfl]
    rfl
  · rw [if_neg h1, if_neg (fun e => h1 e.symm), List.getElem?_set]
    by_cases h2 : i = k
    · subst h2
      rw [if_pos rfl, if_pos hi, if_pos rfl]
      rfl
    · rw [if_neg h2, if_neg (fun e => h2 e.symm), List.getD_eq_getElem?_getD]
theorem swp_perm {l : List E} {i j : Nat} (hi : i < l.length) (hj : j < l.length) : (swp l i j).Perm l := by
  unfold swp
  have e1 : g l j = l[j] := g_of (List.getElem?_eq_getElem hj)
  have e2 : g l i = l[i] := g_of (List.getElem?_eq_getElem hi)
  rw [e1, e2]
  exact List.set_set_perm hi hj
/-- A heap, in its first n places, but for those that P names. -/
def Hx (l : List E) (n : Nat) (P : Nat → Prop) : Prop := ∀ j, 0 < j → j < n → P j → le (g l ((j - 1) / 2)) (g l j)
def Hp (l : List E) (n : Nat) : Prop := Hx l n fun _ => True
/-- What stands above place i is no more than what stands below it. -/
def Gp (l : List E) (n i : Nat) : Prop := 0 < i → ∀ k, 0 < k → k < n → (k - 1) / 2 = i → le (g l ((i - 1) / 2)) (g l k)
/-- A heap but for place i. -/
def AH (l : List E) (n i : Nat) : Prop := Hx l n (fun j => j ≠ i ∧ (j - 1) / 2 ≠ i) ∧ Gp l n i
/-- The lesser child. -/
def kid (n : Nat) (l : List E) (i : Nat) : Nat := if 2 * i + 1 + 1 < n ∧ lt (g l (2 * i + 1 + 1)) (g l (2 * i + 1)) then 2 * i + 1 + 1 else 2 * i + 1
theorem kid_gt (n : Nat) (l : List E) (i : Nat) : i < kid n l i := by unfold kid; split <;> omega
theorem kid_lt {n : Nat} {l : List E} {i : Nat} (h : ¬ n ≤ 2 * i + 1) : kid n l i < n := by unfold kid; split <;> omega
theorem kid_par (n : Nat) (l : List E) (i : Nat) : (kid n l i - 1) / 2 = i := by unfold kid; split <;> omega
theorem kid_le {n : Nat} {l : List E} {i k : Nat} (h : ¬ n ≤ 2 * i + 1) (hk : k < n) (hp : (k - 1) / 2 = i) (h0 : 0 < k) : le (g l (kid n l i)) (g l k) := by
  have hk2 : k = 2 * i + 1 ∨ k = 2 * i + 1 + 1 := by omega
  unfold kid
  by_cases c : 2 * i + 1 + 1 < n ∧ lt (g l (2 * i + 1 + 1)) (g l (2 * i + 1))
  · rw [if_pos c]
    rcases hk2 with rfl | rfl
    · exact le_of_lt c.2
    · exact le_refl _
  · rw [if_neg c]
    rcases hk2 with rfl | rfl
    · exact le_refl _
    · intro q
      exact c ⟨hk, q⟩
def dn (n : Nat) (l : List E) (i : Nat) : List E × Nat :=
  if h : n ≤ 2 * i + 1 then (l, i) else if lt (g l (kid n l i)) (g l i) then dn n (swp l i (kid n l i)) (kid n l i) else (l, i)
termination_by n - i
decreasing_by
  have := kid_gt n l i
  omega
theorem dn_stop {n : Nat} {l : List E} {i : Nat} (h : n ≤ 2 * i + 1) : dn n l i = (l, i) := by rw [dn, dif_pos h]
theorem dn_rest {n : Nat} {l : List E} {i : Nat} (h : ¬ n ≤ 2 * i + 1) (h2 : ¬ lt (g l (kid n l i)) (g l i)) : dn n l i = (l, i) := by rw [dn, dif_neg h, if_neg h2]
theorem dn_move {n : Nat} {l : List E} {i : Nat} (h : ¬ n ≤ 2 * i + 1) (h2 : lt (g l (kid n l i)) (g l i)) : dn n l i = dn n (swp l i (kid n l i)) (kid n l i) := by rw [dn, dif_neg h, if_pos h2]
/-- What is below place i sinks right: a heap but for place i, whose parent is fine. -/
theorem dn_heap (n : Nat) : ∀ (l : List E) (i : Nat), n ≤ l.length → AH l n i → (0 < i → i < n → le (g l ((i - 1) / 2)) (g l i)) → Hp (dn n l i).1 n := by
  intro l i
  induction hd : n - i using Nat.strongRecOn generalizing l i with
  | _ d ih =>
    intro hn ha hp
    by_cases h : n ≤ 2 * i + 1
    · rw [dn_stop h]
      intro j h0 hj _
      by_cases c1 : j = i
      · subst c1; exact hp h0 hj
      · exact ha.1 j h0 hj ⟨c1, by omega⟩
    · have hk := kid_lt h (l := l)
      have hkg := kid_gt n l i
      have hkp := kid_par n l i
      have hkl := fun k h1 h2 h3 => kid_le h (l := l) (k := k) h1 h2 h3
      by_cases h2 : lt (g l (kid n l i)) (g l i)
      · rw [dn_move h h2]
        generalize kid n l i = k at *
        have hs := swp_get (l := l) (i := i) (j := k) (by omega) (by omega)
        refine ih (n - k) (by omega) _ _ rfl (by rw [swp_length]; exact hn) ⟨?_, ?_⟩ ?_
        · intro j h0 hj ⟨q1, q2⟩
          rw [hs, hs]
          by_cases c1 : j = i
          · subst c1
            rw [if_neg q1, if_pos rfl, if_neg (by omega), if_neg (by omega)]
            exact ha.2 h0 k (by omega) hk hkp
          · rw [if_neg q1, if_neg c1, if_neg q2]
            by_cases c2 : (j - 1) / 2 = i
            · rw [if_pos c2]
              exact hkl j hj c2 h0
            · rw [if_neg c2]
              exact ha.1 j h0 hj ⟨c1, c2⟩
        · intro h0 m hm0 hm hmp
          rw [hs, hs, hkp, if_neg (by omega), if_pos rfl, if_neg (by omega), if_neg (by omega)]
          have := ha.1 m hm0 hm ⟨by omega, by omega⟩
          rw [hmp] at this
          exact this
        · intro h0 hj
          rw [hs, hs, hkp, if_neg (by omega), if_pos rfl, if_pos rfl]
          exact le_of_lt h2
      · rw [dn_rest h h2]
        intro j h0 hj _
        by_cases c1 : j = i
        · subst c1; exact hp h0 hj
        · by_cases c2 : (j - 1) / 2 = i
          · rw [c2]
            have h3 := hkl j hj c2 h0
            have h4 : le (g l i) (g l (kid n l i)) := h2
            exact le_trans h4 h3
          · exact ha.1 j h0 hj ⟨c1, c2⟩
theorem dn_ge (n : Nat) (l : List E) (i : Nat) : i ≤ (dn n l i).2 := by
  induction hd : n - i using Nat.strongRecOn generalizing l i with
  | _ d ih =>
    by_cases h : n ≤ 2 * i + 1
    · rw [dn_stop h]; exact Nat.le_refl _
    · by_cases h2 : lt (g l (kid n l i)) (g l i)
      · rw [dn_move h h2]
        have := kid_gt n l i
        have := ih (n - kid n l i) (by omega) (swp l i (kid n l i)) (kid n l i) rfl
        omega
      · rw [dn_rest h h2]; exact Nat.le_refl _
/-- A heap but for place i: behind the sinking it is a heap, or nothing moved and only place i and its parent may be wrong. -/
theorem dn_any (n : Nat) (l : List E) (i : Nat) (hn : n ≤ l.length) (ha : AH l n i) : ((dn n l i).2 = i ∧ (dn n l i).1 = l ∧ Hx l n (fun j => j ≠ i)) ∨ (i < (dn n l i).2 ∧ Hp (dn n l i).1 n) := by
  by_cases h : n ≤ 2 * i + 1
  · left
    rw [dn_stop h]
    exact ⟨rfl, rfl, fun j h0 hj q => ha.1 j h0 hj ⟨q, by omega⟩⟩
  · by_cases h2 : lt (g l (kid n l i)) (g l i)
    · right
      have hk := kid_lt h (l := l)
      have hkg := kid_gt n l i
      have hkp := kid_par n l i
      have hkl := fun k h1 h2 h3 => kid_le h (l := l) (k := k) h1 h2 h3
      rw [dn_move h h2]
      have hge := dn_ge n (swp l i (kid n l i)) (kid n l i)
      refine ⟨by omega, ?_⟩
      generalize kid n l i = k at *
      have hs := swp_get (l := l) (i := i) (j := k) (by omega) (by omega)
      refine dn_heap n _ _ (by rw [swp_length]; exact hn) ⟨?_, ?_⟩ ?_
      · intro j h0 hj ⟨q1, q2⟩
        rw [hs, hs]
        by_cases c1 : j = i
        · subst c1
          rw [if_neg q1, if_pos rfl, if_neg (by omega), if_neg (by omega)]
          exact ha.2 h0 k (by omega) hk hkp
        · rw [if_neg q1, if_neg c1, if_neg q2]
          by_cases c2 : (j - 1) / 2 = i
          · rw [if_pos c2]
            exact hkl j hj c2 h0
          · rw [if_neg c2]
            exact ha.1 j h0 hj ⟨c1, c2⟩
      · intro h0 m hm0 hm hmp
        rw [hs, hs, hkp, if_neg (by omega), if_pos rfl, if_neg (by omega), if_neg (by omega)]
        have := ha.1 m hm0 hm ⟨by omega, by omega⟩
        rw [hmp] at this
        exact this
      · intro h0 hj
        rw [hs, hs, hkp, if_neg (by omega), if_pos rfl, if_pos rfl]
        exact le_of_lt h2
    · left
      rw [dn_rest h h2]
      refine ⟨rfl, rfl, fun j h0 hj q => ?_⟩
      by_cases c2 : (j - 1) / 2 = i
      · rw [c2]
        have h4 : le (g l i) (g l (kid n l i)) := h2
        exact le_trans h4 (kid_le h hj c2 h0)
      · exact ha.1 j h0 hj ⟨q, c2⟩
theorem dn_perm (n : Nat) (l : List E) (i : Nat) (hn : n ≤ l.length) : (dn n l i).1.Perm l ∧ (dn n l i).1.length = l.length ∧ ∀ k, n ≤ k → g (dn n l i).1 k = g l k := by
  induction hd : n - i using Nat.strongRecOn generalizing l i with
  | _ d ih =>
    by_cases h : n ≤ 2 * i + 1
    · rw [dn_stop h]; exact ⟨List.Perm.refl _, rfl, fun _ _ => rfl⟩
    · by_cases h2 : lt (g l (kid n l i)) (g l i)
      · rw [dn_move h h2]
        have hkg := kid_gt n l i
        have hk := kid_lt h (l := l)
        obtain ⟨h3, h4, h5⟩ := ih (n - kid n l i) (by omega) (swp l i (kid n l i)) (kid n l i) (by rw [swp_length]; exact hn) rfl
        refine ⟨h3.trans (swp_perm (by omega) (by omega)), h4.trans (swp_length _ _ _), fun k hk2 => ?_⟩
        rw [h5 k hk2, swp_get (by omega) (by omega), if_neg (by omega), if_neg (by omega)]
      · rw [dn_rest h h2]; exact ⟨List.Perm.refl _, rfl, fun _ _ => rfl⟩
def upf (l : List E) (j : Nat) : List E :=
  if h : j = 0 then l else if lt (g l j) (g l ((j - 1) / 2)) then upf (swp l ((j - 1) / 2) j) ((j - 1) / 2) else l
termination_by j
decreasing_by omega
theorem upf_zero (l : List E) : upf l 0 = l := by rw [upf, dif_pos rfl]
theorem upf_rest {l : List E} {j : Nat} (h : j ≠ 0) (h2 : ¬ lt (g l j) (g l ((j - 1) / 2))) : upf l j = l := by rw [upf, dif_neg h, if_neg h2]
theorem upf_move {l : List E} {j : Nat} (h : j ≠ 0) (h2 : lt (g l j) (g l ((j - 1) / 2))) : upf l j = upf (swp l ((j - 1) / 2) j) ((j - 1) / 2) := by rw [upf, dif_neg h, if_pos h2]
theorem upf_perm (n : Nat) (l : List E) (j : Nat) (hj : j < n) (hn : n ≤ l.length) : (upf l j).Perm l ∧ (upf l j).length = l.length ∧ ∀ k, n ≤ k → g (upf l j) k = g l k := by
  induction j using Nat.strongRecOn generalizing l with
  | _ j ih =>
    by_cases h : j = 0
    · subst h; rw [upf_zero]; exact ⟨List.Perm.refl _, rfl, fun _ _ => rfl⟩
    · by_cases h2 : lt (g l j) (g l ((j - 1) / 2))
      · rw [upf_move h h2]
        obtain ⟨h3, h4, h5⟩ := ih ((j - 1) / 2) (by omega) (swp l ((j - 1) / 2) j) (by omega) (by rw [swp_length]; exact hn)
        refine ⟨h3.trans (swp_perm (by omega) (by omega)), h4.trans (swp_length _ _ _), fun k hk2 => ?_⟩
        rw [h5 k hk2, swp_get (by omega) (by omega), if_neg (by omega), if_neg (by omega)]
      · rw [upf_rest h h2]; exact ⟨List.Perm.refl _, rfl, fun _ _ => rfl⟩
theorem upf_heap (n : Nat) (l : List E) (j : Nat) (hj : j < n) (hn : n ≤ l.length) (ha : Hx l n (fun k => k ≠ j)) (hg : Gp l n j) : Hp (upf l j) n := by
  induction j using Nat.strongRecOn generalizing l with
  | _ j ih =>
    by_cases h : j = 0
    · subst h
      rw [upf_zero]
      exact fun k h0 hk _ => ha k h0 hk (by omega)
    · by_cases h2 : lt (g l j) (g l ((j - 1) / 2))
      · rw [upf_move h h2]
        have hs := swp_get (l := l) (i := (j - 1) / 2) (j := j) (by omega) (by omega)
        generalize hp : (j - 1) / 2 = p at *
        refine ih p (by omega) _ (by omega) (by rw [swp_length]; exact hn) ?_ ?_
        · intro k h0 hk q
          rw [hs, hs]
          by_cases c1 : k = j
          · subst c1
            rw [if_pos rfl, hp, if_neg (by omega), if_pos rfl]
            exact le_of_lt h2
          · rw [if_neg c1, if_neg q]
            by_cases c2 : (k - 1) / 2 = j
            · rw [if_pos c2]
              have := hg (by omega) k h0 hk c2
              rw [hp] at this
              exact this
            · rw [if_neg c2]
              by_cases c3 : (k - 1) / 2 = p
              · rw [if_pos c3]
                have := ha k h0 hk c1
                rw [c3] at this
                exact le_trans (le_of_lt h2) this
              · rw [if_neg c3]
                exact ha k h0 hk c1
        · intro h0 k hk0 hk hkp
          rw [hs, hs]
          have hpp := ha p h0 (by omega) (by omega)
          rw [if_neg (show (p - 1) / 2 ≠ j by omega), if_neg (show (p - 1) / 2 ≠ p by omega)]
          by_cases c1 : k = j
          · rw [if_pos c1]
            exact hpp
          · rw [if_neg c1, if_neg (by omega)]
            have := ha k hk0 hk c1
            rw [hkp] at this
            exact le_trans hpp this
      · rw [upf_rest h h2]
        intro k h0 hk _
        by_cases c1 : k = j
        · subst c1; exact h2
        · exact ha k h0 hk c1
/-- Sunk, and risen if nothing sank. -/
def fix (n : Nat) (l : List E) (i : Nat) : List E := if i < (dn n l i).2 then (dn n l i).1 else upf (dn n l i).1 i
theorem fix_heap (n : Nat) (l : List E) (i : Nat) (hi : i < n) (hn : n ≤ l.length) (ha : AH l n i) : Hp (fix n l i) n := by
  unfold fix
  rcases dn_any n l i hn ha with ⟨h1, h2, h3⟩ | ⟨h1, h2⟩
  · rw [if_neg (by omega), h2]
    exact upf_heap n l i hi hn h3 ha.2
  · rw [if_pos h1]; exact h2
theorem fix_perm (n : Nat) (l : List E) (i : Nat) (hi : i < n) (hn : n ≤ l.length) : (fix n l i).Perm l ∧ (fix n l i).length = l.length ∧ ∀ k, n ≤ k → g (fix n l i) k = g l k := by
  obtain ⟨h1, h2, h3⟩ := dn_perm n l i hn
  unfold fix
  split
  · exact ⟨h1, h2, h3⟩
  · obtain ⟨k1, k2, k3⟩ := upf_perm n (dn n l i).1 i hi (by rw [h2]; exact hn)
    exact ⟨k1.trans h1, k2.trans h2, fun k hk => (k3 k hk).trans (h3 k hk)⟩
theorem hp_first {l : List E} {n : Nat} (h : Hp l n) : ∀ j, j < n → le (g l 0) (g l j) := by
  intro j
  induction j using Nat.strongRecOn with
  | _ j ih =>
    intro hj
    by_cases h0 : j = 0
    · subst h0; exact le_refl _
    · exact le_trans (ih ((j - 1) / 2) (by omega) (by omega)) (h j (by omega) hj trivial)
theorem ah_set {l : List E} {n i : Nat} (h : Hp l n) (x : E) (hn : n ≤ l.length) : AH (l.set i x) n i := by
  have hs : ∀ k, k ≠ i → g (l.set i x) k = g l k := fun k hk => by
    unfold g
    rw [List.getD_eq_getElem?_getD, List.getD_eq_getElem?_getD, List.getElem?_set_ne (Ne.symm hk)]
  refine ⟨fun j h0 hj ⟨q1, q2⟩ => ?_, fun h0 k hk0 hk hkp => ?_⟩
  · rw [hs _ q1, hs _ q2]
    exact h j h0 hj trivial
  · rw [hs _ (by omega), hs _ (by omega)]
    have h1 := h k hk0 hk trivial
    rw [hkp] at h1
    exact le_trans (h i h0 (by omega) trivial) h1
theorem hp_less {l : List E} {n m : Nat} (h : Hp l n) (hm : m ≤ n) : Hp l m := fun j h0 hj _ => h j h0 (by omega) trivial
theorem hp_congr {l m : List E} {n : Nat} (h : Hp l n) (e : ∀ k, k < n → g m k = g l k) : Hp m n := fun j h0 hj _ => by
  rw [e _ (by omega), e _ hj]
  exact h j h0 hj trivial
end Go.Proofs.Ytekkblhghbkdiaa

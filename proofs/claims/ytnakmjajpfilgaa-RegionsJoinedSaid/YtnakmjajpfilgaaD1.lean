/- Plain facts of regions: stretches that rise and never touch, their numbers, what is added and taken out. -/
namespace Go.Proofs.Ytnakmjajpfilgaa
set_option linter.unusedVariables false
/-- A stretch: from a to b - 1. -/
structure R2 where
  a : Int
  b : Int
  deriving DecidableEq
def Mem (l : List R2) (i : Int) : Prop := ∃ r ∈ l, r.a ≤ i ∧ i < r.b
/-- Stretches that rise, are not empty, and never touch. -/
def Good (lo hi : Int) : List R2 → Prop
  | [] => True
  | r :: l => lo ≤ r.a ∧ r.a < r.b ∧ r.b ≤ hi ∧ Good (r.b + 1) hi l
theorem Good.weaken {lo lo' hi : Int} (h : lo' ≤ lo) : ∀ {l : List R2}, Good lo hi l → Good lo' hi l
  | [], _ => trivial
  | r :: l, g => ⟨Int.le_trans h g.1, g.2⟩
theorem Good.lift {lo hi hi' : Int} (h : hi ≤ hi') : ∀ {l : List R2} {lo : Int}, Good lo hi l → Good lo hi' l
  | [], _, _ => trivial
  | r :: l, lo, g => ⟨g.1, g.2.1, Int.le_trans g.2.2.1 h, Good.lift (lo := lo) h g.2.2.2⟩
theorem Good.mem {hi : Int} : ∀ {l : List R2} {lo : Int}, Good lo hi l → ∀ r, r ∈ l → lo ≤ r.a ∧ r.a < r.b ∧ r.b ≤ hi
  | [], _, _, r, h => by simp at h
  | s :: l, lo, g, r, h => by
    rcases List.mem_cons.1 h with rfl | h
    · exact ⟨g.1, g.2.1, g.2.2.1⟩
    · have := Good.mem g.2.2.2 r h
      have := g.1
      have := g.2.1
      omega
theorem Good.ge {lo hi : Int} {l : List R2} (g : Good lo hi l) {i : Int} (h : Mem l i) : lo ≤ i ∧ i < hi := by
  obtain ⟨r, hr, h1, h2⟩ := h
  have := g.mem r hr
  omega
theorem mem_cons (r : R2) (l : List R2) (i : Int) : Mem (r :: l) i ↔ (r.a ≤ i ∧ i < r.b) ∨ Mem l i := by
  unfold Mem
  constructor
  · rintro ⟨s, hs, h⟩
    rcases List.mem_cons.1 hs with rfl | hs
    · exact .inl h
    · exact .inr ⟨s, hs, h⟩
  · rintro (h | ⟨s, hs, h⟩)
    · exact ⟨r, by simp, h⟩
    · exact ⟨s, by simp [hs], h⟩
theorem mem_nil (i : Int) : ¬ Mem [] i := by rintro ⟨r, h, _⟩; simp at h
theorem mem_append (l m : List R2) (i : Int) : Mem (l ++ m) i ↔ Mem l i ∨ Mem m i := by
  induction l with
  | nil => simp [mem_nil]
  | cons r l ih => rw [List.cons_append, mem_cons, mem_cons, ih, or_assoc]
/-- One stretch added. -/
def addL : List R2 → R2 → List R2
  | [], o => [o]
  | r :: l, o => if r.b < o.a then r :: addL l o else if o.b < r.a then o :: addL l r else addL l ⟨min o.a r.a, max o.b r.b⟩
def stepA (st : List R2 × R2) (r : R2) : List R2 × R2 := if r.b < st.2.a then (st.1 ++ [r], st.2) else if st.2.b < r.a then (st.1 ++ [st.2], r) else (st.1, ⟨min st.2.a r.a, max st.2.b r.b⟩)
theorem fold_addL : ∀ (l : List R2) (st : List R2 × R2), (l.foldl stepA st).1 ++ [(l.foldl stepA st).2] = st.1 ++ addL l st.2
  | [], st => rfl
  | r :: l, st => by
    rw [List.foldl_cons, fold_addL l (stepA st r)]
    unfold stepA
    by_cases h1 : r.b < st.2.a
    · rw [if_pos h1]
      conv => rhs; unfold addL
      rw [if_pos h1]
      simp
    · rw [if_neg h1]
      conv => rhs; unfold addL
      rw [if_neg h1]
      by_cases h2 : st.2.b < r.a
      · rw [if_pos h2, if_pos h2]
        simp
      · rw [if_neg h2, if_neg h2]
theorem good_addL {hi : Int} : ∀ (l : List R2) (o : R2) (lo : Int), Good lo hi l → lo ≤ o.a → o.a < o.b → o.b ≤ hi → Good lo hi (addL l o)
  | [], o, lo, _, h1, h2, h3 => ⟨h1, h2, h3, trivial⟩
  | r :: l, o, lo, g, h1, h2, h3 => by
    obtain ⟨g1, g2, g3, g4⟩ := g
    unfold addL
    by_cases c1 : r.b < o.a
    · rw [if_pos c1]
      exact ⟨g1, g2, g3, good_addL l o _ g4 (by omega) h2 h3⟩
    · rw [if_neg c1]
      by_cases c2 : o.b < r.a
      · rw [if_pos c2]
        exact ⟨h1, h2, h3, good_addL l r _ (g4.weaken (by omega)) (by omega) g2 g3⟩
      · rw [if_neg c2]
        exact good_addL l _ _ (g4.weaken (by omega)) (by show lo ≤ min o.a r.a; omega) (by show min o.a r.a < max o.b r.b; omega) (by show max o.b r.b ≤ hi; omega)
theorem mem_addL {hi : Int} (i : Int) : ∀ (l : List R2) (o : R2) (lo : Int), Good lo hi l → o.a < o.b → (Mem (addL l o) i ↔ Mem l i ∨ (o.a ≤ i ∧ i < o.b))
  | [], o, lo, _, h2 => by
    unfold addL
    rw [mem_cons]
    constructor
    · rintro (h | h)
      · exact .inr h
      · exact absurd h (mem_nil i)
    · rintro (h | h)
      · exact absurd h (mem_nil i)
      · exact .inl h
  | r :: l, o, lo, g, h2 => by
    obtain ⟨g1, g2, g3, g4⟩ := g
    unfold addL
    by_cases c1 : r.b < o.a
    · rw [if_pos c1, mem_cons, mem_cons, mem_addL i l o _ g4 h2, or_assoc]
    · rw [if_neg c1]
      by_cases c2 : o.b < r.a
      · rw [if_pos c2, mem_cons, mem_cons, mem_addL i l r _ g4 g2]
        constructor
        · rintro (h | h | h)
          · exact .inr h
          · exact .inl (.inr h)
          · exact .inl (.inl h)
        · rintro ((h | h) | h)
          · exact .inr (.inr h)
          · exact .inr (.inl h)
          · exact .inl h
      · rw [if_neg c2, mem_cons, mem_addL i l _ _ g4 (by show min o.a r.a < max o.b r.b; omega)]
        show Mem l i ∨ (min o.a r.a ≤ i ∧ i < max o.b r.b) ↔ _
        constructor
        · rintro (h | h)
          · exact .inl (.inr h)
          · by_cases q : r.a ≤ i ∧ i < r.b
            · exact .inl (.inl q)
            · exact .inr (by omega)
        · rintro ((h | h) | h)
          · exact .inr (by omega)
          · exact .inl h
          · exact .inr (by omega)
/-- How many numbers two stretches have in common. -/
def com (r s : R2) : Int := max 0 (min r.b s.b - max r.a s.a)
def cutR (s r : R2) : List R2 := if com r s = 0 then [r] else (if r.a < s.a then [⟨r.a, s.a⟩] else []) ++ (if s.b < r.b then [⟨s.b, r.b⟩] else [])
/-- Numbers taken out. -/
def delL (l : List R2) (s : R2) : List R2 := l.flatMap (cutR s)
theorem com_nonneg (r s : R2) : 0 ≤ com r s := by unfold com; omega
theorem good_delL {hi : Int} (s : R2) : ∀ (l : List R2) (lo : Int), Good lo hi l → Good lo hi (delL l s)
  | [], _, _ => trivial
  | r :: l, lo, g => by
    obtain ⟨g1, g2, g3, g4⟩ := g
    have ih := good_delL s l _ g4
    unfold delL at ih ⊢
    rw [List.flatMap_cons]
    unfold cutR
    by_cases c : com r s = 0
    · rw [if_pos c]
      exact ⟨g1, g2, g3, ih⟩
    · rw [if_neg c]
      have hc : max r.a s.a < min r.b s.b := by unfold com at c; omega
      by_cases c1 : r.a < s.a
      · rw [if_pos c1]
        by_cases c2 : s.b < r.b
        · rw [if_pos c2]
          exact ⟨g1, c1, by show s.a ≤ hi; omega, by show s.a + 1 ≤ s.b; omega, c2, g3, ih⟩
        · rw [if_neg c2]
          exact ⟨g1, c1, by show s.a ≤ hi; omega, ih.weaken (by show s.a + 1 ≤ r.b + 1; omega)⟩
      · rw [if_neg c1]
        by_cases c2 : s.b < r.b
        · rw [if_pos c2]
          exact ⟨by show lo ≤ s.b; omega, c2, g3, ih⟩
        · rw [if_neg c2]
          exact ih.weaken (by omega)
theorem mem_cutR (r s : R2) (i : Int) (h : s.a ≤ s.b) : Mem (cutR s r) i ↔ (r.a ≤ i ∧ i < r.b) ∧ ¬ (s.a ≤ i ∧ i < s.b) := by
  unfold cutR
  by_cases c : com r s = 0
  · rw [if_pos c, mem_cons]
    have hc : min r.b s.b ≤ max r.a s.a := by unfold com at c; omega
    constructor
    · rintro (h | h)
      · exact ⟨h, by omega⟩
      · exact absurd h (mem_nil i)
    · rintro ⟨h, _⟩
      exact .inl h
  · rw [if_neg c, mem_append]
    have hc : max r.a s.a < min r.b s.b := by unfold com at c; omega
    have e1 : Mem (if r.a < s.a then [⟨r.a, s.a⟩] else []) i ↔ r.a < s.a ∧ r.a ≤ i ∧ i < s.a := by
      by_cases c1 : r.a < s.a
      · rw [if_pos c1, mem_cons]
        constructor
        · rintro (h | h)
          · exact ⟨c1, h⟩
          · exact absurd h (mem_nil i)
        · rintro ⟨_, h⟩; exact .inl h
      · rw [if_neg c1]
        exact ⟨fun h => absurd h (mem_nil i), fun h => absurd h.1 c1⟩
    have e2 : Mem (if s.b < r.b then [⟨s.b, r.b⟩] else []) i ↔ s.b < r.b ∧ s.b ≤ i ∧ i < r.b := by
      by_cases c1 : s.b < r.b
      · rw [if_pos c1, mem_cons]
        constructor
        · rintro (h | h)
          · exact ⟨c1, h⟩
          · exact absurd h (mem_nil i)
        · rintro ⟨_, h⟩; exact .inl h
      · rw [if_neg c1]
        exact ⟨fun h => absurd h (mem_nil i), fun h => absurd h.1 c1⟩
    rw [e1, e2]
    omega
theorem mem_delL (s : R2) (i : Int) (h : s.a ≤ s.b) (l : List R2) : Mem (delL l s) i ↔ Mem l i ∧ ¬ (s.a ≤ i ∧ i < s.b) := by
  induction l with
  | nil => exact ⟨fun h => absurd h (mem_nil i), fun h => absurd h.1 (mem_nil i)⟩
  | cons r l ih =>
    unfold delL at ih ⊢
    rw [List.flatMap_cons, mem_append, ih, mem_cons, mem_cutR r s i h]
    constructor
    · rintro (⟨h1, h2⟩ | ⟨h1, h2⟩)
      · exact ⟨.inl h1, h2⟩
      · exact ⟨.inr h1, h2⟩
    · rintro ⟨h1 | h1, h2⟩
      · exact .inl ⟨h1, h2⟩
      · exact .inr ⟨h1, h2⟩
/-- How many numbers of a stretch are in regions. -/
def cntL : List R2 → R2 → Int
  | [], _ => 0
  | r :: l, s => com r s + cntL l s
theorem cntL_cons (r : R2) (l : List R2) (s : R2) : cntL (r :: l) s = com r s + cntL l s := rfl
theorem cntL_append (l m : List R2) (s : R2) : cntL (l ++ m) s = cntL l s + cntL m s := by
  induction l with
  | nil => exact (Int.zero_add _).symm
  | cons r l ih => rw [List.cons_append, cntL_cons, cntL_cons, ih]; omega
theorem cntL_nonneg (l : List R2) (s : R2) : 0 ≤ cntL l s := by
  induction l with
  | nil => exact Int.le_refl 0
  | cons r l ih => unfold cntL; have := com_nonneg r s; omega
/-- Whether a number is in a region, as a Bool. -/
def inB (l : List R2) (i : Int) : Bool := l.any fun r => decide (r.a ≤ i) && decide (i < r.b)
theorem inB_iff (l : List R2) (i : Int) : inB l i = true ↔ Mem l i := by
  unfold inB Mem
  simp only [List.any_eq_true, Bool.and_eq_true, decide_eq_true_eq]
/-- How many of the numbers below n are in a stretch and marked. -/
def cq (f : Nat → Bool) (a b : Int) : Nat → Nat
  | 0 => 0
  | n + 1 => cq f a b n + if a ≤ (n : Int) ∧ (n : Int) < b ∧ f n = true then 1 else 0
theorem cq_succ (f : Nat → Bool) (a b : Int) (n : Nat) : cq f a b (n + 1) = cq f a b n + if a ≤ (n : Int) ∧ (n : Int) < b ∧ f n = true then 1 else 0 := rfl
theorem cq_le (f : Nat → Bool) (a b : Int) (n : Nat) : cq f a b n ≤ n := by
  induction n with
  | zero => exact Nat.le_refl _
  | succ n ih => rw [cq_succ]; split <;> omega
theorem cntL_zero (l : List R2) (s : R2) (b : Int) (h : 0 ≤ s.a) (hb : b ≤ 0) : cntL l ⟨s.a, b⟩ = 0 := by
  induction l with
  | nil => rfl
  | cons r l ih =>
    unfold cntL
    rw [ih]
    unfold com
    show max 0 (min r.b b - max r.a s.a) + 0 = 0
    omega
theorem cntL_step {hi : Int} (s : R2) (n : Nat) (h : 0 ≤ s.a) : ∀ (l : List R2) (lo : Int), Good lo hi l → cntL l ⟨s.a, min s.b ((n + 1 : Nat) : Int)⟩ = cntL l ⟨s.a, min s.b (n : Int)⟩ + if s.a ≤ (n : Int) ∧ (n : Int) < s.b ∧ inB l (n : Int) = true then 1 else 0
  | [], _, _ => by
    have : ¬ (s.a ≤ (n : Int) ∧ (n : Int) < s.b ∧ inB [] (n : Int) = true) := fun q => mem_nil _ ((inB_iff _ _).1 q.2.2)
    rw [if_neg this]
    rfl
  | r :: l, lo, g => by
    obtain ⟨g1, g2, g3, g4⟩ := g
    unfold cntL
    rw [cntL_step s n h l _ g4]
    have hc : com r ⟨s.a, min s.b ((n + 1 : Nat) : Int)⟩ = com r ⟨s.a, min s.b (n : Int)⟩ + if s.a ≤ (n : Int) ∧ (n : Int) < s.b ∧ r.a ≤ (n : Int) ∧ (n : Int) < r.b then 1 else 0 := by
      unfold com
      show max 0 (min r.b (min s.b ((n + 1 : Nat) : Int)) - max r.a s.a) = max 0 (min r.b (min s.b (n : Int)) - max r.a s.a) + _
      split <;> omega
    rw [hc]
    by_cases c : r.a ≤ (n : Int) ∧ (n : Int) < r.b
    · have hno : inB l (n : Int) ≠ true := fun q => by
        have := (g4.ge ((inB_iff l n).1 q)).1
        omega
      have hyes : inB (r :: l) (n : Int) = true := (inB_iff _ _).2 ((mem_cons r l n).2 (.inl c))
      by_cases c2 : s.a ≤ (n : Int) ∧ (n : Int) < s.b
      · rw [if_pos ⟨c2.1, c2.2, c⟩, if_neg (fun q => hno q.2.2), if_pos ⟨c2.1, c2.2, hyes⟩]
        omega
      · rw [if_neg (fun q => c2 ⟨q.1, q.2.1⟩), if_neg (fun q => hno q.2.2), if_neg (fun q => c2 ⟨q.1, q.2.1⟩)]
        omega
    · have he : inB (r :: l) (n : Int) = true ↔ inB l (n : Int) = true := by
        rw [inB_iff, inB_iff, mem_cons]
        exact ⟨fun q => q.resolve_left c, .inr⟩
      rw [if_neg (fun q => c q.2.2)]
      by_cases c3 : s.a ≤ (n : Int) ∧ (n : Int) < s.b ∧ inB l (n : Int) = true
      · rw [if_pos c3, if_pos ⟨c3.1, c3.2.1, he.2 c3.2.2⟩]
        omega
      · rw [if_neg c3, if_neg (fun q => c3 ⟨q.1, q.2.1, he.1 q.2.2⟩)]
        omega
theorem cntL_cq {lo hi : Int} {l : List R2} (g : Good lo hi l) (s : R2) (h : 0 ≤ s.a) {f : Nat → Bool} (hf : ∀ i : Nat, f i = inB l (i : Int)) (n : Nat) : cntL l ⟨s.a, min s.b (n : Int)⟩ = (cq f s.a s.b n : Nat) := by
  induction n with
  | zero => rw [cntL_zero l s _ h (by omega)]; rfl
  | succ n ih =>
    rw [cntL_step s n h l lo g, ih, cq_succ, hf n]
    split <;> omega
theorem cntL_all {lo hi : Int} {l : List R2} (g : Good lo hi l) (s : R2) (h : 0 ≤ s.a) {f : Nat → Bool} (hf : ∀ i : Nat, f i = inB l (i : Int)) (n : Nat) (hb : s.b ≤ (n : Int)) : cntL l s = (cq f s.a s.b n : Nat) := by
  have := cntL_cq g s h hf n
  rw [show min s.b (n : Int) = s.b by omega] at this
  exact this
theorem cq_add (f f' : Nat → Bool) (a b : Int) (h0 : 0 ≤ a) (N : Int) (hf : ∀ i : Nat, f' i = (f i || (decide (a ≤ (i : Int)) && decide ((i : Int) < b)))) (n : Nat) (hn : (n : Int) ≤ N) :
    (cq f' 0 N n : Int) + cq f a b n = cq f 0 N n + max 0 (min b (n : Int) - a) := by
  induction n with
  | zero => unfold cq; show (0 : Int) + 0 = 0 + max 0 (min b 0 - a); omega
  | succ n ih =>
    have ih := ih (by omega)
    rw [cq_succ, cq_succ, cq_succ, hf n]
    by_cases c1 : f n = true
    · by_cases c2 : a ≤ (n : Int) ∧ (n : Int) < b
      · rw [if_pos ⟨by omega, by omega, by simp [c1]⟩, if_pos ⟨c2.1, c2.2, c1⟩, if_pos ⟨by omega, by omega, c1⟩]
        omega
      · rw [if_pos ⟨by omega, by omega, by simp [c1]⟩, if_neg (fun q => c2 ⟨q.1, q.2.1⟩), if_pos ⟨by omega, by omega, c1⟩]
        omega
    · by_cases c2 : a ≤ (n : Int) ∧ (n : Int) < b
      · rw [if_pos ⟨by omega, by omega, by simp [c2.1, c2.2]⟩, if_neg (fun q => c1 q.2.2), if_neg (fun q => c1 q.2.2)]
        omega
      · rw [if_neg (fun q => by
          have := q.2.2
          simp only [Bool.or_eq_true, Bool.and_eq_true, decide_eq_true_eq] at this
          exact this.elim c1 c2), if_neg (fun q => c1 q.2.2), if_neg (fun q => c1 q.2.2)]
        omega
theorem cq_del (f f' : Nat → Bool) (a b : Int) (N : Int) (hf : ∀ i : Nat, f' i = (f i && !(decide (a ≤ (i : Int)) && decide ((i : Int) < b)))) (n : Nat) (hn : (n : Int) ≤ N) :
    (cq f' 0 N n : Int) + cq f a b n = cq f 0 N n := by
  induction n with
  | zero => rfl
  | succ n ih =>
    have ih := ih (by omega)
    rw [cq_succ, cq_succ, cq_succ, hf n]
    by_cases c1 : f n = true
    · by_cases c2 : a ≤ (n : Int) ∧ (n : Int) < b
      · rw [if_neg (fun q => by
          have := q.2.2
          simp only [Bool.and_eq_true, Bool.not_eq_true', Bool.and_eq_false_iff, decide_eq_false_iff_not] at this
          omega), if_pos ⟨c2.1, c2.2, c1⟩, if_pos ⟨by omega, by omega, c1⟩]
        omega
      · rw [if_pos ⟨by omega, by omega, by
          simp only [Bool.and_eq_true, Bool.not_eq_true', Bool.and_eq_false_iff, decide_eq_false_iff_not]
          exact ⟨c1, by omega⟩⟩, if_neg (fun q => c2 ⟨q.1, q.2.1⟩), if_pos ⟨by omega, by omega, c1⟩]
        omega
    · rw [if_neg (fun q => by
          have := q.2.2
          simp only [Bool.and_eq_true] at this
          exact c1 this.1), if_neg (fun q => c1 q.2.2), if_neg (fun q => c1 q.2.2)]
      omega
/-- Stretches that have the same numbers are the same. -/
theorem good_unique {hi : Int} : ∀ (l m : List R2) (lo : Int), Good lo hi l → Good lo hi m → (∀ i, Mem l i ↔ Mem m i) → l = m
  | [], [], _, _, _, _ => rfl
  | [], r :: m, _, _, g, h => absurd ((h r.a).2 ((mem_cons _ _ _).2 (.inl ⟨Int.le_refl _, g.2.1⟩))) (mem_nil _)
  | r :: l, [], _, g, _, h => absurd ((h r.a).1 ((mem_cons _ _ _).2 (.inl ⟨Int.le_refl _, g.2.1⟩))) (mem_nil _)
  | r :: l, s :: m, lo, g, k, h => by
    obtain ⟨g1, g2, g3, g4⟩ := g
    obtain ⟨k1, k2, k3, k4⟩ := k
    have low : ∀ {t : R2} {l : List R2} {i : Int}, Good (t.b + 1) hi l → Mem (t :: l) i → t.a < t.b → t.a ≤ i := fun {t l i} g h hlt => by
      rcases (mem_cons t l i).1 h with h | h
      · exact h.1
      · have := (g.ge h).1; omega
    have e1 : s.a ≤ r.a := low k4 ((h r.a).1 ((mem_cons _ _ _).2 (.inl ⟨Int.le_refl _, g2⟩))) k2
    have e2 : r.a ≤ s.a := low g4 ((h s.a).2 ((mem_cons _ _ _).2 (.inl ⟨Int.le_refl _, k2⟩))) g2
    have end1 : ∀ {t u : R2} {l m : List R2}, Good (t.b + 1) hi l → (∀ i, Mem (t :: l) i ↔ Mem (u :: m) i) → t.a = u.a → t.a < t.b → ¬ t.b < u.b := fun {t u l m} g h e ht hlt => by
      have := (h t.b).2 ((mem_cons _ _ _).2 (.inl ⟨by omega, hlt⟩))
      rcases (mem_cons t l _).1 this with q | q
      · omega
      · have := (g.ge q).1; omega
    have e3 := end1 g4 h (by omega) g2
    have e4 := end1 k4 (fun i => (h i).symm) (by omega) k2
    have e : r = s := by
      cases r; cases s
      simp only [R2.mk.injEq]
      dsimp only at e1 e2 e3 e4
      omega
    subst e
    congr 1
    refine good_unique l m _ g4 k4 fun i => ?_
    constructor
    · intro q
      rcases (mem_cons r m i).1 ((h i).1 ((mem_cons r l i).2 (.inr q))) with q2 | q2
      · have := (g4.ge q).1; omega
      · exact q2
    · intro q
      rcases (mem_cons r l i).1 ((h i).2 ((mem_cons r m i).2 (.inr q))) with q2 | q2
      · have := (k4.ge q).1; omega
      · exact q2
/-- The regions of marked numbers, as the reference tells them. -/
def lastB (l : List R2) (b : Int) : List R2 := l.modify (l.length - 1) fun r => { r with b := b }
def regs (f : Nat → Bool) : Nat → List R2
  | 0 => []
  | n + 1 => if f n = true then (if 0 < n ∧ f (n - 1) = true then lastB (regs f n) ((n : Int) + 1) else regs f n ++ [⟨n, n + 1⟩]) else regs f n
theorem lastB_append (l : List R2) (r : R2) (b : Int) : lastB (l ++ [r]) b = l ++ [{ r with b := b }] := by
  unfold lastB
  rw [List.length_append, List.length_singleton, Nat.add_sub_cancel]
  apply List.ext_getElem?
  intro j
  rw [List.getElem?_modify]
  by_cases h : l.length = j
  · subst h
    simp
  · simp only [h, if_false]
    rcases Nat.lt_or_ge j l.length with hj | hj
    · rw [List.getElem?_append_left hj, List.getElem?_append_left hj]
      cases l[j]? <;> rfl
    · rw [List.getElem?_eq_none (by rw [List.length_append, List.length_singleton]; omega), List.getElem?_eq_none (by rw [List.length_append, List.length_singleton]; omega)]
      rfl
theorem good_snoc {hi : Int} : ∀ (l : List R2) (lo : Int) (r : R2), Good lo hi l → lo ≤ r.a → (∀ s ∈ l, s.b < r.a) → r.a < r.b → r.b ≤ hi → Good lo hi (l ++ [r])
  | [], lo, r, _, h1, _, h2, h3 => ⟨h1, h2, h3, trivial⟩
  | s :: l, lo, r, g, h1, h, h2, h3 => ⟨g.1, g.2.1, g.2.2.1, good_snoc l _ r g.2.2.2 (by have := h s (by simp); omega) (fun t ht => h t (by simp [ht])) h2 h3⟩
theorem good_init {hi : Int} : ∀ (l : List R2) (lo : Int) (r : R2), Good lo hi (l ++ [r]) → Good lo hi l ∧ lo ≤ r.a ∧ (∀ s ∈ l, s.b < r.a) ∧ r.a < r.b ∧ r.b ≤ hi
  | [], lo, r, g => ⟨trivial, g.1, fun s h => by simp at h, g.2.1, g.2.2.1⟩
  | s :: l, lo, r, g => by
    obtain ⟨h1, h2, h3, h4, h5⟩ := good_init l _ r g.2.2.2
    have := g.1
    have := g.2.1
    refine ⟨⟨g.1, g.2.1, g.2.2.1, h1⟩, by omega, fun t ht => ?_, h4, h5⟩
    rcases List.mem_cons.1 ht with rfl | ht
    · omega
    · exact h3 t ht
theorem regs_facts (f : Nat → Bool) (n : Nat) : Good 0 n (regs f n) ∧ (∀ i, Mem (regs f n) i ↔ ∃ k : Nat, i = k ∧ k < n ∧ f k = true) ∧ (0 < n → f (n - 1) = true → ∃ (l : List R2) (r : R2), regs f n = l ++ [r] ∧ r.b = (n : Int)) ∧ (0 < n → f (n - 1) = false → ∀ r ∈ regs f n, r.b < (n : Int)) := by
  induction n with
  | zero => exact ⟨trivial, fun i => ⟨fun h => absurd h (mem_nil i), fun ⟨k, _, h, _⟩ => by omega⟩, fun h => by omega, fun h => by omega⟩
  | succ n ih =>
    obtain ⟨h1, h2, h3, h4⟩ := ih
    have h1' : Good 0 ((n + 1 : Nat) : Int) (regs f n) := h1.lift (lo := 0) (by omega)
    unfold regs
    rw [Nat.add_sub_cancel]
    by_cases c : f n = true
    · rw [if_pos c]
      by_cases c2 : 0 < n ∧ f (n - 1) = true
      · rw [if_pos c2]
        obtain ⟨l, r, e, hb⟩ := h3 c2.1 c2.2
        rw [e, lastB_append]
        rw [e] at h1' h2
        obtain ⟨q1, q2, q3, q4, q5⟩ := good_init l _ r h1'
        refine ⟨good_snoc l _ _ q1 q2 q3 (by show r.a < (n : Int) + 1; omega) (by show (n : Int) + 1 ≤ _; omega), fun i => ?_, fun _ _ => ⟨l, _, rfl, by show (n : Int) + 1 = ((n + 1 : Nat) : Int); omega⟩, fun _ h => by rw [c] at h; cases h⟩
        have h2 := h2 i
        rw [mem_append, mem_cons] at h2 ⊢
        constructor
        · rintro (h | h | h)
          · obtain ⟨k, e, hk, hf⟩ := h2.1 (.inl h)
            exact ⟨k, e, by omega, hf⟩
          · by_cases hi : i < r.b
            · obtain ⟨k, e, hk, hf⟩ := h2.1 (.inr (.inl ⟨h.1, hi⟩))
              exact ⟨k, e, by omega, hf⟩
            · have h := h.2
              dsimp only at h
              exact ⟨n, by omega, by omega, c⟩
          · exact absurd h (mem_nil i)
        · rintro ⟨k, e, hk, hf⟩
          by_cases hkn : k = n
          · exact .inr (.inl ⟨by show r.a ≤ i; omega, by show i < (n : Int) + 1; omega⟩)
          · rcases h2.2 ⟨k, e, by omega, hf⟩ with h | h | h
            · exact .inl h
            · exact .inr (.inl ⟨h.1, by show i < (n : Int) + 1; omega⟩)
            · exact absurd h (mem_nil i)
      · rw [if_neg c2]
        refine ⟨good_snoc _ _ _ h1' (by show (0 : Int) ≤ n; omega) (fun s hs => ?_) (by show (n : Int) < n + 1; omega) (by show (n : Int) + 1 ≤ _; omega), fun i => ?_, fun _ _ => ⟨_, _, rfl, by show (n : Int) + 1 = ((n + 1 : Nat) : Int); omega⟩, fun _ h => by rw [c] at h; cases h⟩
        · show s.b < (n : Int)
          rcases Nat.eq_zero_or_pos n with h0 | h0
          · have := (h1.mem s hs); omega
          · exact h4 h0 (by cases hfn : f (n - 1) with | true => exact absurd ⟨h0, hfn⟩ c2 | false => rfl) s hs
        · rw [mem_append, mem_cons, h2 i]
          constructor
          · rintro (⟨k, e, hk, hf⟩ | h | h)
            · exact ⟨k, e, by omega, hf⟩
            · have h1 := h.1
              have h2 := h.2
              dsimp only at h1 h2
              exact ⟨n, by omega, by omega, c⟩
            · exact absurd h (mem_nil i)
          · rintro ⟨k, e, hk, hf⟩
            by_cases hkn : k = n
            · exact .inr (.inl ⟨by show (n : Int) ≤ i; omega, by show i < (n : Int) + 1; omega⟩)
            · exact .inl ⟨k, e, by omega, hf⟩
    · rw [if_neg c]
      refine ⟨h1', fun i => ?_, fun _ h => absurd h c, fun _ _ r hr => ?_⟩
      · rw [h2 i]
        constructor
        · rintro ⟨k, e, hk, hf⟩
          exact ⟨k, e, by omega, hf⟩
        · rintro ⟨k, e, hk, hf⟩
          by_cases hkn : k = n
          · subst hkn; exact absurd hf c
          · exact ⟨k, e, by omega, hf⟩
      · have := h1.mem r hr
        omega
theorem regs_eq {l : List R2} {n : Nat} (g : Good 0 n l) {f : Nat → Bool} (hf : ∀ i : Nat, f i = inB l (i : Int)) : regs f n = l := by
  obtain ⟨h1, h2, _, _⟩ := regs_facts f n
  refine good_unique _ _ 0 h1 g fun i => ?_
  rw [h2 i]
  constructor
  · rintro ⟨k, rfl, _, hk⟩
    rw [hf k] at hk
    exact (inB_iff l k).1 hk
  · intro h
    have hb := g.ge h
    obtain ⟨k, rfl⟩ := Int.eq_ofNat_of_zero_le hb.1
    exact ⟨k, rfl, by omega, by rw [hf k]; exact (inB_iff l k).2 h⟩
theorem regs_length (f : Nat → Bool) (n : Nat) : (regs f n).length ≤ n := by
  induction n with
  | zero => exact Nat.le_refl _
  | succ n ih =>
    unfold regs
    split
    · split
      · unfold lastB; rw [List.length_modify]; omega
      · rw [List.length_append, List.length_singleton]; omega
    · omega
end Go.Proofs.Ytnakmjajpfilgaa

/- Plain theorems for layer 18 (gap): trees of stretches, lists of stretches, room. -/

namespace Go.Proofs.Ytkaglggljomgdaa
set_option linter.unusedVariables false
set_option linter.unusedSimpArgs false

/-- A tree of stretches. -/
inductive Tr where
  | nil
  | nd (a b : Int) (l r : Tr)
def ht : Tr → Int
  | .nil => 0
  | .nd _ _ l r => 1 + max (ht l) (ht r)
def cnt : Tr → Int
  | .nil => 0
  | .nd _ _ l r => 1 + cnt l + cnt r
def fst : Tr → Int
  | .nil => 0
  | .nd a _ .nil _ => a
  | .nd _ _ (.nd c d l r) _ => fst (.nd c d l r)
def lst : Tr → Int
  | .nil => 0
  | .nd _ b _ .nil => b
  | .nd _ _ _ (.nd c d l r) => lst (.nd c d l r)
def gpl (a : Int) : Tr → Int → Int
  | .nil, _ => 0
  | .nd c d l r, g => max (max 0 g) (a - lst (.nd c d l r))
def gpr (b : Int) (g0 : Int) : Tr → Int → Int
  | .nil, _ => g0
  | .nd c d l r, g => max (max g0 g) (fst (.nd c d l r) - b)
def gp : Tr → Int
  | .nil => 0
  | .nd a b l r => gpr b (gpl a l (gp l)) r (gp r)
/-- The stretches of a tree, rising. -/
def tlist : Tr → List (Int × Int)
  | .nil => []
  | .nd a b l r => tlist l ++ (a, b) :: tlist r
def rgt : Tr → Tr
  | .nd a b (.nd c d l1 l2) r => .nd c d l1 (.nd a b l2 r)
  | t => t
def lft : Tr → Tr
  | .nd a b l (.nd c d r1 r2) => .nd c d (.nd a b l r1) r2
  | t => t
def lf : Tr → Tr
  | .nil => .nil
  | .nd _ _ l _ => l
def rt : Tr → Tr
  | .nil => .nil
  | .nd _ _ _ r => r
def fixl (l : Tr) : Tr := if ht (lf l) < ht (rt l) then lft l else l
def fixr (r : Tr) : Tr := if ht (rt r) < ht (lf r) then rgt r else r
def balT (a b : Int) (l r : Tr) : Tr :=
  if 1 < ht l - ht r then rgt (.nd a b (fixl l) r)
  else if ht l - ht r < -1 then lft (.nd a b l (fixr r))
  else .nd a b l r
def putT : Tr → Int → Int → Tr
  | .nil, x, y => .nd x y .nil .nil
  | .nd a b l r, x, y => if x < a then balT a b (putT l x y) r else balT a b l (putT r x y)
/-- The first stretch of nd a b l r, and the rest. -/
def leastT (a b : Int) (l r : Tr) : (Int × Int) × Tr :=
  match l with
  | .nil => ((a, b), r)
  | .nd c d l1 l2 => ((leastT c d l1 l2).1, balT a b (leastT c d l1 l2).2 r)
def joinT (l r : Tr) : Tr :=
  match l, r with
  | .nil, r => r
  | .nd a b l1 l2, .nil => .nd a b l1 l2
  | .nd a b l1 l2, .nd c d r1 r2 => balT (leastT c d r1 r2).1.1 (leastT c d r1 r2).1.2 (.nd a b l1 l2) (leastT c d r1 r2).2
def delT : Tr → Int → Tr
  | .nil, _ => .nil
  | .nd a b l r, x => if x < a then balT a b (delT l x) r else if a < x then balT a b l (delT r x) else joinT l r
def Fnd : Tr → Int → Prop
  | .nil, _ => False
  | .nd a b l r, x => if x < a then Fnd l x else if a < x then Fnd r x else True
/-- Balanced. -/
def Avl : Tr → Prop
  | .nil => True
  | .nd _ _ l r => ht l - ht r ≤ 1 ∧ ht r - ht l ≤ 1 ∧ Avl l ∧ Avl r
theorem ht_nonneg (t : Tr) : 0 ≤ ht t := by
  induction t with
  | nil => simp [ht]
  | nd a b l r h1 h2 => simp only [ht]; omega
theorem cnt_nonneg (t : Tr) : 0 ≤ cnt t := by
  induction t with
  | nil => simp [cnt]
  | nd a b l r h1 h2 => simp only [cnt]; omega
theorem ht_le_cnt (t : Tr) : ht t ≤ cnt t := by
  induction t with
  | nil => simp [ht, cnt]
  | nd a b l r h1 h2 =>
    have := cnt_nonneg l
    have := cnt_nonneg r
    simp only [ht, cnt]; omega
theorem cnt_length (t : Tr) : cnt t = ((tlist t).length : Nat) := by
  induction t with
  | nil => rfl
  | nd a b l r h1 h2 => simp only [cnt, tlist, List.length_append, List.length_cons, h1, h2]; omega
theorem tlist_rgt (t : Tr) : tlist (rgt t) = tlist t := by
  unfold rgt
  split
  · simp [tlist]
  · rfl
theorem tlist_lft (t : Tr) : tlist (lft t) = tlist t := by
  unfold lft
  split
  · simp [tlist]
  · rfl
theorem tlist_fixl (t : Tr) : tlist (fixl t) = tlist t := by
  unfold fixl
  split
  · exact tlist_lft t
  · rfl
theorem tlist_fixr (t : Tr) : tlist (fixr t) = tlist t := by
  unfold fixr
  split
  · exact tlist_rgt t
  · rfl
theorem tlist_balT (a b : Int) (l r : Tr) : tlist (balT a b l r) = tlist l ++ (a, b) :: tlist r := by
  unfold balT
  split
  · rw [tlist_rgt, tlist, tlist_fixl]
  · split
    · rw [tlist_lft, tlist, tlist_fixr]
    · rfl
theorem balT_avl (a b : Int) (l r : Tr) (hl : Avl l) (hr : Avl r) (h1 : ht l - ht r ≤ 2) (h2 : ht r - ht l ≤ 2) :
    Avl (balT a b l r) ∧ max (ht l) (ht r) ≤ ht (balT a b l r) ∧ ht (balT a b l r) ≤ 1 + max (ht l) (ht r) ∧ (ht l - ht r ≤ 1 → ht r - ht l ≤ 1 → ht (balT a b l r) = 1 + max (ht l) (ht r)) := by
  have hr0 := ht_nonneg r
  have hl0 := ht_nonneg l
  unfold balT
  split
  · rename_i hd
    cases l with
    | nil => simp only [ht] at *; omega
    | nd c d l1 l2 =>
      unfold fixl lf rt
      simp only
      split
      · rename_i hf
        have := ht_nonneg l1
        cases l2 with
        | nil => simp only [ht] at *; omega
        | nd e f m1 m2 =>
          simp only [lft, rgt, ht, Avl] at *
          obtain ⟨_, _, _, _, _, _, _⟩ := hl
          refine ⟨⟨?_, ?_, ⟨?_, ?_, ?_, ?_⟩, ⟨?_, ?_, ?_, ?_⟩⟩, ?_, ?_, ?_⟩ <;> first | assumption | omega
      · rename_i hf
        simp only [lft, rgt, ht, Avl] at *
        obtain ⟨_, _, _, _⟩ := hl
        refine ⟨⟨?_, ?_, ?_, ⟨?_, ?_, ?_, ?_⟩⟩, ?_, ?_, ?_⟩ <;> first | assumption | omega
  · split
    · rename_i hd0 hd
      cases r with
      | nil => simp only [ht] at *; omega
      | nd c d l1 l2 =>
        unfold fixr lf rt
        simp only
        split
        · rename_i hf
          have := ht_nonneg l2
          cases l1 with
          | nil => simp only [ht] at *; omega
          | nd e f m1 m2 =>
            simp only [lft, rgt, ht, Avl] at *
            obtain ⟨_, _, ⟨_, _, _, _⟩, _⟩ := hr
            refine ⟨⟨?_, ?_, ⟨?_, ?_, ?_, ?_⟩, ⟨?_, ?_, ?_, ?_⟩⟩, ?_, ?_, ?_⟩ <;> first | assumption | omega
        · rename_i hf
          simp only [lft, rgt, ht, Avl] at *
          obtain ⟨_, _, _, _⟩ := hr
          refine ⟨⟨?_, ?_, ⟨?_, ?_, ?_, ?_⟩, ?_⟩, ?_, ?_, ?_⟩ <;> first | assumption | omega
    · rename_i hd0 hd
      simp only [ht, Avl]
      refine ⟨⟨?_, ?_, ?_, ?_⟩, ?_, ?_, ?_⟩ <;> first | assumption | omega | (intros; trivial)
theorem putT_avl (t : Tr) (x y : Int) (h : Avl t) : Avl (putT t x y) ∧ ht t ≤ ht (putT t x y) ∧ ht (putT t x y) ≤ ht t + 1 := by
  induction t with
  | nil => simp [putT, Avl, ht]
  | nd a b l r ihl ihr =>
    simp only [Avl] at h
    obtain ⟨h1, h2, h3, h4⟩ := h
    unfold putT
    split
    · obtain ⟨i1, i2, i3⟩ := ihl h3
      obtain ⟨b1, b2, b3, b4⟩ := balT_avl a b _ r i1 h4 (by omega) (by omega)
      refine ⟨b1, ?_, ?_⟩
      · simp only [ht]
        by_cases hh : ht (putT l x y) - ht r ≤ 1
        · have := b4 hh (by omega)
          omega
        · omega
      · simp only [ht]; omega
    · obtain ⟨i1, i2, i3⟩ := ihr h4
      obtain ⟨b1, b2, b3, b4⟩ := balT_avl a b l _ h3 i1 (by omega) (by omega)
      refine ⟨b1, ?_, ?_⟩
      · simp only [ht]
        by_cases hh : ht (putT r x y) - ht l ≤ 1
        · have := b4 (by omega) hh
          omega
        · omega
      · simp only [ht]; omega
theorem leastT_avl (l : Tr) : ∀ (a b : Int) (r : Tr), Avl (.nd a b l r) → Avl (leastT a b l r).2 ∧ ht (.nd a b l r) - 1 ≤ ht (leastT a b l r).2 ∧ ht (leastT a b l r).2 ≤ ht (.nd a b l r) := by
  induction l with
  | nil =>
    intro a b r h
    have hr0 := ht_nonneg r
    simp only [Avl, leastT, ht] at *
    refine ⟨?_, ?_, ?_⟩ <;> first | exact h.2.2.2 | omega
  | nd c d l1 l2 ih1 ih2 =>
    intro a b r h
    simp only [Avl] at h
    obtain ⟨h1, h2, h3, h4⟩ := h
    obtain ⟨i1, i2, i3⟩ := ih1 c d l2 h3
    obtain ⟨b1, b2, b3, b4⟩ := balT_avl a b _ r i1 h4 (by omega) (by omega)
    rw [leastT]
    simp only
    refine ⟨b1, ?_, ?_⟩
    · rw [ht]; omega
    · rw [ht]; omega
theorem joinT_avl (l r : Tr) (hl : Avl l) (hr : Avl r) (h1 : ht l - ht r ≤ 1) (h2 : ht r - ht l ≤ 1) : Avl (joinT l r) ∧ max (ht l) (ht r) ≤ ht (joinT l r) ∧ ht (joinT l r) ≤ 1 + max (ht l) (ht r) := by
  have hl0 := ht_nonneg l
  have hr0 := ht_nonneg r
  unfold joinT
  split
  · refine ⟨hr, ?_, ?_⟩ <;> (simp only [ht] at *; omega)
  · refine ⟨hl, ?_, ?_⟩ <;> (simp only [ht] at *; omega)
  · rename_i a b l1 l2 c d r1 r2
    obtain ⟨i1, i2, i3⟩ := leastT_avl r1 c d r2 hr
    obtain ⟨b1, b2, b3, b4⟩ := balT_avl (leastT c d r1 r2).1.1 (leastT c d r1 r2).1.2 (.nd a b l1 l2) (leastT c d r1 r2).2 hl i1 (by omega) (by omega)
    refine ⟨b1, ?_, ?_⟩
    · by_cases hh : ht (.nd a b l1 l2) - ht (leastT c d r1 r2).2 ≤ 1
      · have := b4 hh (by omega)
        omega
      · omega
    · omega
theorem delT_avl (t : Tr) (x : Int) (h : Avl t) : Avl (delT t x) ∧ ht t - 1 ≤ ht (delT t x) ∧ ht (delT t x) ≤ ht t := by
  induction t with
  | nil => simp [delT, Avl, ht]
  | nd a b l r ihl ihr =>
    simp only [Avl] at h
    obtain ⟨h1, h2, h3, h4⟩ := h
    unfold delT
    split
    · obtain ⟨i1, i2, i3⟩ := ihl h3
      obtain ⟨b1, b2, b3, b4⟩ := balT_avl a b _ r i1 h4 (by omega) (by omega)
      refine ⟨b1, ?_, ?_⟩
      · simp only [ht]; omega
      · simp only [ht]; omega
    · split
      · obtain ⟨i1, i2, i3⟩ := ihr h4
        obtain ⟨b1, b2, b3, b4⟩ := balT_avl a b l _ h3 i1 (by omega) (by omega)
        refine ⟨b1, ?_, ?_⟩
        · simp only [ht]; omega
        · simp only [ht]; omega
      · obtain ⟨i1, i2, i3⟩ := joinT_avl l r h3 h4 h1 h2
        refine ⟨i1, ?_, ?_⟩
        · simp only [ht]; omega
        · simp only [ht]; omega
/-- Stretches that rise, from f up to g. -/
def Rg : Int → List (Int × Int) → Int → Prop
  | f, [], g => f ≤ g
  | f, e :: L, g => f ≤ e.1 ∧ e.1 < e.2 ∧ Rg e.2 L g
theorem Rg.le {L : List (Int × Int)} : ∀ {f g : Int}, Rg f L g → f ≤ g := by
  induction L with
  | nil => exact fun h => h
  | cons e L ih => intro f g h; obtain ⟨h1, h2, h3⟩ := h; have := ih h3; omega
theorem Rg_append (e : Int × Int) (M : List (Int × Int)) (g : Int) (L : List (Int × Int)) : ∀ f, Rg f (L ++ e :: M) g ↔ Rg f L e.1 ∧ e.1 < e.2 ∧ Rg e.2 M g := by
  induction L with
  | nil => exact fun f => Iff.rfl
  | cons d L ih =>
    intro f
    show (f ≤ d.1 ∧ d.1 < d.2 ∧ Rg d.2 (L ++ e :: M) g) ↔ (f ≤ d.1 ∧ d.1 < d.2 ∧ Rg d.2 L e.1) ∧ _
    rw [ih]
    constructor
    · rintro ⟨a, b, c, d⟩; exact ⟨⟨a, b, c⟩, d⟩
    · rintro ⟨⟨a, b, c⟩, d⟩; exact ⟨a, b, c, d⟩
theorem Rg.mem {L : List (Int × Int)} : ∀ {f g : Int}, Rg f L g → ∀ e, e ∈ L → f ≤ e.1 ∧ e.1 < e.2 ∧ e.2 ≤ g := by
  induction L with
  | nil => intro f g h e he; cases he
  | cons d L ih =>
    intro f g h e he
    obtain ⟨h1, h2, h3⟩ := h
    rcases List.mem_cons.1 he with rfl | he
    · exact ⟨h1, h2, h3.le⟩
    · have := ih h3 e he
      omega
theorem Rg.length {L : List (Int × Int)} : ∀ {f g : Int}, Rg f L g → (L.length : Int) ≤ g - f := by
  induction L with
  | nil => intro f g h; simp [Rg] at *; omega
  | cons d L ih => intro f g h; obtain ⟨h1, h2, h3⟩ := h; have := ih h3; simp only [List.length_cons]; omega
theorem Rg.widen {L : List (Int × Int)} : ∀ {f g f' g' : Int}, Rg f L g → f' ≤ f → g ≤ g' → Rg f' L g' := by
  induction L with
  | nil => intro f g f' g' h h1 h2; simp only [Rg] at *; omega
  | cons d L ih => intro f g f' g' h h1 h2; obtain ⟨a1, a2, a3⟩ := h; exact ⟨by omega, a2, ih a3 (Int.le_refl _) h2⟩
/-- Two stretches meet. -/
def Mt (x y : Int) (e : Int × Int) : Prop := e.1 < y ∧ x < e.2
instance (x y : Int) (e : Int × Int) : Decidable (Mt x y e) := by unfold Mt; exact inferInstance
def ins (x y : Int) : List (Int × Int) → List (Int × Int)
  | [] => [(x, y)]
  | e :: L => if x < e.1 then (x, y) :: e :: L else e :: ins x y L
theorem ins_left (x y : Int) (e : Int × Int) (M : List (Int × Int)) (h : x < e.1) (L : List (Int × Int)) : ins x y (L ++ e :: M) = ins x y L ++ e :: M := by
  induction L with
  | nil => simp [ins, h]
  | cons d L ih =>
    simp only [List.cons_append, ins]
    split
    · rfl
    · rw [ih]; rfl
theorem ins_right (x y : Int) (e : Int × Int) (M : List (Int × Int)) (h : ¬ x < e.1) (L : List (Int × Int)) (hL : ∀ d ∈ L, ¬ x < d.1) : ins x y (L ++ e :: M) = L ++ e :: ins x y M := by
  induction L with
  | nil => simp [ins, h]
  | cons d L ih =>
    simp only [List.cons_append, ins]
    rw [if_neg (hL d (by simp)), ih (fun c hc => hL c (by simp [hc]))]
theorem tlist_putT (t : Tr) (x y : Int) : ∀ f g, Rg f (tlist t) g → tlist (putT t x y) = ins x y (tlist t) := by
  induction t with
  | nil => intro f g h; rfl
  | nd a b l r ihl ihr =>
    intro f g h
    rw [tlist, Rg_append] at h
    obtain ⟨h1, h2, h3⟩ := h
    rw [putT, tlist]
    split
    · rename_i hx
      rw [tlist_balT, ihl _ _ h1, ins_left x y (a, b) _ hx]
    · rename_i hx
      rw [tlist_balT, ihr _ _ h3, ins_right x y (a, b) _ hx]
      intro d hd
      have := h1.mem d hd
      simp only at this
      omega
theorem Rg.ins {x y : Int} (hxy : x < y) {L : List (Int × Int)} : ∀ {f g : Int}, Rg f L g → f ≤ x → y ≤ g → (∀ e ∈ L, ¬ Mt x y e) → Rg f (ins x y L) g := by
  induction L with
  | nil => intro f g h h1 h2 h3; exact ⟨h1, hxy, h2⟩
  | cons d L ih =>
    intro f g h h1 h2 h3
    obtain ⟨a1, a2, a3⟩ := h
    have := h3 d (by simp)
    unfold Mt at this
    rw [Go.Proofs.Ytkaglggljomgdaa.ins]
    split
    · refine ⟨h1, hxy, ?_, a2, a3⟩
      simp only
      omega
    · exact ⟨a1, a2, ih a3 (by omega) h2 fun e he => h3 e (by simp [he])⟩
theorem leastT_list (l : Tr) : ∀ (a b : Int) (r : Tr), tlist (.nd a b l r) = (leastT a b l r).1 :: tlist (leastT a b l r).2 := by
  induction l with
  | nil => intro a b r; rfl
  | nd c d l1 l2 ih1 ih2 =>
    intro a b r
    rw [leastT, tlist_balT, tlist, ih1 c d l2]
    rfl
theorem tlist_joinT (l r : Tr) : tlist (joinT l r) = tlist l ++ tlist r := by
  unfold joinT
  split
  · rfl
  · simp [tlist]
  · rename_i a b l1 l2 c d r1 r2
    rw [tlist_balT, leastT_list r1 c d r2]
def rem (x : Int) (L : List (Int × Int)) : List (Int × Int) := L.filter (fun e => decide (e.1 ≠ x))
theorem rem_self {x : Int} {L : List (Int × Int)} (h : ∀ e ∈ L, e.1 ≠ x) : rem x L = L := List.filter_eq_self.2 fun e he => by simpa using h e he
theorem tlist_delT (t : Tr) (x : Int) : ∀ f g, Rg f (tlist t) g → tlist (delT t x) = rem x (tlist t) := by
  induction t with
  | nil => intro f g h; rfl
  | nd a b l r ihl ihr =>
    intro f g h
    rw [tlist, Rg_append] at h
    obtain ⟨h1, h2, h3⟩ := h
    have q1 := h1.mem
    have q3 := h3.mem
    simp only at q1 q3
    have e0 : rem x (tlist l ++ (a, b) :: tlist r) = rem x (tlist l) ++ (if a ≠ x then (a, b) :: rem x (tlist r) else rem x (tlist r)) := by
      unfold rem
      rw [List.filter_append, List.filter_cons]
      by_cases ha : a = x <;> simp [ha]
    rw [delT, tlist, e0]
    split
    · rename_i hx
      rw [tlist_balT, ihl _ _ h1, if_pos (by omega), rem_self (L := tlist r) (fun e he => by have := q3 e he; omega)]
    · split
      · rename_i hx
        rw [tlist_balT, ihr _ _ h3, if_pos (by omega), rem_self (L := tlist l) (fun e he => by have := q1 e he; omega)]
      · rename_i hx1 hx2
        rw [tlist_joinT, if_neg (by simp; omega), rem_self (L := tlist r) (fun e he => by have := q3 e he; omega), rem_self (L := tlist l) (fun e he => by have := q1 e he; omega)]
theorem fnd_of (t : Tr) (x y : Int) : ∀ f g, Rg f (tlist t) g → (x, y) ∈ tlist t → Fnd t x := by
  induction t with
  | nil => intro f g h hm; cases hm
  | nd a b l r ihl ihr =>
    intro f g h hm
    rw [tlist, Rg_append] at h
    obtain ⟨h1, h2, h3⟩ := h
    rw [tlist] at hm
    rw [Fnd]
    simp only at h1 h2 h3
    rcases List.mem_append.1 hm with hm | hm
    · have := h1.mem _ hm
      simp only at this
      rw [if_pos (by omega)]
      exact ihl _ _ h1 hm
    · rcases List.mem_cons.1 hm with hm | hm
      · cases hm
        rw [if_neg (by omega), if_neg (by omega)]
        trivial
      · have := h3.mem _ hm
        simp only at this
        rw [if_neg (by omega), if_pos (by omega)]
        exact ihr _ _ h3 hm
theorem Rg.rem {L : List (Int × Int)} (x : Int) : ∀ {f g : Int}, Rg f L g → Rg f (rem x L) g := by
  induction L with
  | nil => exact fun h => h
  | cons d L ih =>
    intro f g h
    obtain ⟨a1, a2, a3⟩ := h
    unfold Go.Proofs.Ytkaglggljomgdaa.rem
    rw [List.filter_cons]
    split
    · exact ⟨a1, a2, ih a3⟩
    · exact (ih a3).widen (by omega) (Int.le_refl _)

end Go.Proofs.Ytkaglggljomgdaa

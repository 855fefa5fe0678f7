/- Plain theorems for layer 18 (gap): trees of stretches, lists of stretches, room. -/
import Derived.Test.YtkaglggljomgdaaH8
namespace Go.Proofs.Ytkaglggljomgdaa
set_option linter.unusedVariables false
set_option linter.unusedSimpArgs false

theorem Rg.split {L : List (Int × Int)} {M : List (Int × Int)} {f g : Int} : ∀ {f}, Rg f (L ++ M) g → Rg (endL f L) M g ∧ Rg f L (endL f L) := by
  induction L with
  | nil => intro f h; exact ⟨h, Int.le_refl f⟩
  | cons d L ih =>
    intro f h
    obtain ⟨h1, h2, h3⟩ := h
    have := ih h3
    exact ⟨this.1, h1, h2, this.2⟩
def fm (x y : Int) (L : List (Int × Int)) : Option (Int × Int) := L.find? (fun e => decide (Mt x y e))
theorem fm_none {x y : Int} {L : List (Int × Int)} (h : ∀ e ∈ L, ¬ Mt x y e) : fm x y L = none := by
  unfold fm
  rw [List.find?_eq_none]
  intro e he
  simpa using h e he
theorem fm_none_iff {x y : Int} {L : List (Int × Int)} : fm x y L = none ↔ ∀ e ∈ L, ¬ Mt x y e := by
  refine ⟨fun h e he => ?_, fm_none⟩
  unfold fm at h
  rw [List.find?_eq_none] at h
  simpa using h e he
theorem fm_pos {x y : Int} {d : Int × Int} {L : List (Int × Int)} (h : Mt x y d) : fm x y (d :: L) = some d := List.find?_cons_of_pos (decide_eq_true h)
theorem fm_neg {x y : Int} {d : Int × Int} {L : List (Int × Int)} (h : ¬ Mt x y d) : fm x y (d :: L) = fm x y L := List.find?_cons_of_neg (by simpa using h)
theorem fm_append (x y : Int) (L M : List (Int × Int)) : fm x y (L ++ M) = (fm x y L).or (fm x y M) := by
  unfold fm
  rw [List.find?_append]
theorem Rg.endL_mem {L : List (Int × Int)} : ∀ {f g : Int}, Rg f L g → ∀ e ∈ L, e.2 ≤ endL f L := by
  induction L with
  | nil => intro f g h e he; cases he
  | cons d L ih =>
    intro f g h e he
    obtain ⟨h1, h2, h3⟩ := h
    rw [endL]
    rcases List.mem_cons.1 he with rfl | he
    · exact h3.endL_le.1
    · exact ih h3 e he
theorem meetT_find (t : Tr) (x y : Int) (hxy : x < y) : ∀ f g, Rg f (tlist t) g → meetT t x y = fm x y (tlist t) := by
  induction t with
  | nil => intro f g h; rfl
  | nd a b l r ihl ihr =>
    intro f g h
    rw [tlist, Rg_append] at h
    obtain ⟨h1, h2, h3⟩ := h
    have q1 := h1.mem
    have q3 := h3.mem
    simp only at q1 q3 h2
    rw [tlist, fm_append]
    by_cases hy : y ≤ a
    · rw [meetT_l hy, ihl _ _ h1, fm_none (L := (a, b) :: tlist r), Option.or_none]
      intro e he
      unfold Mt
      rcases List.mem_cons.1 he with rfl | he
      · simp only; omega
      · have := q3 e he; omega
    · by_cases hx : b ≤ x
      · rw [meetT_r hy hx, ihr _ _ h3, fm_none (L := tlist l)]
        · rw [Option.none_or, fm_neg (show ¬ Mt x y (a, b) from fun h => by have := h.2; simp only at this; omega)]
        · intro e he
          unfold Mt
          have := q1 e he; omega
      · have hm : fm x y ((a, b) :: tlist r) = some (a, b) := fm_pos ⟨by simp only; omega, by simp only; omega⟩
        rw [hm]
        cases l with
        | nil => rw [meetT, if_neg hy, if_neg hx]; rfl
        | nd c d l1 l2 =>
          rw [meetT, if_neg hy, if_neg hx]
          try simp only
          split
          · rename_i hl
            have hls := lst_spec (.nd c d l1 l2) _ _ _ _ f rfl
            have hm := h1.endL_mem
            rw [fm_none (L := tlist (.nd c d l1 l2))]
            · rfl
            · intro e he
              unfold Mt
              have := hm e he
              omega
          · rw [ihl _ _ h1]
def Good (t : Tr) : Prop := Rg 1 (tlist t) 4096 ∧ Avl t
theorem Good.vals {t : Tr} (h : Good t) : Vals t := h.1.vals (by omega) (by omega)
theorem Good.cnt {t : Tr} (h : Good t) : cnt t ≤ 4095 := by
  have := h.1.length
  rw [cnt_length]; omega
theorem put_good {t : Tr} {x y : Int} (h : Good t) (hx : 1 ≤ x) (hxy : x < y) (hy : y ≤ 4096) (hm : ∀ e ∈ tlist t, ¬ Mt x y e) : Good (putT t x y) ∧ tlist (putT t x y) = ins x y (tlist t) := by
  have e := tlist_putT t x y _ _ h.1
  exact ⟨⟨by rw [e]; exact h.1.ins hxy hx hy hm, (putT_avl t x y h.2).1⟩, e⟩
theorem del_good {t : Tr} {x : Int} (h : Good t) : Good (delT t x) ∧ tlist (delT t x) = rem x (tlist t) := by
  have e := tlist_delT t x _ _ h.1
  exact ⟨⟨by rw [e]; exact h.1.rem x, (delT_avl t x h.2).1⟩, e⟩
def putE (x y : Int) (L : List (Int × Int)) : Int := if wrg x y ≠ 0 then wrg x y else if (fm x y L).isSome then 7 else 0
def putL (x y : Int) (L : List (Int × Int)) : List (Int × Int) := if putE x y L = 0 then ins x y L else L
def delE (x y : Int) (L : List (Int × Int)) : Int := if wrg x y ≠ 0 then wrg x y else if (x, y) ∈ L then 0 else 6
def delL (x y : Int) (L : List (Int × Int)) : List (Int × Int) := if delE x y L = 0 then rem x L else L
theorem wrg_ok {x y : Int} : wrg x y = 0 ↔ 1 ≤ x ∧ x < y ∧ y ≤ 4096 := by
  unfold wrg
  split <;> omega
theorem fm_self {x y : Int} (hxy : x < y) {L : List (Int × Int)} : ∀ {f g : Int}, Rg f L g → (x, y) ∈ L → fm x y L = some (x, y) := by
  induction L with
  | nil => intro f g h hm; cases hm
  | cons d L ih =>
    intro f g h hm
    obtain ⟨h1, h2, h3⟩ := h
    rcases List.mem_cons.1 hm with hd | hm
    · subst hd
      exact fm_pos ⟨hxy, hxy⟩
    · have := h3.mem _ hm
      simp only at this
      rw [fm_neg (fun h => by have := h.2; omega)]
      exact ih h3 hm
theorem fm_mem {x y : Int} {L : List (Int × Int)} {e : Int × Int} (h : fm x y L = some e) : e ∈ L ∧ Mt x y e := by
  unfold fm at h
  exact ⟨List.mem_of_find?_eq_some h, by simpa using List.find?_some h⟩
def piece (x y : Int) (e : Int × Int) : List (Int × Int) :=
  if Mt x y e then (if e.1 < x then [(e.1, x)] else []) ++ (if y < e.2 then [(y, e.2)] else []) else [e]
def cuts (x y : Int) (L : List (Int × Int)) : List (Int × Int) := L.flatMap (piece x y)
def cm (x y : Int) (L : List (Int × Int)) : Nat := L.countP (fun e => decide (Mt x y e))
theorem cuts_append (x y : Int) (L M : List (Int × Int)) : cuts x y (L ++ M) = cuts x y L ++ cuts x y M := List.flatMap_append
theorem cuts_self {x y : Int} {L : List (Int × Int)} (h : ∀ e ∈ L, ¬ Mt x y e) : cuts x y L = L := by
  induction L with
  | nil => rfl
  | cons d L ih =>
    have e : cuts x y (d :: L) = piece x y d ++ cuts x y L := rfl
    rw [e, ih fun e he => h e (by simp [he]), piece, if_neg (h d (by simp))]
    rfl
theorem cm_zero {x y : Int} {L : List (Int × Int)} (h : ∀ e ∈ L, ¬ Mt x y e) : cm x y L = 0 := by
  unfold cm
  rw [List.countP_eq_zero]
  intro e he
  simpa using h e he
theorem ins_mid (x y : Int) {P S : List (Int × Int)} (h1 : ∀ d ∈ P, ¬ x < d.1) (h2 : ∀ d ∈ S, x < d.1) : ins x y (P ++ S) = P ++ (x, y) :: S := by
  induction P with
  | nil =>
    cases S with
    | nil => rfl
    | cons s S => rw [List.nil_append, ins, if_pos (h2 s (by simp))]; rfl
  | cons d P ih => rw [List.cons_append, ins, if_neg (h1 d (by simp)), ih fun c hc => h1 c (by simp [hc])]; rfl
def stepL (x y : Int) (e : Int × Int) (L : List (Int × Int)) : List (Int × Int) :=
  let L1 := rem e.1 L
  let L2 := if e.1 < x then ins e.1 x L1 else L1
  if y < e.2 then ins y e.2 L2 else L2
theorem cut_step {x y : Int} {L : List (Int × Int)} {e : Int × Int} (h : Rg 1 L 4096) (hx : 1 ≤ x) (hxy : x < y) (hy : y ≤ 4096) (he : fm x y L = some e) :
    cuts x y (stepL x y e L) = cuts x y L ∧ cm x y (stepL x y e L) < cm x y L ∧ (e.1 < x → ∀ d ∈ rem e.1 L, ¬ Mt e.1 x d) ∧
    (y < e.2 → ∀ d ∈ (if e.1 < x then ins e.1 x (rem e.1 L) else rem e.1 L), ¬ Mt y e.2 d) ∧ 1 ≤ e.1 ∧ e.2 ≤ 4096 ∧ e ∈ L := by
  have hmem := fm_mem he
  have heL := h.mem e hmem.1
  have hm := hmem.2
  unfold Mt at hm
  unfold fm at he
  rw [List.find?_eq_some_iff_append] at he
  obtain ⟨hp, P, S, rfl, hP⟩ := he
  rw [Rg_append] at h
  obtain ⟨h1, h2, h3⟩ := h
  have q1 := h1.mem
  have q3 := h3.mem
  have hr : rem e.1 (P ++ e :: S) = P ++ S := by
    unfold rem
    rw [List.filter_append, List.filter_cons, if_neg (by simp)]
    have a1 : P.filter (fun d => decide (d.1 ≠ e.1)) = P := rem_self fun d hd => by have := q1 d hd; omega
    have a2 : S.filter (fun d => decide (d.1 ≠ e.1)) = S := rem_self fun d hd => by have := q3 d hd; omega
    rw [a1, a2]
  have hPm : ∀ d ∈ P, ¬ Mt x y d := fun d hd => by simpa using hP d hd
  have e2 : (if e.1 < x then ins e.1 x (P ++ S) else P ++ S) = P ++ ((if e.1 < x then [(e.1, x)] else []) ++ S) := by
    split
    · rw [ins_mid]
      · simp
      · intro d hd; have := q1 d hd; omega
      · intro d hd; have := q3 d hd; omega
    · simp
  have e3 : stepL x y e (P ++ e :: S) = P ++ (piece x y e ++ S) := by
    unfold stepL piece
    simp only
    rw [hr, e2, if_pos hmem.2]
    split
    · rename_i hye
      rw [← List.append_assoc, ins_mid]
      · simp
      · intro d hd
        rcases List.mem_append.1 hd with hd | hd
        · have := q1 d hd; omega
        · split at hd
          · simp at hd; subst hd; simp only; omega
          · simp at hd
      · intro d hd; have := q3 d hd; omega
    · simp
  have hpm : ∀ d ∈ piece x y e, ¬ Mt x y d := by
    intro d hd
    unfold piece at hd
    rw [if_pos hmem.2] at hd
    unfold Mt
    rcases List.mem_append.1 hd with hd | hd
    · split at hd
      · simp at hd; subst hd; simp only; omega
      · simp at hd
    · split at hd
      · simp at hd; subst hd; simp only; omega
      · simp at hd
  refine ⟨?_, ?_, ?_, ?_, by omega, by omega, hmem.1⟩
  · rw [e3, cuts_append, cuts_append, cuts_append, cuts_self hpm]
    rfl
  · rw [e3]
    have c1 := cm_zero hpm
    unfold cm at *
    rw [List.countP_append, List.countP_append, List.countP_append, List.countP_cons, c1]
    simp only [hp, if_true]
    omega
  · intro hex d hd
    rw [hr] at hd
    unfold Mt
    rcases List.mem_append.1 hd with hd | hd
    · have := q1 d hd; omega
    · have := q3 d hd; omega
  · intro hye d hd
    rw [hr, e2] at hd
    unfold Mt
    rcases List.mem_append.1 hd with hd | hd
    · have := q1 d hd; omega
    · rcases List.mem_append.1 hd with hd | hd
      · split at hd
        · simp at hd; subst hd; simp only; omega
        · simp at hd
      · have := q3 d hd; omega

end Go.Proofs.Ytkaglggljomgdaa

/- Plain theorems for layer 18 (gap): trees of stretches, lists of stretches, room. -/
import Derived.Test.YtkaglggljomgdaaH25
import Derived.Test.YtkaglggljomgdaaH26
namespace Go.Proofs.Ytkaglggljomgdaa
set_option linter.unusedVariables false
set_option linter.unusedSimpArgs false

theorem Rg.apart {L : List (Int × Int)} : ∀ {f g : Int}, Rg f L g → ∀ e ∈ L, ∀ d ∈ L, e = d ∨ e.2 ≤ d.1 ∨ d.2 ≤ e.1 := by
  induction L with
  | nil => intro f g h e he; cases he
  | cons c L ih =>
    intro f g h e he d hd
    obtain ⟨h1, h2, h3⟩ := h
    rcases List.mem_cons.1 he with e1 | he1
    · rcases List.mem_cons.1 hd with e2 | hd1
      · exact .inl (by rw [e1, e2])
      · have := h3.mem d hd1
        exact .inr (.inl (by rw [e1]; omega))
    · rcases List.mem_cons.1 hd with e2 | hd1
      · have := h3.mem e he1
        exact .inr (.inr (by rw [e2]; omega))
      · exact ih h3 e he1 d hd1
theorem Rg.hasInj {L : List (Int × Int)} {f g : Int} (h : Rg f L g) {e d : Int × Int} (he : e ∈ L) (hd : d ∈ L) {p : Int} (h1 : Has p e) (h2 : Has p d) : e = d := by
  unfold Has at *
  rcases h.apart e he d hd with h3 | h3 | h3
  · exact h3
  · omega
  · omega
theorem find_at {p v : Int} {L : List (Int × Int)} (h : Rg 1 L 4096) (ha : AtV p L v) : (findV p L = (0, 0, false) ∧ v = -1) ∨ ∃ (i : Nat) (e : Int × Int), v = (i : Nat) ∧ L[i]? = some e ∧ findV p L = (e.1, e.2, true) := by
  have hmt : ∀ e : Int × Int, Mt p (p + 1) e ↔ Has p e := fun e => by unfold Mt Has; omega
  rcases ha with ⟨rfl, hno⟩ | ⟨i, e, rfl, hi, he⟩
  · refine .inl ⟨?_, rfl⟩
    unfold findV
    split
    · rfl
    · rw [fm_none fun e he hm => hno e he ((hmt e).1 hm)]
  · refine .inr ⟨i, e, rfl, hi, ?_⟩
    have hmem := List.mem_of_getElem? hi
    have hb := h.mem e hmem
    have he' := he
    unfold Has at he'
    unfold findV
    rw [if_neg (by omega)]
    cases hf : fm p (p + 1) L with
    | none => exact absurd ((hmt e).2 he) (fm_none_iff.1 hf e hmem)
    | some d =>
      obtain ⟨d1, d2⟩ := fm_mem hf
      rw [h.hasInj d1 hmem ((hmt d).1 d2) he]
theorem find_free {p : Int} {L : List (Int × Int)} (h : Free L p) : findV p L = (0, 0, false) := by
  unfold findV
  split
  · rfl
  · rw [fm_none fun e he hm => h e he ⟨by have := hm.1; omega, by have := hm.2; omega⟩]
theorem ins_mem {x y : Int} {e : Int × Int} {L : List (Int × Int)} : e ∈ ins x y L ↔ e = (x, y) ∨ e ∈ L := by
  induction L with
  | nil => simp [ins]
  | cons d L ih =>
    rw [ins]
    split
    · simp
    · rw [List.mem_cons, ih, List.mem_cons]
      constructor
      · rintro (h | h | h)
        · exact .inr (.inl h)
        · exact .inl h
        · exact .inr (.inr h)
      · rintro (h | h | h)
        · exact .inr (.inl h)
        · exact .inl h
        · exact .inr (.inr h)
theorem rem_ins {x y : Int} {L : List (Int × Int)} (h : ∀ e ∈ L, e.1 ≠ x) : rem x (ins x y L) = L := by
  induction L with
  | nil => simp [ins, rem]
  | cons d L ih =>
    have hd := h d (by simp)
    have hr := rem_self (x := x) (L := d :: L) h
    rw [ins]
    split
    · unfold rem at *
      rw [List.filter_cons, if_neg (by simp)]
      exact hr
    · have := ih fun e he => h e (by simp [he])
      unfold rem at *
      rw [List.filter_cons, if_pos (decide_eq_true hd), this]
theorem cuts_no {x y : Int} {L : List (Int × Int)} {f g : Int} (h : Rg f L g) (hxy : x < y) : ∀ d ∈ cuts x y L, ¬ Mt x y d := by
  intro d hd
  unfold cuts at hd
  rw [List.mem_flatMap] at hd
  obtain ⟨e, he, hde⟩ := hd
  have := h.mem e he
  unfold piece at hde
  split at hde
  · rename_i hm
    unfold Mt at *
    rcases List.mem_append.1 hde with hd | hd
    · split at hd
      · simp at hd; subst hd; simp only; omega
      · simp at hd
    · split at hd
      · simp at hd; subst hd; simp only; omega
      · simp at hd
  · rename_i hm
    simp at hde
    rw [hde]; exact hm
/-- Stretches that rise are known by their members. -/
theorem Rg.ext {L : List (Int × Int)} : ∀ {S : List (Int × Int)} {f g f' g' : Int}, Rg f L g → Rg f' S g' → (∀ e, e ∈ S ↔ e ∈ L) → S = L := by
  induction L with
  | nil =>
    intro S f g f' g' _ _ h
    cases S with
    | nil => rfl
    | cons s S => exact absurd ((h s).1 (by simp)) (by simp)
  | cons d L ih =>
    intro S f g f' g' hL hS h
    cases S with
    | nil => exact absurd ((h d).2 (by simp)) (by simp)
    | cons s S =>
      obtain ⟨a1, a2, a3⟩ := hL
      obtain ⟨b1, b2, b3⟩ := hS
      have e1 : s = d := by
        rcases List.mem_cons.1 ((h s).1 (by simp)) with e | e
        · exact e
        · rcases List.mem_cons.1 ((h d).2 (by simp)) with e2 | e2
          · exact e2.symm
          · have := a3.mem s e
            have := b3.mem d e2
            omega
      subst e1
      rw [ih a3 b3 fun e => ?_]
      constructor
      · intro he
        rcases List.mem_cons.1 ((h e).1 (by simp [he])) with e1 | e1
        · have := b3.mem e he; rw [e1] at this; omega
        · exact e1
      · intro he
        rcases List.mem_cons.1 ((h e).2 (by simp [he])) with e1 | e1
        · have := a3.mem e he; rw [e1] at this; omega
        · exact e1
/-- Some stretches of L, rising. -/
def Sub (S L : List (Int × Int)) : Prop := Rg 1 S 4096 ∧ ∀ e ∈ S, e ∈ L
theorem Sub.put {S L : List (Int × Int)} {x y : Int} (h : Sub S L) (hL : Rg 1 L 4096) (hm : (x, y) ∈ L) :
    Sub (putL x y S) L ∧ (x, y) ∈ putL x y S ∧ ∀ e ∈ S, e ∈ putL x y S := by
  have hb := hL.mem _ hm
  simp only at hb
  have hw : wrg x y = 0 := wrg_ok.2 ⟨by omega, by omega, by omega⟩
  by_cases hin : (x, y) ∈ S
  · have hf := fm_self (by omega) h.1 hin
    have e : putL x y S = S := by unfold putL putE; rw [hf]; simp [hw]
    rw [e]
    exact ⟨h, hin, fun e he => he⟩
  · have hno : ∀ e ∈ S, ¬ Mt x y e := fun e he hmt => by
      unfold Mt at hmt
      rcases hL.apart e (h.2 e he) _ hm with e1 | e1 | e1
      · exact hin (by rw [← e1]; exact he)
      · simp only at e1; omega
      · simp only at e1; omega
    have e : putL x y S = ins x y S := by unfold putL putE; rw [fm_none hno]; simp [hw]
    rw [e]
    refine ⟨⟨h.1.ins (by omega) (by omega) (by omega) hno, fun d hd => ?_⟩, ins_mem.2 (.inl rfl), fun d hd => ins_mem.2 (.inr hd)⟩
    rcases ins_mem.1 hd with rfl | hd
    · exact hm
    · exact h.2 d hd
def fN : Nat → Int
  | 0 => 0
  | 1 => 1
  | n + 2 => fN n + fN (n + 1) + 1
theorem fN_nonneg : ∀ n, 0 ≤ fN n ∧ 0 ≤ fN (n + 1)
  | 0 => by decide
  | n + 1 => by
    have := fN_nonneg n
    refine ⟨this.2, ?_⟩
    rw [fN]; omega
theorem fN_mono (n : Nat) : fN n ≤ fN (n + 1) := by
  cases n with
  | zero => decide
  | succ n =>
    have := fN_nonneg n
    rw [fN]; omega
theorem fN_le {n m : Nat} (h : n ≤ m) : fN n ≤ fN m := by
  induction m with
  | zero =>
    obtain rfl : n = 0 := by omega
    exact Int.le_refl _
  | succ m ih =>
    by_cases hm : n = m + 1
    · rw [hm]; exact Int.le_refl _
    · exact Int.le_trans (ih (by omega)) (fN_mono m)
theorem avl_cnt (t : Tr) : Avl t → ∀ h : Nat, ht t = (h : Int) → fN h ≤ cnt t ∧ cnt t < 2 ^ h := by
  induction t with
  | nil =>
    intro _ h he
    obtain rfl : h = 0 := by simp only [ht] at he; omega
    simp [fN, cnt]
  | nd a b l r ihl ihr =>
    intro hA h he
    obtain ⟨h1, h2, h3, h4⟩ := hA
    have hl0 := ht_nonneg l
    have hr0 := ht_nonneg r
    obtain ⟨p, hp⟩ := Int.eq_ofNat_of_zero_le hl0
    obtain ⟨q, hq⟩ := Int.eq_ofNat_of_zero_le hr0
    obtain ⟨l1, l2⟩ := ihl h3 p hp
    obtain ⟨r1, r2⟩ := ihr h4 q hq
    rw [ht, hp, hq] at he
    rw [hp, hq] at h1 h2
    rw [cnt]
    obtain ⟨k, rfl⟩ : ∃ k, h = k + 1 := ⟨h - 1, by omega⟩
    have hpk : p ≤ k ∧ q ≤ k ∧ (p = k ∨ q = k) ∧ k ≤ p + 1 ∧ k ≤ q + 1 := by omega
    have pw : ∀ {i j : Nat}, i ≤ j → (2 : Int) ^ i ≤ 2 ^ j := fun {i j} hij => by
      have := Nat.pow_le_pow_right (show 0 < 2 by omega) hij
      exact_mod_cast this
    constructor
    · cases k with
      | zero =>
        have := cnt_nonneg l
        have := cnt_nonneg r
        show (1 : Int) ≤ _
        omega
      | succ k =>
        rw [fN]
        have a1 := fN_le (show k ≤ p by omega)
        have a2 := fN_le (show k ≤ q by omega)
        rcases hpk.2.2.1 with e | e
        · rw [e] at l1; omega
        · rw [e] at r1; omega
    · have b1 := pw hpk.1
      have b2 := pw hpk.2.1
      rw [Int.pow_succ]
      omega
theorem avl_height {t : Tr} {L : List (Int × Int)} (hA : Avl t) (he : tlist t = L) (hm : L.length ≤ 4095) {h : Nat} (hh : ht t = (h : Int)) : h ≤ 16 ∧ fN h ≤ (L.length : Nat) ∧ ((L.length : Nat) : Int) < 2 ^ h := by
  obtain ⟨a, b⟩ := avl_cnt t hA h hh
  rw [cnt_length, he] at a b
  refine ⟨?_, a, b⟩
  by_cases hc : h ≤ 16
  · exact hc
  · have := fN_le (show 17 ≤ h by omega)
    have e : fN 17 = 4180 := by decide
    omega
theorem pow_lt_of {a b : Nat} {n : Int} (h1 : (2 : Int) ^ a - 1 < n) (h2 : n < 2 ^ b) : a < b := by
  by_cases h : a < b
  · exact h
  · have := Nat.pow_le_pow_right (show 0 < 2 by omega) (show b ≤ a by omega)
    have h3 : (2 : Int) ^ b ≤ 2 ^ a := by exact_mod_cast this
    omega
theorem fN_small : ∀ i : Nat, i ≤ 20 → fN i ≤ 20000 ∧ fN (i + 1) ≤ 40000 := by decide
theorem pow_small20 : ∀ i : Nat, i ≤ 20 → (1 : Int) ≤ 2 ^ i ∧ (2 : Int) ^ i ≤ 1048576 := by decide

end Go.Proofs.Ytkaglggljomgdaa

/- Plain theorems for layer 19 (radix). -/
import Derived.Test.YtdnnfoojdfmajaaProg
import Derived.WalkKit
namespace Go.Proofs.Ytdnnfoojdfmajaa
set_option linter.unusedVariables false
set_option linter.unusedSimpArgs false
open Go
def b1 (b : Bool) : Int := if b then 1 else 0
/-- Eight bits. -/
def byt (f : Nat → Bool) : Int := b1 (f 0) + 2 * b1 (f 1) + 4 * b1 (f 2) + 8 * b1 (f 3) + 16 * b1 (f 4) + 32 * b1 (f 5) + 64 * b1 (f 6) + 128 * b1 (f 7)
def put (f : Nat → Bool) (s : Nat) (v : Bool) : Nat → Bool := fun i => if i = s then v else f i
def any8 (f : Nat → Bool) : Bool := f 0 || f 1 || f 2 || f 3 || f 4 || f 5 || f 6 || f 7
def all8 (f : Nat → Bool) : Bool := f 0 && f 1 && f 2 && f 3 && f 4 && f 5 && f 6 && f 7
def cnt8 (f : Nat → Bool) : Nat := (f 0).toNat + (f 1).toNat + (f 2).toNat + (f 3).toNat + (f 4).toNat + (f 5).toNat + (f 6).toNat + (f 7).toNat
theorem any8_iff {f : Nat → Bool} : any8 f = true ↔ ∃ s, s < 8 ∧ f s = true := by
  unfold any8
  simp only [Bool.or_eq_true]
  constructor
  · rintro (((((((h | h) | h) | h) | h) | h) | h) | h)
    · exact ⟨0, by omega, h⟩
    · exact ⟨1, by omega, h⟩
    · exact ⟨2, by omega, h⟩
    · exact ⟨3, by omega, h⟩
    · exact ⟨4, by omega, h⟩
    · exact ⟨5, by omega, h⟩
    · exact ⟨6, by omega, h⟩
    · exact ⟨7, by omega, h⟩
  · rintro ⟨s, hs, h⟩
    match s, hs, h with
    | 0, _, h | 1, _, h | 2, _, h | 3, _, h | 4, _, h | 5, _, h | 6, _, h | 7, _, h => simp [h]
theorem all8_iff {f : Nat → Bool} : all8 f = true ↔ ∀ s, s < 8 → f s = true := by
  unfold all8
  simp only [Bool.and_eq_true]
  constructor
  · rintro ⟨⟨⟨⟨⟨⟨⟨h0, h1⟩, h2⟩, h3⟩, h4⟩, h5⟩, h6⟩, h7⟩ s hs
    match s, hs with
    | 0, _ => exact h0
    | 1, _ => exact h1
    | 2, _ => exact h2
    | 3, _ => exact h3
    | 4, _ => exact h4
    | 5, _ => exact h5
    | 6, _ => exact h6
    | 7, _ => exact h7
  · intro h
    exact ⟨⟨⟨⟨⟨⟨⟨h 0 (by omega), h 1 (by omega)⟩, h 2 (by omega)⟩, h 3 (by omega)⟩, h 4 (by omega)⟩, h 5 (by omega)⟩, h 6 (by omega)⟩, h 7 (by omega)⟩
theorem cnt8_put {f : Nat → Bool} {s : Nat} (hs : s < 8) (v : Bool) : cnt8 (put f s v) + (f s).toNat = cnt8 f + v.toNat := by
  unfold cnt8 put
  match s, hs with
  | 0, _ | 1, _ | 2, _ | 3, _ | 4, _ | 5, _ | 6, _ | 7, _ => simp; omega
theorem cnt8_zero {f : Nat → Bool} : cnt8 f = 0 ↔ any8 f = false := by
  unfold cnt8 any8
  cases f 0 <;> cases f 1 <;> cases f 2 <;> cases f 3 <;> cases f 4 <;> cases f 5 <;> cases f 6 <;> cases f 7 <;> decide
theorem cnt8_le (f : Nat → Bool) : cnt8 f ≤ 8 := by
  have : ∀ b : Bool, b.toNat ≤ 1 := by decide
  have h0 := this (f 0); have h1 := this (f 1); have h2 := this (f 2); have h3 := this (f 3); have h4 := this (f 4); have h5 := this (f 5); have h6 := this (f 6); have h7 := this (f 7)
  unfold cnt8; omega
theorem byt_range (f : Nat → Bool) : 0 ≤ byt f ∧ byt f ≤ 255 := by
  have : ∀ b : Bool, 0 ≤ b1 b ∧ b1 b ≤ 1 := by decide
  have h0 := this (f 0); have h1 := this (f 1); have h2 := this (f 2); have h3 := this (f 3); have h4 := this (f 4); have h5 := this (f 5); have h6 := this (f 6); have h7 := this (f 7)
  unfold byt; omega
theorem clear_all : ∀ s : Fin 8, ∀ b0 b1' b2 b3 b4 b5 b6 b7 : Bool, bits .andNot .u8 (byt (fun i => [b0, b1', b2, b3, b4, b5, b6, b7].getD i false)) (2 ^ s.val) = byt (put (fun i => [b0, b1', b2, b3, b4, b5, b6, b7].getD i false) s.val false) := by decide +kernel
theorem or_all : ∀ s : Fin 8, ∀ b0 b1' b2 b3 b4 b5 b6 b7 : Bool, bits .or .u8 (byt (fun i => [b0, b1', b2, b3, b4, b5, b6, b7].getD i false)) (2 ^ s.val) = byt (put (fun i => [b0, b1', b2, b3, b4, b5, b6, b7].getD i false) s.val true) := by decide +kernel
theorem get_all : ∀ s : Fin 8, ∀ b0 b1' b2 b3 b4 b5 b6 b7 : Bool, bits .and .u8 ((byt (fun i => [b0, b1', b2, b3, b4, b5, b6, b7].getD i false)).fdiv (2 ^ s.val)) 1 = b1 ([b0, b1', b2, b3, b4, b5, b6, b7].getD s.val false) := by decide +kernel
def eight (f : Nat → Bool) : Nat → Bool := fun i => [f 0, f 1, f 2, f 3, f 4, f 5, f 6, f 7].getD i false
theorem eight_lt {f : Nat → Bool} {i : Nat} (h : i < 8) : eight f i = f i := by
  match i, h with
  | 0, _ | 1, _ | 2, _ | 3, _ | 4, _ | 5, _ | 6, _ | 7, _ => rfl
theorem byt_congr {f g : Nat → Bool} (h : ∀ i, i < 8 → f i = g i) : byt f = byt g := by
  unfold byt
  rw [h 0 (by omega), h 1 (by omega), h 2 (by omega), h 3 (by omega), h 4 (by omega), h 5 (by omega), h 6 (by omega), h 7 (by omega)]
theorem any8_congr {f g : Nat → Bool} (h : ∀ i, i < 8 → f i = g i) : any8 f = any8 g := by
  unfold any8
  rw [h 0 (by omega), h 1 (by omega), h 2 (by omega), h 3 (by omega), h 4 (by omega), h 5 (by omega), h 6 (by omega), h 7 (by omega)]
theorem cnt8_congr {f g : Nat → Bool} (h : ∀ i, i < 8 → f i = g i) : cnt8 f = cnt8 g := by
  unfold cnt8
  rw [h 0 (by omega), h 1 (by omega), h 2 (by omega), h 3 (by omega), h 4 (by omega), h 5 (by omega), h 6 (by omega), h 7 (by omega)]
theorem byt_eight (f : Nat → Bool) : byt f = byt (eight f) := byt_congr fun i h => (eight_lt h).symm
theorem put_eight (f : Nat → Bool) {s : Nat} (v : Bool) : byt (put f s v) = byt (put (eight f) s v) := byt_congr fun i h => by unfold put; rw [eight_lt h]
theorem byt_clear (f : Nat → Bool) {s : Nat} (hs : s < 8) : bits .andNot .u8 (byt f) (2 ^ s) = byt (put f s false) := by
  rw [byt_eight f, put_eight f]; exact clear_all ⟨s, hs⟩ _ _ _ _ _ _ _ _
theorem byt_set (f : Nat → Bool) {s : Nat} (hs : s < 8) : bits .or .u8 (byt f) (2 ^ s) = byt (put f s true) := by
  rw [byt_eight f, put_eight f]; exact or_all ⟨s, hs⟩ _ _ _ _ _ _ _ _
theorem byt_get (f : Nat → Bool) {s : Nat} (hs : s < 8) : bits .and .u8 ((byt f).fdiv (2 ^ s)) 1 = b1 (f s) := by
  rw [byt_eight f, ← eight_lt (f := f) hs]; exact get_all ⟨s, hs⟩ _ _ _ _ _ _ _ _
theorem byt_zero {f : Nat → Bool} : byt f = 0 ↔ any8 f = false := by
  unfold byt any8
  cases f 0 <;> cases f 1 <;> cases f 2 <;> cases f 3 <;> cases f 4 <;> cases f 5 <;> cases f 6 <;> cases f 7 <;> decide
theorem byt_full {f : Nat → Bool} : byt f = 255 ↔ all8 f = true := by
  unfold byt all8
  cases f 0 <;> cases f 1 <;> cases f 2 <;> cases f 3 <;> cases f 4 <;> cases f 5 <;> cases f 6 <;> cases f 7 <;> decide
/-- An entry. -/
structure X where
  p : Nat
  k : Nat
  v : Int
  a : Bool
  b : Bool
  c : Bool
def X.m (x : X) (i : Nat) : Bool := if i = 0 then x.a else if i = 1 then x.b else if i = 2 then x.c else false
def X.n (x : X) : Nat := 8 ^ x.k
def big : Int := 1152921504606846976
def Xok (x : X) : Prop := x.k ≤ 2 ∧ x.p % 8 ^ x.k = 0 ∧ x.p + 8 ^ x.k ≤ 4096 ∧ -big ≤ x.v ∧ x.v ≤ big
def Good (L : List X) : Prop := (∀ x ∈ L, Xok x) ∧ L.Pairwise fun x y => x.p + 8 ^ x.k ≤ y.p
def Cov (x : X) (g : Nat) : Prop := x.p ≤ g ∧ g < x.p + 8 ^ x.k
instance (x : X) (g : Nat) : Decidable (Cov x g) := by unfold Cov; infer_instance
/-- What the tree needs. -/
def Need (L : List X) (k p : Nat) : Prop := ∃ x ∈ L, x.k ≤ k ∧ x.p / 8 ^ (k + 1) = p
def Ent (L : List X) (k q : Nat) : Prop := ∃ x ∈ L, x.k = k ∧ x.p = q * 8 ^ k
def Bit (L : List X) (k q m : Nat) : Prop := ∃ x ∈ L, x.k ≤ k ∧ x.p / 8 ^ k = q ∧ x.m m = true
theorem Good.disj {L : List X} (h : Good L) {x y : X} (hx : x ∈ L) (hy : y ∈ L) {g : Nat} (cx : Cov x g) (cy : Cov y g) : x = y := by
  obtain ⟨_, hp⟩ := h
  rw [List.pairwise_iff_getElem] at hp
  obtain ⟨i, hi, rfl⟩ := List.mem_iff_getElem.1 hx
  obtain ⟨j, hj, rfl⟩ := List.mem_iff_getElem.1 hy
  unfold Cov at cx cy
  rcases Nat.lt_trichotomy i j with hij | rfl | hij
  · have := hp i j hi hj hij; omega
  · rfl
  · have := hp j i hj hi hij; omega

end Go.Proofs.Ytdnnfoojdfmajaa

/- Parts of the proofs of layer 19 (radix): contracts of its functions, and the laws' walks. -/
import Derived.Test.YtdnnfoojdfmajaaProg
import Derived.WalkKit
import Derived.WalkSpells
import Derived.WalkLawsBesides
import Derived.BigQuiet
import Derived.Deep.QuietTactic
import Derived.Lib.Hide
import Derived.Deep.RegionHeld3
import Derived.Deep.DeepCutAuto
import Derived.KernelRfl
import Derived.Deep.OwnRows
import Derived.Laws.CopyOwn
import Derived.Laws.CopyRow
import Derived.StillTailTactics
import Derived.Deep.RegionLaw
import Derived.Handy
import Derived.Deep.CutRange
import Derived.Deep.CutBlock
import Derived.Test.YtdnnfoojdfmajaaR8
namespace Go.Proofs.Ytdnnfoojdfmajaa
open Go.RowKit
set_option linter.unusedVariables false
set_option linter.unusedSimpArgs false

theorem Good.sub {L M : List X} (h : Good L) (hs : M.Sublist L) : Good M := ⟨fun x hx => h.1 x (hs.subset hx), h.2.sublist hs⟩
theorem dl_sub (i n : Nat) (L : List X) : (dl i n L).Sublist L := by
  unfold dl
  have e : L = L.take i ++ L.drop i := (List.take_append_drop i L).symm
  conv => rhs; rw [e]
  refine (List.Sublist.refl _).append ?_
  rw [← List.drop_drop]
  exact List.drop_sublist _ _
theorem Good.nodup {L : List X} (h : Good L) {a b : Nat} {x : X} (ha : L[a]? = some x) (hb : L[b]? = some x) : a = b := by
  obtain ⟨la, rfl⟩ := List.getElem?_eq_some_iff.1 ha
  obtain ⟨lb, hb⟩ := List.getElem?_eq_some_iff.1 hb
  have hp := List.pairwise_iff_getElem.1 h.2
  have hpos : 0 < 8 ^ (L[a]).k := Nat.pow_pos (by decide)
  rcases Nat.lt_trichotomy a b with h1 | h1 | h1
  · have := hp a b la lb h1; rw [hb] at this; omega
  · exact h1
  · have := hp b a lb la h1; rw [hb] at this; omega
theorem Good.ins {L : List X} {x : X} (h : Good L) (hx : Xok x) (hd : ∀ y ∈ L, x.p + 8 ^ x.k ≤ y.p ∨ y.p + 8 ^ y.k ≤ x.p) : Good (Go.Proofs.Ytdnnfoojdfmajaa.ins x L) := by
  refine ⟨fun y hy => by
    rcases ins_mem.1 hy with rfl | hy
    · exact hx
    · exact h.1 y hy, ?_⟩
  have hp := h.2
  clear h
  have hpos : ∀ z : X, 0 < 8 ^ z.k := fun z => Nat.pow_pos (by decide)
  induction L with
  | nil => simp [Go.Proofs.Ytdnnfoojdfmajaa.ins]
  | cons z l ih =>
    rw [List.pairwise_cons] at hp
    unfold Go.Proofs.Ytdnnfoojdfmajaa.ins
    split
    · next hlt =>
      rw [List.pairwise_cons]
      refine ⟨fun y hy => ?_, List.pairwise_cons.2 hp⟩
      rcases hd y hy with h1 | h1
      · exact h1
      · exfalso
        have := hpos y
        rcases List.mem_cons.1 hy with rfl | hy
        · omega
        · have := hp.1 y hy
          have := hpos z
          omega
    · next hge =>
      rw [List.pairwise_cons]
      refine ⟨fun y hy => ?_, ih (fun y hy => hd y (List.mem_cons_of_mem _ hy)) hp.2⟩
      rcases ins_mem.1 hy with rfl | hy
      · rcases hd z (by simp) with h1 | h1
        · have := hpos y; omega
        · exact h1
      · exact hp.1 y hy
theorem dl_mem {i n : Nat} {L : List X} {y : X} : y ∈ dl i n L ↔ ∃ j, L[j]? = some y ∧ (j < i ∨ i + n ≤ j) := by
  unfold dl
  rw [List.mem_append, List.mem_iff_getElem?, List.mem_iff_getElem?]
  constructor
  · rintro (⟨j, h⟩ | ⟨j, h⟩)
    · rw [List.getElem?_take] at h
      split at h
      · exact ⟨j, h, .inl ‹_›⟩
      · cases h
    · rw [List.getElem?_drop] at h
      exact ⟨_, h, .inr (by omega)⟩
  · rintro ⟨j, h, h1 | h1⟩
    · exact .inl ⟨j, by rw [List.getElem?_take, if_pos h1]; exact h⟩
    · exact .inr ⟨j - (i + n), by rw [List.getElem?_drop, show i + n + (j - (i + n)) = j from by omega]; exact h⟩
theorem dl1_mem {i : Nat} {L : List X} {x y : X} (hg : Good L) (hi : L[i]? = some x) : y ∈ dl i 1 L ↔ y ∈ L ∧ y ≠ x := by
  rw [dl_mem]
  constructor
  · rintro ⟨j, hj, h1⟩
    refine ⟨List.mem_of_getElem? hj, fun e => ?_⟩
    subst e
    have := hg.nodup hi hj
    omega
  · rintro ⟨hy, hne⟩
    obtain ⟨j, hj⟩ := List.mem_iff_getElem?.1 hy
    refine ⟨j, hj, ?_⟩
    by_cases e : j = i
    · subst e; rw [hi] at hj; cases hj; exact absurd rfl hne
    · omega
theorem dl8_mem {i k P : Nat} {L : List X} {Y : Nat → X} {y : X} (hg : Good L) (hr : Row8 L i k P Y) : y ∈ dl i 8 L ↔ y ∈ L ∧ ∀ j, j < 8 → y ≠ Y j := by
  rw [dl_mem]
  constructor
  · rintro ⟨j, hj, h1⟩
    refine ⟨List.mem_of_getElem? hj, fun n hn e => ?_⟩
    subst e
    have := hg.nodup (hr n hn).1 hj
    omega
  · rintro ⟨hy, hne⟩
    obtain ⟨j, hj⟩ := List.mem_iff_getElem?.1 hy
    refine ⟨j, hj, ?_⟩
    by_cases e : i ≤ j ∧ j < i + 8
    · have := (hr (j - i) (by omega)).1
      rw [show i + (j - i) = j from by omega, hj] at this
      exact absurd (Option.some.inj this) (hne _ (by omega))
    · omega
theorem set_mem {i : Nat} {L : List X} {x x' y : X} (hg : Good L) (hi : L[i]? = some x) : y ∈ L.set i x' ↔ y = x' ∨ (y ∈ L ∧ y ≠ x) := by
  have hil := (List.getElem?_eq_some_iff.1 hi).1
  rw [List.mem_iff_getElem?]
  constructor
  · rintro ⟨j, hj⟩
    by_cases e : i = j
    · subst e
      rw [List.getElem?_set_self hil] at hj
      exact .inl (Option.some.inj hj).symm
    · rw [List.getElem?_set_ne e] at hj
      refine .inr ⟨List.mem_of_getElem? hj, fun e2 => ?_⟩
      subst e2
      exact e (hg.nodup hi hj)
  · rintro (rfl | ⟨hy, hne⟩)
    · exact ⟨i, List.getElem?_set_self hil⟩
    · obtain ⟨j, hj⟩ := List.mem_iff_getElem?.1 hy
      refine ⟨j, ?_⟩
      rw [List.getElem?_set_ne (fun e => by subst e; rw [hi] at hj; exact hne (Option.some.inj hj).symm)]
      exact hj
theorem Good.set {i : Nat} {L : List X} {x x' : X} (hg : Good L) (hi : L[i]? = some x) (hp : x'.p = x.p) (hk : x'.k = x.k) (hx : Xok x') : Good (L.set i x') := by
  refine ⟨fun y hy => by
    rcases (set_mem hg hi).1 hy with rfl | ⟨hy, _⟩
    · exact hx
    · exact hg.1 y hy, ?_⟩
  have hpw := List.pairwise_iff_getElem.1 hg.2
  obtain ⟨hil, hx0⟩ := List.getElem?_eq_some_iff.1 hi
  rw [List.pairwise_iff_getElem]
  intro a b ha hb hab
  rw [List.length_set] at ha hb
  have := hpw a b ha hb hab
  rw [List.getElem_set, List.getElem_set]
  by_cases e1 : i = a
  · subst e1
    rw [if_pos rfl, if_neg (by omega), hp, hk, ← hx0]
    exact this
  · rw [if_neg e1]
    by_cases e2 : i = b
    · subst e2
      rw [if_pos rfl, hp, ← hx0]
      exact this
    · rw [if_neg e2]
      exact this
/-- The one that covers a page excludes others. -/
theorem Good.cov_lt {L : List X} (hg : Good L) {x y : X} (hx : x ∈ L) (hy : y ∈ L) {g : Nat} (hc : Cov x g) (hq : y.p / 8 ^ y.k = g / 8 ^ y.k) : y = x :=
  hg.disj hy hx (((hg.1 y hy).cov g).2 hq) hc
theorem bit_step {L : List X} {k q m : Nat} (hno : ∀ x ∈ L, x.k = k + 1 → x.p / 8 ^ (k + 1) ≠ q) : Bit L (k + 1) q m ↔ ∃ s, s < 8 ∧ Bit L k (8 * q + s) m := by
  constructor
  · rintro ⟨x, hx, h1, h2, h3⟩
    have hne : x.k ≠ k + 1 := fun e => hno x hx e h2
    refine ⟨x.p / 8 ^ k % 8, by omega, x, hx, by omega, ?_, h3⟩
    rw [div_step] at h2
    omega
  · rintro ⟨s, hs, x, hx, h1, h2, h3⟩
    exact ⟨x, hx, by omega, by rw [div_step]; omega, h3⟩
theorem tgt_bit {L : List X} {M0 M' : Nat → Nat → Nat → Bool} {g κ : Nat} (hT : Tgt M0 M' g κ) (ha : ∀ k q m, k ≤ 3 → m < 3 → ¬ (κ < k ∧ q = g / 8 ^ k) → (M0 k q m = true ↔ Bit L k q m))
    (hb : ∀ y ∈ L, κ < y.k → y.p / 8 ^ y.k ≠ g / 8 ^ y.k) : ∀ k q m, k ≤ 3 → m < 3 → (M' k q m = true ↔ Bit L k q m) := by
  intro k
  induction k with
  | zero =>
    intro q m hk hm
    rw [hT, if_neg (by omega)]
    exact ha 0 q m hk hm (by omega)
  | succ k ih =>
    intro q m hk hm
    rw [hT]
    by_cases hc : κ < k + 1 ∧ k + 1 ≤ 3 ∧ q = g / 8 ^ (k + 1) ∧ m < 3
    · rw [if_pos hc, any8_iff, bit_step (fun x hx hxk e => hb x hx (by omega) (by rw [hxk, e]; exact hc.2.2.1))]
      constructor
      · rintro ⟨s, hs, h⟩
        exact ⟨s, hs, (ih _ _ (by omega) hm).1 h⟩
      · rintro ⟨s, hs, h⟩
        exact ⟨s, hs, (ih _ _ (by omega) hm).2 h⟩
    · rw [if_neg hc]
      exact ha _ q m hk hm (fun e => hc ⟨e.1, hk, e.2, hm⟩)
theorem slot_uniq {L : List X} (hg : Good L) {x : X} (hx : x ∈ L) {g : Nat} (hc : Cov x g) {y : X} (hy : y ∈ L) (hk : y.k ≤ x.k) (hq : y.p / 8 ^ x.k = g / 8 ^ x.k) : y = x := by
  have hxo := hg.1 x hx
  have h1 := (hg.1 y hy).slot (k := x.k) (by have := hxo.1; omega) hk hq
  have h2 := (hxo.cov g).1 hc
  have h3 := hxo.aligned
  have hy8 : 0 < 8 ^ y.k := Nat.pow_pos (by decide)
  rw [h2] at h3
  have h4 : (g / 8 ^ x.k + 1) * 8 ^ x.k = g / 8 ^ x.k * 8 ^ x.k + 8 ^ x.k := by rw [Nat.add_mul, Nat.one_mul]
  exact hg.disj hy hx (g := y.p) ⟨Nat.le_refl _, by omega⟩ ⟨by omega, by omega⟩
/-- What a change of the value, of the marks of an entry makes. -/
theorem Ab.chg_v {σ : St} {L : List X} {i g : Nat} {x : X} (h : Ab σ L) (hg : Good L) (hi : L[i]? = some x) (hc : Cov x g) (v : Int) :
    Ab {σ with V := fun k q => if k = x.k ∧ q = g / 8 ^ x.k then v else σ.V k q} (L.set i ⟨x.p, x.k, v, x.a, x.b, x.c⟩) := by
  have hx := List.mem_of_getElem? hi
  have hm := fun y => set_mem (x' := ⟨x.p, x.k, v, x.a, x.b, x.c⟩) (y := y) hg hi
  have hq := ((hg.1 x hx).cov g).1 hc
  have hex : ∀ (Q : Nat → Nat → (Nat → Bool) → Prop), (∃ y ∈ L.set i ⟨x.p, x.k, v, x.a, x.b, x.c⟩, Q y.p y.k y.m) ↔ ∃ y ∈ L, Q y.p y.k y.m := fun Q => by
    constructor
    · rintro ⟨y, hy, hQ⟩
      rcases (hm y).1 hy with rfl | ⟨hy, _⟩
      · exact ⟨x, hx, hQ⟩
      · exact ⟨y, hy, hQ⟩
    · rintro ⟨y, hy, hQ⟩
      by_cases e : y = x
      · subst e; exact ⟨_, (hm _).2 (.inl rfl), hQ⟩
      · exact ⟨y, (hm _).2 (.inr ⟨hy, e⟩), hQ⟩
  refine ⟨fun k p => (h.n k p).trans ?_, fun k q => (h.e k q).trans ?_, fun y hy => ?_, fun k q m hk hm' => (h.m k q m hk hm').trans ?_⟩
  · rw [show Need L k p = ∃ y ∈ L, y.k ≤ k ∧ y.p / 8 ^ (k + 1) = p from rfl, show Need (L.set i ⟨x.p, x.k, v, x.a, x.b, x.c⟩) k p = ∃ y ∈ L.set i ⟨x.p, x.k, v, x.a, x.b, x.c⟩, y.k ≤ k ∧ y.p / 8 ^ (k + 1) = p from rfl, hex fun a b _ => b ≤ k ∧ a / 8 ^ (k + 1) = p]
  · exact (hex fun a b _ => b = k ∧ a = q * 8 ^ k).symm
  · rcases (hm y).1 hy with rfl | ⟨hy, hne⟩
    · exact if_pos ⟨rfl, hq⟩
    · have : ¬ (y.k = x.k ∧ y.p / 8 ^ y.k = g / 8 ^ x.k) := fun e => hne (hg.cov_lt hx hy hc (by rw [e.2, e.1]))
      exact (if_neg this).trans (h.v y hy)
  · exact (hex fun a b c => b ≤ k ∧ a / 8 ^ k = q ∧ c m = true).symm
theorem Ab.chg_m {σ : St} {L : List X} {i g mk : Nat} {x x' : X} {on : Bool} {M' : Nat → Nat → Nat → Bool} (h : Ab σ L) (hg : Good L) (hi : L[i]? = some x) (hc : Cov x g) (hp : x'.p = x.p) (hk : x'.k = x.k) (hv : x'.v = x.v) (hmk : mk < 3) (hxm : ∀ m, x'.m m = if m = mk then on else x.m m)
    (hT : Tgt (setB σ.M x.k (g / 8 ^ x.k) mk on) M' g x.k) : Ab (σ.wM M') (L.set i x') := by
  have hx := List.mem_of_getElem? hi
  have hm := fun y => set_mem (x' := x') (y := y) hg hi
  have hq := ((hg.1 x hx).cov g).1 hc
  have hex : ∀ (Q : Nat → Nat → Prop), (∃ y ∈ L.set i x', Q y.p y.k) ↔ ∃ y ∈ L, Q y.p y.k := fun Q => by
    constructor
    · rintro ⟨y, hy, hQ⟩
      rcases (hm y).1 hy with rfl | ⟨hy, _⟩
      · exact ⟨x, hx, by rw [← hp, ← hk]; exact hQ⟩
      · exact ⟨y, hy, hQ⟩
    · rintro ⟨y, hy, hQ⟩
      by_cases e : y = x
      · subst e; exact ⟨_, (hm _).2 (.inl rfl), by rw [hp, hk]; exact hQ⟩
      · exact ⟨y, (hm _).2 (.inr ⟨hy, e⟩), hQ⟩
  refine ⟨fun k p => (h.n k p).trans ?_, fun k q => (h.e k q).trans ?_, fun y hy => ?_, tgt_bit hT (fun k q m hk3 hm3 hnp => ?_) (fun y hy hlt e => ?_)⟩
  · exact and_congr_right fun _ => (hex fun a b => b ≤ k ∧ a / 8 ^ (k + 1) = p).symm
  · exact (hex fun a b => b = k ∧ a = q * 8 ^ k).symm
  · show σ.V y.k (y.p / 8 ^ y.k) = y.v
    rcases (hm y).1 hy with rfl | ⟨hy, _⟩
    · rw [hp, hk, hv]; exact h.v x hx
    · exact h.v y hy
  · unfold setB
    by_cases e : k = x.k ∧ q = g / 8 ^ x.k ∧ m = mk
    · rw [if_pos e]
      obtain ⟨rfl, rfl, rfl⟩ := e
      constructor
      · rintro rfl
        exact ⟨x', (hm _).2 (.inl rfl), by rw [hk]; exact Nat.le_refl _, by rw [hp]; exact hq, by rw [hxm, if_pos rfl]⟩
      · rintro ⟨y, hy, h1, h2, h3⟩
        rcases (hm y).1 hy with rfl | ⟨hy, hne⟩
        · rw [hxm, if_pos rfl] at h3; exact h3
        · exact absurd (slot_uniq hg hx hc hy h1 h2) hne
    · rw [if_neg e]
      refine (h.m k q m hk3 hm3).trans ?_
      constructor
      · rintro ⟨y, hy, h1, h2, h3⟩
        by_cases ey : y = x
        · subst ey
          refine ⟨x', (hm _).2 (.inl rfl), by rw [hk]; exact h1, by rw [hp]; exact h2, ?_⟩
          have e1 := div_up h1 hq
          rw [hxm, if_neg (fun e2 => ?_)]
          · exact h3
          · by_cases e3 : y.k < k
            · exact hnp ⟨e3, by rw [← h2, e1]⟩
            · obtain rfl : k = y.k := by omega
              exact e ⟨rfl, by rw [← h2, hq], e2⟩
        · exact ⟨y, (hm _).2 (.inr ⟨hy, ey⟩), h1, h2, h3⟩
      · rintro ⟨y, hy, h1, h2, h3⟩
        rcases (hm y).1 hy with rfl | ⟨hy, hne⟩
        · rw [hk] at h1
          rw [hp] at h2
          have e1 := div_up h1 hq
          refine ⟨x, hx, h1, h2, ?_⟩
          rw [hxm, if_neg (fun e2 => ?_)] at h3
          · exact h3
          · by_cases e3 : x.k < k
            · exact hnp ⟨e3, by rw [← h2, e1]⟩
            · obtain rfl : k = x.k := by omega
              exact e ⟨rfl, by rw [← h2, hq], e2⟩
        · exact ⟨y, hy, h1, h2, h3⟩
  · rcases (hm y).1 hy with rfl | ⟨hy, hne⟩
    · omega
    · exact hne (hg.cov_lt hx hy hc e)


theorem dl_length {i n : Nat} {L : List X} (h : i + n ≤ L.length) : (dl i n L).length = L.length - n := by
  unfold dl
  rw [List.length_append, List.length_take, List.length_drop]
  omega
theorem used_need {τ : St} {L : List X} (hg : Good L) {k p : Nat} (hN : ∀ q, k ≠ 0 → ((∃ b, τ.N (k - 1) q = some b) ↔ Need L (k - 1) q)) (hE : ∀ q, (∃ e, τ.E k q = some e) ↔ Ent L k q) : τ.used k p ≠ 0 ↔ Need L k p := by
  unfold St.used
  rw [Ne, cnt8_zero, Bool.not_eq_false, any8_iff]
  constructor
  · rintro ⟨s, hs, h⟩
    unfold St.occ at h
    rw [Bool.or_eq_true] at h
    rcases h with h | h
    · unfold St.bel at h
      by_cases h0 : k = 0
      · rw [if_pos h0] at h; cases h
      · rw [if_neg h0] at h
        obtain ⟨y, hy, h1, h2⟩ := (hN _ h0).1 (Option.isSome_iff_exists.1 h)
        rw [show k - 1 + 1 = k from by omega] at h2
        exact ⟨y, hy, by omega, by rw [div_step, h2]; omega⟩
    · obtain ⟨y, hy, h1, h2⟩ := (hE _).1 (Option.isSome_iff_exists.1 h)
      exact ⟨y, hy, by omega, by rw [div_step, h2, Nat.mul_div_cancel _ (Nat.pow_pos (by decide))]; omega⟩
  · rintro ⟨y, hy, h1, h2⟩
    rw [div_step] at h2
    refine ⟨y.p / 8 ^ k % 8, by omega, ?_⟩
    have e : 8 * p + y.p / 8 ^ k % 8 = y.p / 8 ^ k := by omega
    rw [e]
    unfold St.occ
    rw [Bool.or_eq_true]
    by_cases hk : y.k = k
    · right
      exact Option.isSome_iff_exists.2 ((hE _).2 ⟨y, hy, hk, by have := (hg.1 y hy).aligned; rw [hk] at this; exact this⟩)
    · left
      have h0 : k ≠ 0 := by omega
      unfold St.bel
      rw [if_neg h0]
      exact Option.isSome_iff_exists.2 ((hN _ h0).2 ⟨y, hy, by omega, by rw [show k - 1 + 1 = k from by omega]⟩)
theorem path_lt {g k : Nat} (hg : g < 4096) (hk : k ≤ 3) : g / 8 ^ (k + 1) < 8 ^ (3 - k) := by
  rcases k4 hk with rfl | rfl | rfl | rfl <;> simp <;> omega
section
variable {σ : St} {L : List X} {i g c : Nat} {x : X} {M' : Nat → Nat → Nat → Bool}
theorem Ab.del (h : Ab σ L) (hg : Good L) (hi : L[i]? = some x) (hc : Cov x g) (hT : Tgt (clr σ.M x.k (g / 8 ^ x.k) 3) M' g x.k) (hg4 : g < 4096)
    (h1 : x.k ≤ c) (h2 : c ≤ 4) (h3 : c = 4 ∨ (((σ.noE x.k (g / 8 ^ x.k)).wM M').rem g x.k c).used c (g / 8 ^ (c + 1)) ≠ 0)
    (h4 : ∀ k, x.k ≤ k → k < c → (((σ.noE x.k (g / 8 ^ x.k)).wM M').rem g x.k k).used k (g / 8 ^ (k + 1)) = 0) :
    Ab (((σ.noE x.k (g / 8 ^ x.k)).wM M').rem g x.k c) (dl i 1 L) ∧ cntN (((σ.noE x.k (g / 8 ^ x.k)).wM M').rem g x.k c).N + (c - x.k) = cntN σ.N := by
  have hx := List.mem_of_getElem? hi
  have hm := fun y => dl1_mem (y := y) hg hi
  have hgl := hg.sub (dl_sub i 1 L)
  have hq := ((hg.1 x hx).cov g).1 hc
  have hxk := (hg.1 x hx).1
  have FE : ∀ k j q, (∃ e, (((σ.noE x.k (g / 8 ^ x.k)).wM M').rem g x.k k).E j q = some e) ↔ Ent (dl i 1 L) j q := fun k j q => by
    show (∃ e, setO σ.E x.k (g / 8 ^ x.k) none j q = some e) ↔ _
    by_cases e : j = x.k ∧ q = g / 8 ^ x.k
    · obtain ⟨rfl, rfl⟩ := e
      rw [setO_at]
      constructor
      · rintro ⟨_, h⟩; cases h
      · rintro ⟨y, hy, hk, hp⟩
        obtain ⟨hy, hne⟩ := (hm y).1 hy
        exact absurd (slot_uniq hg hx hc hy (by omega) (by rw [hp, Nat.mul_div_cancel _ (Nat.pow_pos (by decide))])) hne
    · rw [setO_ne e]
      refine (h.e j q).trans ⟨fun ⟨y, hy, hk, hp⟩ => ⟨y, (hm y).2 ⟨hy, fun e2 => e ?_⟩, hk, hp⟩, fun ⟨y, hy, hk, hp⟩ => ⟨y, ((hm y).1 hy).1, hk, hp⟩⟩
      subst e2
      subst hk
      exact ⟨rfl, by rw [← hq, hp, Nat.mul_div_cancel _ (Nat.pow_pos (by decide))]⟩
  have NO : ∀ j p, ¬ (x.k ≤ j ∧ p = g / 8 ^ (j + 1)) → (Need L j p ↔ Need (dl i 1 L) j p) := fun j p hn =>
    ⟨fun ⟨y, hy, hk, hp⟩ => ⟨y, (hm y).2 ⟨hy, fun e2 => by
      subst e2
      exact hn ⟨hk, by rw [← hp]; exact div_up (by omega) hq⟩⟩, hk, hp⟩, fun ⟨y, hy, hk, hp⟩ => ⟨y, ((hm y).1 hy).1, hk, hp⟩⟩
  have HN : ∀ k j p, (((σ.noE x.k (g / 8 ^ x.k)).wM M').rem g x.k k).N j p = if x.k ≤ j ∧ j < k ∧ p = g / 8 ^ (j + 1) then none else σ.N j p := fun _ _ _ => rfl
  have K : ∀ d k, k = x.k + d → k ≤ c → ∀ j p, j < k → j ≤ 3 → ((∃ b, (((σ.noE x.k (g / 8 ^ x.k)).wM M').rem g x.k k).N j p = some b) ↔ Need (dl i 1 L) j p) := by
    intro d
    induction d with
    | zero =>
      intro k hk hkc j p hj hj3
      rw [HN, if_neg (by omega), h.n, ← NO j p (by omega)]
      exact ⟨fun h => h.2, fun h => ⟨hj3, h⟩⟩
    | succ d ih =>
      intro k hk hkc j p hj hj3
      have ih' := ih (k - 1) (by omega) (by omega)
      by_cases e : j = k - 1 ∧ p = g / 8 ^ (j + 1)
      · obtain ⟨rfl, rfl⟩ := e
        rw [HN, if_pos ⟨by omega, hj, rfl⟩]
        have hu := h4 (k - 1) (by omega) (by omega)
        have := used_need (p := g / 8 ^ (k - 1 + 1)) hgl (fun q h0 => ih' (k - 1 - 1) q (by omega) (by omega)) (FE (k - 1) (k - 1))
        constructor
        · rintro ⟨_, h⟩; cases h
        · intro hh; exact absurd hu (this.2 hh)
      · by_cases e2 : j < k - 1
        · rw [← ih' j p e2 hj3, HN, HN]
          by_cases e3 : x.k ≤ j ∧ p = g / 8 ^ (j + 1)
          · rw [if_pos ⟨e3.1, hj, e3.2⟩, if_pos ⟨e3.1, e2, e3.2⟩]
          · rw [if_neg (fun h => e3 ⟨h.1, h.2.2⟩), if_neg (fun h => e3 ⟨h.1, h.2.2⟩)]
        · rw [HN, if_neg (fun h => e ⟨by omega, h.2.2⟩), h.n, ← NO j p (fun h => e ⟨by omega, h.2⟩)]
          exact ⟨fun h => h.2, fun h => ⟨hj3, h⟩⟩
  have KC := K (c - x.k) c (by omega) (Nat.le_refl _)
  refine ⟨⟨fun k p => ?_, FE c, fun y hy => h.v y ((hm y).1 hy).1, tgt_bit hT (fun k q m hk3 hm3 hnp => ?_) (fun y hy hlt e => ((hm y).1 hy).2 (hg.cov_lt hx ((hm y).1 hy).1 hc e))⟩, ?_⟩
  · by_cases hk3 : k ≤ 3
    · by_cases hkc : k < c
      · exact (KC k p hkc hk3).trans ⟨fun h => ⟨hk3, h⟩, fun h => h.2⟩
      · rw [HN, if_neg (by omega), h.n]
        refine and_congr_right fun _ => ?_
        by_cases e : x.k ≤ k ∧ p = g / 8 ^ (k + 1)
        · have hu := h3.resolve_left (by omega)
          obtain ⟨y, hy, hyk, hyp⟩ := (used_need hgl (fun q h0 => KC (c - 1) q (by omega) (by omega)) (FE c c)).1 hu
          have hyp2 : y.p / 8 ^ (k + 1) = p := by rw [e.2]; exact div_up (by omega) hyp
          exact ⟨fun _ => ⟨y, hy, by omega, hyp2⟩, fun _ => ⟨y, ((hm y).1 hy).1, by omega, hyp2⟩⟩
        · exact NO k p e
    · constructor
      · rintro ⟨b, hb⟩
        rw [HN] at hb
        split at hb
        · cases hb
        · exact absurd ((h.n k p).1 ⟨b, hb⟩).1 hk3
      · exact fun h => absurd h.1 hk3
  · unfold clr
    by_cases e : k = x.k ∧ q = g / 8 ^ x.k ∧ m < 3
    · rw [if_pos e]
      obtain ⟨rfl, rfl, _⟩ := e
      constructor
      · intro h; cases h
      · rintro ⟨y, hy, b1, b2, b3⟩
        exact absurd (slot_uniq hg hx hc ((hm y).1 hy).1 b1 b2) ((hm y).1 hy).2
    · rw [if_neg e]
      refine (h.m k q m hk3 hm3).trans ⟨fun ⟨y, hy, b1, b2, b3⟩ => ⟨y, (hm y).2 ⟨hy, fun e2 => ?_⟩, b1, b2, b3⟩, fun ⟨y, hy, b1, b2, b3⟩ => ⟨y, ((hm y).1 hy).1, b1, b2, b3⟩⟩
      subst e2
      have e1 := div_up b1 hq
      by_cases e3 : y.k < k
      · exact hnp ⟨e3, by rw [← b2, e1]⟩
      · obtain rfl : k = y.k := by omega
        exact e ⟨rfl, by rw [← b2, hq], hm3⟩
  · have : ∀ d, x.k + d ≤ c → cntN (((σ.noE x.k (g / 8 ^ x.k)).wM M').rem g x.k (x.k + d)).N + d = cntN σ.N := by
      intro d
      induction d with
      | zero =>
        intro _
        rw [Nat.add_zero, show x.k + 0 = x.k from rfl, rem_start]
        exact congrArg cntN (show ((σ.noE x.k (g / 8 ^ x.k)).wM M').N = σ.N from rfl)
      | succ d ih =>
        intro hd
        have ih' := ih (by omega)
        rw [show x.k + (d + 1) = x.k + d + 1 from rfl, ← rem_step _ g x.k (x.k + d) (by omega)]
        obtain ⟨b, hb⟩ := (h.n (x.k + d) (g / 8 ^ (x.k + d + 1))).2 ⟨by omega, x, hx, by omega, div_up (by omega) hq⟩
        have hb' : (((σ.noE x.k (g / 8 ^ x.k)).wM M').rem g x.k (x.k + d)).N (x.k + d) (g / 8 ^ (x.k + d + 1)) = some b := by rw [HN, if_neg (by omega)]; exact hb
        have := cntN_none ⟨by omega, path_lt hg4 (by omega)⟩ hb'
        show cntN (setO (((σ.noE x.k (g / 8 ^ x.k)).wM M').rem g x.k (x.k + d)).N (x.k + d) (g / 8 ^ (x.k + d + 1)) none) + (d + 1) = cntN σ.N
        omega
    have := this (c - x.k) (by omega)
    rw [show x.k + (c - x.k) = c from by omega] at this
    exact this
theorem Ab.add {σ1 : St} {k e : Nat} {v : Int} (h : Ab σ L) (hg : Good L) (hk : k ≤ 2) (ha : g % 8 ^ k = 0) (hg4 : g < 4096) (hv : -1152921504606846976 ≤ v ∧ v ≤ 1152921504606846976)
    (hfree : ∀ y ∈ L, ¬ (g < y.p + 8 ^ y.k ∧ y.p < g + 8 ^ k)) (hG : Gr σ σ1 g k) :
    Ab {σ1 with E := setO σ1.E k (g / 8 ^ k) (some e), V := fun k' q' => if k' = k ∧ q' = g / 8 ^ k then v else σ1.V k' q'} (ins ⟨g, k, v, false, false, false⟩ L) ∧ Good (ins ⟨g, k, v, false, false, false⟩ L) := by
  have hn : Xok ⟨g, k, v, false, false, false⟩ := by
    refine ⟨hk, ha, ?_, hv⟩
    show g + 8 ^ k ≤ 4096
    rcases k3 hk with rfl | rfl | rfl <;> simp at ha ⊢ <;> omega
  have hal : g = g / 8 ^ k * 8 ^ k := hn.aligned
  have hgd := hg.ins hn (fun y hy => by
    show g + 8 ^ k ≤ y.p ∨ y.p + 8 ^ y.k ≤ g
    have := hfree y hy
    omega)
  refine ⟨⟨fun j p => ?_, fun j q => ?_, fun y hy => ?_, fun j q m hj hm => ?_⟩, hgd⟩
  · show (∃ b, σ1.N j p = some b) ↔ _
    by_cases e : k ≤ j ∧ j ≤ 3 ∧ p = g / 8 ^ (j + 1)
    · obtain ⟨b1, b2, rfl⟩ := e
      exact ⟨fun _ => ⟨b2, _, ins_mem.2 (.inl rfl), b1, rfl⟩, fun _ => hG.on j b1 b2⟩
    · rw [hG.off j p e, h.n]
      refine and_congr_right fun hj3 => ⟨fun ⟨y, hy, b1, b2⟩ => ⟨y, ins_mem.2 (.inr hy), b1, b2⟩, fun ⟨y, hy, b1, b2⟩ => ?_⟩
      rcases ins_mem.1 hy with rfl | hy
      · exact absurd ⟨b1, hj3, b2.symm⟩ e
      · exact ⟨y, hy, b1, b2⟩
  · show (∃ b, setO σ1.E k (g / 8 ^ k) (some e) j q = some b) ↔ _
    by_cases e2 : j = k ∧ q = g / 8 ^ k
    · obtain ⟨rfl, rfl⟩ := e2
      rw [setO_at]
      exact ⟨fun _ => ⟨_, ins_mem.2 (.inl rfl), rfl, hal⟩, fun _ => ⟨e, rfl⟩⟩
    · rw [setO_ne e2, hG.E, h.e]
      refine ⟨fun ⟨y, hy, b1, b2⟩ => ⟨y, ins_mem.2 (.inr hy), b1, b2⟩, fun ⟨y, hy, b1, b2⟩ => ?_⟩
      rcases ins_mem.1 hy with rfl | hy
      · exfalso
        replace b1 : k = j := b1
        replace b2 : g = q * 8 ^ j := b2
        subst b1
        exact e2 ⟨rfl, by rw [b2, Nat.mul_div_cancel _ (Nat.pow_pos (by decide))]⟩
      · exact ⟨y, hy, b1, b2⟩
  · show (if y.k = k ∧ y.p / 8 ^ y.k = g / 8 ^ k then v else σ1.V y.k (y.p / 8 ^ y.k)) = y.v
    rcases ins_mem.1 hy with rfl | hy
    · exact if_pos ⟨rfl, rfl⟩
    · rw [if_neg, hG.V]
      · exact h.v y hy
      · rintro ⟨b1, b2⟩
        have := (hg.1 y hy).aligned
        rw [b2, b1, ← hal] at this
        have p0 : 0 < 8 ^ k := Nat.pow_pos (by decide)
        exact hfree y hy ⟨by rw [this, b1]; omega, by omega⟩
  · show σ1.M j q m = true ↔ _
    rw [hG.M, h.m j q m hj hm]
    refine ⟨fun ⟨y, hy, b1, b2, b3⟩ => ⟨y, ins_mem.2 (.inr hy), b1, b2, b3⟩, fun ⟨y, hy, b1, b2, b3⟩ => ?_⟩
    rcases ins_mem.1 hy with rfl | hy
    · exfalso
      unfold X.m at b3
      simp at b3
    · exact ⟨y, hy, b1, b2, b3⟩
end


theorem pcs_mem {x y : X} {step : Int} {M : List X} : ∀ {n : Nat}, y ∈ pcs x step n M ↔ (∃ j, j < n ∧ y = pc x step j) ∨ y ∈ M
  | 0 => by
    rw [pcs]
    exact ⟨.inr, fun h => h.elim (fun ⟨j, h, _⟩ => absurd h (Nat.not_lt_zero _)) id⟩
  | n + 1 => by
    rw [pcs, ins_mem, pcs_mem]
    constructor
    · rintro (h | ⟨j, hj, h⟩ | h)
      · exact .inl ⟨n, by omega, h⟩
      · exact .inl ⟨j, by omega, h⟩
      · exact .inr h
    · rintro (⟨j, hj, h⟩ | h)
      · by_cases e : j = n
        · subst e; exact .inl h
        · exact .inr (.inl ⟨j, by omega, h⟩)
      · exact .inr (.inr h)
theorem okS_mid {v step : Int} (h : okS v step) (hv : -1152921504606846976 ≤ v ∧ v ≤ 1152921504606846976) {n : Nat} (hn : n < 8) : -1152921504606846976 ≤ v + ((n : Nat) : Int) * step ∧ v + ((n : Nat) : Int) * step ≤ 1152921504606846976 := by
  obtain ⟨a, b, c, d⟩ := h
  match n, hn with
  | 0, _ | 1, _ | 2, _ | 3, _ | 4, _ | 5, _ | 6, _ | 7, _ => simp; omega
theorem pc_range {x : X} (hx : Xok x) (hk : x.k ≠ 0) {step : Int} {n : Nat} (hn : n < 8) : (pc x step n).p = (8 * (x.p / 8 ^ x.k) + n) * 8 ^ (x.k - 1) ∧ (pc x step n).p / 8 ^ (x.k - 1) = 8 * (x.p / 8 ^ x.k) + n ∧ (pc x step n).p / 8 ^ x.k = x.p / 8 ^ x.k ∧
    x.p ≤ (pc x step n).p ∧ (pc x step n).p + 8 ^ (x.k - 1) ≤ x.p + 8 ^ x.k ∧ (pc x step n).p % 8 ^ (x.k - 1) = 0 := by
  obtain ⟨h1, h2, h3, _⟩ := hx
  unfold pc
  dsimp only
  rcases (show x.k = 1 ∨ x.k = 2 by omega) with e | e <;> rw [e] at h2 h3 ⊢ <;> simp at h2 h3 ⊢ <;> omega
theorem pc_ok {x : X} (hx : Xok x) (hk : x.k ≠ 0) {step : Int} (ho : okS x.v step) {n : Nat} (hn : n < 8) : Xok (pc x step n) := by
  obtain ⟨_, _, _, r1, r2, r3⟩ := pc_range (step := step) hx hk hn
  have h3 := hx.2.2.1
  have h1 := hx.1
  refine ⟨?_, r3, ?_, okS_mid ho hx.2.2.2 hn⟩
  · show x.k - 1 ≤ 2
    omega
  · show (pc x step n).p + 8 ^ (x.k - 1) ≤ 4096
    omega
theorem Good.pcs {L : List X} {x : X} {step : Int} (hg : Good L) (hx : Xok x) (hk : x.k ≠ 0) (ho : okS x.v step) (hd : ∀ y ∈ L, x.p + 8 ^ x.k ≤ y.p ∨ y.p + 8 ^ y.k ≤ x.p) : ∀ {n : Nat}, n ≤ 8 → Good (Go.Proofs.Ytdnnfoojdfmajaa.pcs x step n L)
  | 0, _ => hg
  | n + 1, hn => by
    refine (Good.pcs hg hx hk ho hd (n := n) (by omega)).ins (pc_ok hx hk ho (by omega)) fun y hy => ?_
    obtain ⟨r0, _, _, r1, r2, _⟩ := pc_range (step := step) hx hk (show n < 8 by omega)
    show (pc x step n).p + 8 ^ (x.k - 1) ≤ y.p ∨ y.p + 8 ^ y.k ≤ (pc x step n).p
    rcases pcs_mem.1 hy with ⟨j, hj, rfl⟩ | hy
    · right
      obtain ⟨q0, _⟩ := pc_range (step := step) hx hk (show j < 8 by omega)
      show (pc x step j).p + 8 ^ (x.k - 1) ≤ (pc x step n).p
      rw [q0, r0]
      have : (8 * (x.p / 8 ^ x.k) + j) * 8 ^ (x.k - 1) + 8 ^ (x.k - 1) = (8 * (x.p / 8 ^ x.k) + j + 1) * 8 ^ (x.k - 1) := (Nat.add_one_mul _ _).symm
      rw [this]
      exact Nat.mul_le_mul_right _ (by omega)
    · rcases hd y hy with h | h
      · left; omega
      · right; omega
section
variable {σ : St} {L : List X} {i g c : Nat} {x : X} {step : Int}
theorem Ab.split (h : Ab σ L) (hg : Good L) (hi : L[i]? = some x) (hc : Cov x g) (hk : x.k ≠ 0) (ho : okS x.v step) (hg4 : g < 4096) :
    Good (pcs x step 8 (dl i 1 L)) ∧ Ab (σ.split x.k (g / 8 ^ x.k) c x.v step) (pcs x step 8 (dl i 1 L)) ∧ cntN (σ.split x.k (g / 8 ^ x.k) c x.v step).N = cntN σ.N + 1 := by
  have hx := List.mem_of_getElem? hi
  have hxo := hg.1 x hx
  have hm0 := fun y => dl1_mem (y := y) hg hi
  have hm : ∀ y, y ∈ pcs x step 8 (dl i 1 L) ↔ (∃ j, j < 8 ∧ y = pc x step j) ∨ (y ∈ L ∧ y ≠ x) := fun y => pcs_mem.trans (or_congr_right (hm0 y))
  have hq := (hxo.cov g).1 hc
  have hxk := hxo.1
  have hdis : ∀ y ∈ dl i 1 L, x.p + 8 ^ x.k ≤ y.p ∨ y.p + 8 ^ y.k ≤ x.p := fun y hy => by
    obtain ⟨hy, hne⟩ := (hm0 y).1 hy
    have hy8 : 0 < 8 ^ y.k := Nat.pow_pos (by decide)
    have hx8 : 0 < 8 ^ x.k := Nat.pow_pos (by decide)
    rcases Nat.lt_or_ge x.p y.p with h1 | h1
    · left
      have : ¬ Cov x y.p := fun hcc => hne (hg.disj hy hx ⟨Nat.le_refl _, by omega⟩ hcc)
      unfold Cov at this
      omega
    · right
      have : ¬ Cov y x.p := fun hcc => hne (hg.disj hy hx hcc ⟨Nat.le_refl _, by omega⟩)
      unfold Cov at this
      omega
  have hgd := (hg.sub (dl_sub i 1 L)).pcs hxo hk ho hdis (n := 8) (Nat.le_refl _)
  have hP := fun n (hn : n < 8) => pc_range (step := step) hxo hk hn
  rw [← hq]
  have hsl : ∀ y ∈ L, y.k ≤ x.k → y.p / 8 ^ x.k = x.p / 8 ^ x.k → y = x := fun y hy h1 h2 => slot_uniq hg hx hc hy h1 (h2.trans hq)
  have k1 : x.k - 1 + 1 = x.k := by omega
  have hN0 : σ.N (x.k - 1) (x.p / 8 ^ x.k) = none := by
    cases hb : σ.N (x.k - 1) (x.p / 8 ^ x.k) with
    | none => rfl
    | some b =>
      obtain ⟨_, y, hy, h1, h2⟩ := (h.n _ _).1 ⟨b, hb⟩
      rw [k1] at h2
      have := hsl y hy (by omega) h2
      subst this
      omega
  refine ⟨hgd, ⟨fun j p => ?_, fun j q => ?_, fun y hy => ?_, fun j q m hj hm3 => ?_⟩, cntN_some ⟨by omega, ?_⟩ hN0⟩
  · show (∃ b, setO σ.N (x.k - 1) (x.p / 8 ^ x.k) (some c) j p = some b) ↔ _
    by_cases e : j = x.k - 1 ∧ p = x.p / 8 ^ x.k
    · obtain ⟨rfl, rfl⟩ := e
      rw [setO_at]
      exact ⟨fun _ => ⟨by omega, pc x step 0, (hm _).2 (.inl ⟨0, by omega, rfl⟩), Nat.le_refl _, by rw [k1]; exact (hP 0 (by omega)).2.2.1⟩, fun _ => ⟨c, rfl⟩⟩
    · rw [setO_ne e, h.n]
      refine and_congr_right fun hj3 => ⟨fun ⟨y, hy, b1, b2⟩ => ?_, fun ⟨y, hy, b1, b2⟩ => ?_⟩
      · by_cases ey : y = x
        · subst ey
          exact ⟨pc y step 0, (hm _).2 (.inl ⟨0, by omega, rfl⟩), by show y.k - 1 ≤ j; omega, by rw [← b2]; exact div_up (by omega) (hP 0 (by omega)).2.2.1⟩
        · exact ⟨y, (hm _).2 (.inr ⟨hy, ey⟩), b1, b2⟩
      · rcases (hm y).1 hy with ⟨n, hn, rfl⟩ | ⟨hy, _⟩
        · replace b1 : x.k - 1 ≤ j := b1
          by_cases ej : j = x.k - 1
          · subst ej
            rw [k1, (hP n hn).2.2.1] at b2
            exact absurd ⟨rfl, b2.symm⟩ e
          · exact ⟨x, hx, by omega, by rw [← b2]; exact (div_up (by omega) (hP n hn).2.2.1).symm⟩
        · exact ⟨y, hy, b1, b2⟩
  · show (∃ b, (if j = x.k ∧ q = x.p / 8 ^ x.k then none else if j = x.k - 1 ∧ q / 8 = x.p / 8 ^ x.k then some (c + 1 + q % 8) else σ.E j q) = some b) ↔ _
    by_cases e1 : j = x.k ∧ q = x.p / 8 ^ x.k
    · obtain ⟨rfl, rfl⟩ := e1
      rw [if_pos ⟨rfl, rfl⟩]
      constructor
      · rintro ⟨_, h⟩; cases h
      · rintro ⟨y, hy, b1, b2⟩
        rcases (hm y).1 hy with ⟨n, hn, rfl⟩ | ⟨hy, hne⟩
        · replace b1 : x.k - 1 = x.k := b1
          omega
        · exact absurd (hsl y hy (by omega) (by rw [b2, Nat.mul_div_cancel _ (Nat.pow_pos (by decide))])) hne
    · rw [if_neg e1]
      by_cases e2 : j = x.k - 1 ∧ q / 8 = x.p / 8 ^ x.k
      · rw [if_pos e2]
        refine ⟨fun _ => ⟨pc x step (q % 8), (hm _).2 (.inl ⟨q % 8, by omega, rfl⟩), e2.1.symm, ?_⟩, fun _ => ⟨_, rfl⟩⟩
        rw [(hP (q % 8) (by omega)).1, ← e2.2, e2.1, show 8 * (q / 8) + q % 8 = q from by omega]
      · rw [if_neg e2, h.e]
        refine ⟨fun ⟨y, hy, b1, b2⟩ => ?_, fun ⟨y, hy, b1, b2⟩ => ?_⟩
        · refine ⟨y, (hm _).2 (.inr ⟨hy, fun ey => e1 ?_⟩), b1, b2⟩
          subst ey
          subst b1
          exact ⟨rfl, by rw [b2, Nat.mul_div_cancel _ (Nat.pow_pos (by decide))]⟩
        · rcases (hm y).1 hy with ⟨n, hn, rfl⟩ | ⟨hy, hne⟩
          · exfalso
            replace b1 : x.k - 1 = j := b1
            subst b1
            have := (hP n hn).2.1
            rw [b2, Nat.mul_div_cancel _ (Nat.pow_pos (by decide))] at this
            exact e2 ⟨rfl, by omega⟩
          · exact ⟨y, hy, b1, b2⟩
  · show (if y.k = x.k - 1 ∧ y.p / 8 ^ y.k / 8 = x.p / 8 ^ x.k then x.v + ((y.p / 8 ^ y.k % 8 : Nat) : Int) * step else σ.V y.k (y.p / 8 ^ y.k)) = y.v
    rcases (hm y).1 hy with ⟨n, hn, rfl⟩ | ⟨hy, hne⟩
    · have e := (hP n hn).2.1
      have e' : (pc x step n).p / 8 ^ (pc x step n).k = 8 * (x.p / 8 ^ x.k) + n := e
      rw [e', if_pos ⟨rfl, by omega⟩, show (8 * (x.p / 8 ^ x.k) + n) % 8 = n from by omega]
      rfl
    · rw [if_neg]
      · exact h.v y hy
      · rintro ⟨b1, b2⟩
        refine hne (hsl y hy (by omega) ?_)
        rw [← b2, b1, ← div_step, k1]
  · show (if j = x.k - 1 ∧ q / 8 = x.p / 8 ^ x.k ∧ m < 3 then σ.M x.k (x.p / 8 ^ x.k) m else σ.M j q m) = true ↔ _
    have hmm : ∀ n, (pc x step n).m m = x.m m := fun n => rfl
    by_cases e : j = x.k - 1 ∧ q / 8 = x.p / 8 ^ x.k
    · rw [if_pos ⟨e.1, e.2, hm3⟩, h.m _ _ _ (by omega) hm3]
      obtain ⟨rfl, e2⟩ := e
      constructor
      · rintro ⟨y, hy, b1, b2, b3⟩
        have := hsl y hy b1 b2
        subst this
        exact ⟨pc y step (q % 8), (hm _).2 (.inl ⟨q % 8, by omega, rfl⟩), Nat.le_refl _, by rw [(hP (q % 8) (by omega)).2.1]; omega, b3⟩
      · rintro ⟨y, hy, b1, b2, b3⟩
        rcases (hm y).1 hy with ⟨n, hn, rfl⟩ | ⟨hy, hne⟩
        · exact ⟨x, hx, Nat.le_refl _, rfl, b3⟩
        · refine absurd (hsl y hy (by omega) ?_) hne
          rw [← e2, ← b2, ← div_step, k1]
    · rw [if_neg (fun h => e ⟨h.1, h.2.1⟩), h.m _ _ _ hj hm3]
      constructor
      · rintro ⟨y, hy, b1, b2, b3⟩
        by_cases ey : y = x
        · subst ey
          exact ⟨pc y step 0, (hm _).2 (.inl ⟨0, by omega, rfl⟩), by show y.k - 1 ≤ j; omega, by rw [← b2]; exact div_up b1 (hP 0 (by omega)).2.2.1, b3⟩
        · exact ⟨y, (hm _).2 (.inr ⟨hy, ey⟩), b1, b2, b3⟩
      · rintro ⟨y, hy, b1, b2, b3⟩
        rcases (hm y).1 hy with ⟨n, hn, rfl⟩ | ⟨hy, hne⟩
        · replace b1 : x.k - 1 ≤ j := b1
          by_cases ej : j = x.k - 1
          · subst ej
            rw [(hP n hn).2.1] at b2
            exact absurd ⟨rfl, by omega⟩ e
          · exact ⟨x, hx, by omega, by rw [← b2]; exact (div_up (by omega) (hP n hn).2.2.1).symm, b3⟩
        · exact ⟨y, hy, b1, b2, b3⟩
  · have := path_lt (g := x.p) (k := x.k - 1) hxo.lt (by omega)
    rw [k1] at this
    exact this
/-- The one that eight entries make. -/
def jn (y : X) : X := ⟨y.p, y.k + 1, y.v, y.a, y.b, y.c⟩
variable {k P : Nat} {Y : Nat → X} {x0 : Nat}
theorem Ab.join (h : Ab σ L) (hg : Good L) (hk : k ≤ 1) (hr : Row8 L i k P Y) (hal : AlkY Y) :
    Good (ins ⟨(Y 0).p, k + 1, (Y 0).v, (Y 0).a, (Y 0).b, (Y 0).c⟩ (dl i 8 L)) ∧ Ab (σ.join k P x0) (ins ⟨(Y 0).p, k + 1, (Y 0).v, (Y 0).a, (Y 0).b, (Y 0).c⟩ (dl i 8 L)) ∧ cntN (σ.join k P x0).N + 1 = cntN σ.N := by
  obtain ⟨J, hJ⟩ : ∃ J : X, (⟨(Y 0).p, k + 1, (Y 0).v, (Y 0).a, (Y 0).b, (Y 0).c⟩ : X) = J := ⟨_, rfl⟩
  rw [hJ]
  have hy0 := fun j (hj : j < 8) => List.mem_of_getElem? (hr j hj).1
  have hyk := fun j (hj : j < 8) => (hr j hj).2.1
  have hyp := fun j (hj : j < 8) => (hr j hj).2.2
  have hpos : 0 < 8 ^ k := Nat.pow_pos (by decide)
  have hs : 8 ^ (k + 1) = 8 * 8 ^ k := by rw [Nat.pow_succ, Nat.mul_comm]
  have hJp : J.p = P * 8 ^ (k + 1) := by rw [← hJ, hs]; show (Y 0).p = _; rw [hyp 0 (by omega), Nat.add_zero, Nat.mul_comm 8 P, Nat.mul_assoc]
  have hJk : J.k = k + 1 := by rw [← hJ]
  have hJq : J.p / 8 ^ (k + 1) = P := by rw [hJp, Nat.mul_div_cancel _ (Nat.pow_pos (by decide))]
  have hJv : J.v = (Y 0).v := by rw [← hJ]
  have hJm : ∀ n, n < 8 → ∀ m, (Y n).m m = J.m m := fun n hn m => by
    by_cases e : n = 0
    · subst e; rw [← hJ]; rfl
    · obtain ⟨a1, a2, a3⟩ := hal.2 n (by omega) hn
      rw [← hJ]
      unfold X.m
      rw [a1, a2, a3]
  have hyq : ∀ n, n < 8 → (Y n).p / 8 ^ k = 8 * P + n := fun n hn => by rw [hyp n hn, Nat.mul_div_cancel _ hpos]
  have hyu : ∀ n, n < 8 → (Y n).p / 8 ^ (k + 1) = J.p / 8 ^ (k + 1) := fun n hn => by rw [hJq, div_step, hyq n hn]; omega
  have hm0 := fun y => dl8_mem (y := y) hg hr
  have hm : ∀ y, y ∈ ins J (dl i 8 L) ↔ y = J ∨ (y ∈ L ∧ ∀ j, j < 8 → y ≠ Y j) := fun y => ins_mem.trans (or_congr_right (hm0 y))
  have hcov : ∀ y ∈ L, ∀ f, Cov y f → f / 8 ^ (k + 1) = P → ∃ n, n < 8 ∧ y = Y n := fun y hy f hc hf => by
    rw [div_step] at hf
    refine ⟨f / 8 ^ k % 8, by omega, hg.disj hy (hy0 _ (by omega)) hc ?_⟩
    rw [(hg.1 _ (hy0 _ (by omega))).cov, hyk _ (by omega), hyq _ (by omega)]
    omega
  have hsl : ∀ y ∈ L, y.p / 8 ^ (k + 1) = P → ∃ n, n < 8 ∧ y = Y n := fun y hy h1 => hcov y hy y.p ⟨Nat.le_refl _, by have : 0 < 8 ^ y.k := Nat.pow_pos (by decide); omega⟩ h1
  have hY0 := hg.1 _ (hy0 0 (by omega))
  have hY7 := hg.1 _ (hy0 7 (by omega))
  have hJo : Xok J := by
    refine ⟨by omega, by rw [hJp, hJk, Nat.mul_mod_left], ?_, by rw [hJv]; exact hY0.2.2.2⟩
    have := hY7.2.2.1
    rw [hyp 7 (by omega), hyk 7 (by omega), ← Nat.succ_mul] at this
    rw [hJp, hJk, ← Nat.succ_mul, hs, ← Nat.mul_assoc, Nat.mul_comm _ 8]
    exact this
  have hgd := (hg.sub (dl_sub i 8 L)).ins hJo (fun y hy => by
    obtain ⟨hy, hne⟩ := (hm0 y).1 hy
    rcases Nat.lt_or_ge y.p (J.p + 8 ^ J.k) with h1 | h1
    · right
      rcases Nat.lt_or_ge J.p (y.p + 8 ^ y.k) with h2 | h2
      · exfalso
        have hy8 : 0 < 8 ^ y.k := Nat.pow_pos (by decide)
        have hp8 : 0 < 8 ^ (k + 1) := Nat.pow_pos (by decide)
        rw [hJk] at h1
        rcases Nat.lt_or_ge y.p J.p with h3 | h3
        · obtain ⟨n, hn, e⟩ := hcov y hy J.p ⟨by omega, h2⟩ hJq
          exact hne n hn e
        · obtain ⟨n, hn, e⟩ := hsl y hy (by
            have hd : y.p / 8 ^ (k + 1) < P + 1 := by
              rw [Nat.div_lt_iff_lt_mul hp8, Nat.add_mul, Nat.one_mul, ← hJp]; exact h1
            have hd2 : P ≤ y.p / 8 ^ (k + 1) := by rw [Nat.le_div_iff_mul_le hp8, ← hJp]; exact h3
            omega)
          exact hne n hn e
      · exact h2
    · exact .inl h1)
  refine ⟨hgd, ⟨fun j p => ?_, fun j q => ?_, fun y hy => ?_, fun j q m hj hm3 => ?_⟩, ?_⟩
  · show (∃ b, setO σ.N k P none j p = some b) ↔ _
    by_cases e : j = k ∧ p = P
    · obtain ⟨rfl, rfl⟩ := e
      rw [setO_at]
      constructor
      · rintro ⟨_, h⟩; cases h
      · rintro ⟨_, y, hy, b1, b2⟩
        rcases (hm y).1 hy with rfl | ⟨hy, hne⟩
        · omega
        · obtain ⟨n, hn, e⟩ := hsl y hy b2
          exact absurd e (hne n hn)
    · rw [setO_ne e, h.n]
      refine and_congr_right fun hj3 => ⟨fun ⟨y, hy, b1, b2⟩ => ?_, fun ⟨y, hy, b1, b2⟩ => ?_⟩
      · by_cases ey : ∃ n, n < 8 ∧ y = Y n
        · obtain ⟨n, hn, rfl⟩ := ey
          rw [hyk n hn] at b1
          by_cases ej : j = k
          · subst ej
            rw [hyu n hn, hJq] at b2
            exact absurd ⟨rfl, b2.symm⟩ e
          · exact ⟨J, (hm _).2 (.inl rfl), by omega, by rw [← b2]; exact (div_up (by omega) (hyu n hn)).symm⟩
        · exact ⟨y, (hm _).2 (.inr ⟨hy, fun n hn e => ey ⟨n, hn, e⟩⟩), b1, b2⟩
      · rcases (hm y).1 hy with rfl | ⟨hy, _⟩
        · exact ⟨Y 0, hy0 0 (by omega), by rw [hyk 0 (by omega)]; omega, by rw [← b2]; exact div_up (by omega) (hyu 0 (by omega))⟩
        · exact ⟨y, hy, b1, b2⟩
  · show (∃ b, (if j = k + 1 ∧ q = P then some x0 else if j = k ∧ q / 8 = P then none else σ.E j q) = some b) ↔ _
    by_cases e1 : j = k + 1 ∧ q = P
    · rw [if_pos e1]
      obtain ⟨rfl, rfl⟩ := e1
      exact ⟨fun _ => ⟨J, (hm _).2 (.inl rfl), hJk, hJp⟩, fun _ => ⟨_, rfl⟩⟩
    · rw [if_neg e1]
      by_cases e2 : j = k ∧ q / 8 = P
      · rw [if_pos e2]
        obtain ⟨rfl, e2⟩ := e2
        constructor
        · rintro ⟨_, h⟩; cases h
        · rintro ⟨y, hy, b1, b2⟩
          rcases (hm y).1 hy with rfl | ⟨hy, hne⟩
          · omega
          · obtain ⟨n, hn, e⟩ := hsl y hy (by rw [div_step, b2, Nat.mul_div_cancel _ hpos]; exact e2)
            exact absurd e (hne n hn)
      · rw [if_neg e2, h.e]
        refine ⟨fun ⟨y, hy, b1, b2⟩ => ⟨y, (hm _).2 (.inr ⟨hy, fun n hn e => e2 ?_⟩), b1, b2⟩, fun ⟨y, hy, b1, b2⟩ => ?_⟩
        · subst e
          rw [hyk n hn] at b1
          subst b1
          have := hyq n hn
          rw [b2, Nat.mul_div_cancel _ hpos] at this
          exact ⟨rfl, by omega⟩
        · rcases (hm y).1 hy with rfl | ⟨hy, _⟩
          · exfalso
            rw [hJk] at b1
            subst b1
            exact e1 ⟨rfl, by rw [← hJq, b2, Nat.mul_div_cancel _ (Nat.pow_pos (by decide))]⟩
          · exact ⟨y, hy, b1, b2⟩
  · show (if y.k = k + 1 ∧ y.p / 8 ^ y.k = P then σ.V k (8 * P) else σ.V y.k (y.p / 8 ^ y.k)) = y.v
    rcases (hm y).1 hy with rfl | ⟨hy, hne⟩
    · rw [if_pos ⟨hJk, by rw [hJk]; exact hJq⟩, hJv]
      have := h.v _ (hy0 0 (by omega))
      rw [hyk 0 (by omega), hyq 0 (by omega)] at this
      exact this
    · rw [if_neg]
      · exact h.v y hy
      · rintro ⟨b1, b2⟩
        rw [b1] at b2
        obtain ⟨n, hn, e⟩ := hsl y hy b2
        exact hne n hn e
  · show (if j = k ∧ q / 8 = P then false else σ.M j q m) = true ↔ _
    by_cases e : j = k ∧ q / 8 = P
    · rw [if_pos e]
      obtain ⟨rfl, e2⟩ := e
      constructor
      · intro h; cases h
      · rintro ⟨y, hy, b1, b2, b3⟩
        rcases (hm y).1 hy with rfl | ⟨hy, hne⟩
        · omega
        · obtain ⟨n, hn, e⟩ := hsl y hy (by rw [div_step, b2]; exact e2)
          exact absurd e (hne n hn)
    · rw [if_neg e, h.m _ _ _ hj hm3]
      constructor
      · rintro ⟨y, hy, b1, b2, b3⟩
        by_cases ey : ∃ n, n < 8 ∧ y = Y n
        · obtain ⟨n, hn, rfl⟩ := ey
          rw [hyk n hn] at b1
          by_cases ej : j = k
          · subst ej
            rw [hyq n hn] at b2
            exact absurd ⟨rfl, by omega⟩ e
          · exact ⟨J, (hm _).2 (.inl rfl), by omega, by rw [← b2]; exact (div_up (by omega) (hyu n hn)).symm, by rw [← hJm n hn]; exact b3⟩
        · exact ⟨y, (hm _).2 (.inr ⟨hy, fun n hn e => ey ⟨n, hn, e⟩⟩), b1, b2, b3⟩
      · rintro ⟨y, hy, b1, b2, b3⟩
        rcases (hm y).1 hy with rfl | ⟨hy, _⟩
        · exact ⟨Y 0, hy0 0 (by omega), by rw [hyk 0 (by omega)]; omega, by rw [← b2]; exact div_up (by omega) (hyu 0 (by omega)), by rw [hJm 0 (by omega)]; exact b3⟩
        · exact ⟨y, hy, b1, b2, b3⟩
  · obtain ⟨b, hb⟩ := (h.n k P).2 ⟨by omega, Y 0, hy0 0 (by omega), by rw [hyk 0 (by omega)]; exact Nat.le_refl _, by rw [hyu 0 (by omega)]; exact hJq⟩
    refine cntN_none ⟨by omega, ?_⟩ hb
    have := path_lt (g := J.p) (k := k) hJo.lt (by omega)
    rw [hJq] at this
    exact this
end


/-- The marks behind a refresh, made. -/
def tgt (M : Nat → Nat → Nat → Bool) (g κ : Nat) : Nat → Nat → Nat → Bool
  | 0, q, m => M 0 q m
  | j + 1, q, m => if κ < j + 1 ∧ j + 1 ≤ 3 ∧ q = g / 8 ^ (j + 1) ∧ m < 3 then any8 (fun s => tgt M g κ j (8 * q + s) m) else M (j + 1) q m
theorem tgt_is (M : Nat → Nat → Nat → Bool) (g κ : Nat) : Tgt M (tgt M g κ) g κ := by
  intro j q m
  cases j with
  | zero => rw [if_neg (by omega)]; rfl
  | succ j => rfl
theorem Good.length {L : List X} (h : Good L) : L.length ≤ 4096 := by
  have : ∀ (L : List X) (m : Nat), Good L → m ≤ 4096 → (∀ x ∈ L, m ≤ x.p) → L.length + m ≤ 4096 := by
    intro L
    induction L with
    | nil => intro m _ h _; simpa using h
    | cons x l ih =>
      intro m hg hm hb
      have hx := hg.1 x (by simp)
      have hpos : 0 < 8 ^ x.k := Nat.pow_pos (by decide)
      have h3 := hx.2.2.1
      have h1 := hb x (by simp)
      have := ih (x.p + 1) (hg.sub (List.sublist_cons_self _ _)) (by omega) (fun y hy => by
        have := (List.pairwise_cons.1 hg.2).1 y hy
        omega)
      rw [List.length_cons]
      omega
  have := this L 0 h (by omega) (fun x _ => Nat.zero_le _)
  omega
/-- Both lie so. -/
structure Tw (w : World) (t r : Nat) (σ : St) (L : List X) (F G : List Nat) : Prop where
  hp : Hp w t σ ((L.length : Nat) : Int) ((cntN σ.N : Nat) : Int) F
  rt : Rt w r G L
  ab : Ab σ L
  gd : Good L
  sep : Sep F G
def Kept (L L' : List X) (page : Int) : Prop := ∀ y ∈ L, ¬ (0 ≤ page ∧ page / 64 = ((y.p / 64 : Nat) : Int)) → y ∈ L'
theorem Kept.refl (L : List X) (page : Int) : Kept L L page := fun _ h _ => h
theorem far {L : List X} (hg : Good L) {x : X} (hx : x ∈ L) {g : Nat} (hc : Cov x g) : x.p / 64 = g / 64 := by
  have := div_up (k := 2) (hg.1 x hx).1 (((hg.1 x hx).cov g).1 hc)
  exact this
/-- What a call of the program does. -/
def PDo (fn : Nat) (args : Array Value) (rv : Value) (t : Nat) (σ : St) (L L' : List X) : Prop := ∀ w F, Hp w t σ ((L.length : Nat) : Int) ((cntN σ.N : Nat) : Int) F → Calls Try.prog fn args w fun e w' => e = .returned rv ∧ ∃ F' σ', Chg F F' w w' ∧ Hp w' t σ' ((L'.length : Nat) : Int) ((cntN σ'.N : Nat) : Int) F' ∧ Ab σ' L'
/-- What a call of the reference does. -/
def RDo (fn : Nat) (args : Array Value) (rv : Value) (r : Nat) (L L' : List X) : Prop := ∀ w G, Rt w r G L → Calls Try.prog fn args w fun e w' => e = .returned rv ∧ ∃ G', Chg G G' w w' ∧ Rt w' r G' L'
theorem PDo.of {fn : Nat} {args : Array Value} {rv : Value} {t : Nat} {σ : St} {L : List X} (hab : Ab σ L) (H : ∀ w F, Hp w t σ ((L.length : Nat) : Int) ((cntN σ.N : Nat) : Int) F → Calls Try.prog fn args w fun e w' => e = .returned rv ∧ Below w.heap.size w w') : PDo fn args rv t σ L L := fun w F h =>
  (H w F h).mono fun _ _ ⟨he, hb⟩ => ⟨he, F, σ, Chg.of_below hb, h.below hb, hab⟩
theorem RDo.of {fn : Nat} {args : Array Value} {rv : Value} {r : Nat} {L : List X} (H : ∀ w G, Rt w r G L → Calls Try.prog fn args w fun e w' => e = .returned rv ∧ Below w.heap.size w w') : RDo fn args rv r L L := fun w F h =>
  (H w F h).mono fun _ _ ⟨he, hb⟩ => ⟨he, F, Chg.of_below hb, h.below hb⟩
theorem pg_cases (L : List X) (page : Int) : (¬ (0 ≤ page ∧ page < 4096)) ∨ (∃ g : Nat, page = (g : Nat) ∧ g < 4096 ∧ ∀ x ∈ L, ¬ Cov x g) ∨ (∃ (g i : Nat) (x : X), page = (g : Nat) ∧ g < 4096 ∧ L[i]? = some x ∧ Cov x g) := by
  by_cases h : 0 ≤ page ∧ page < 4096
  · right
    obtain ⟨g, rfl⟩ : ∃ g : Nat, page = (g : Nat) := ⟨page.toNat, by omega⟩
    by_cases hx : ∃ x ∈ L, Cov x g
    · obtain ⟨x, hx, hc⟩ := hx
      obtain ⟨i, hi⟩ := List.mem_iff_getElem?.1 hx
      exact .inr ⟨g, i, x, rfl, by omega, hi, hc⟩
    · exact .inl ⟨g, rfl, by omega, fun x hx' hc => hx ⟨x, hx', hc⟩⟩
  · exact .inl h
section
variable {t r : Nat} {σ : St} {L : List X}
theorem Ab.val (h : Ab σ L) (hg : Good L) {x : X} (hx : x ∈ L) {g : Nat} (hc : Cov x g) : σ.V x.k (g / 8 ^ x.k) = x.v := by
  rw [← ((hg.1 x hx).cov g).1 hc]
  exact h.v x hx
theorem nfI {g : Nat} (hn : ∀ x ∈ L, ¬ Cov x g) : ∀ x ∈ L, ¬ CovI x (g : Nat) := fun x hx hc => hn x hx (CovI.iff.1 hc)
theorem bounds (hg : Good L) (σ : St) : -9000000 ≤ ((L.length : Nat) : Int) ∧ ((L.length : Nat) : Int) ≤ 9000000 ∧ -9000000 ≤ ((cntN σ.N : Nat) : Int) ∧ ((cntN σ.N : Nat) : Int) ≤ 9000000 := by
  have := hg.length
  have := cntN_le σ.N
  omega
theorem del_both (page : Int) (hab : Ab σ L) (hg : Good L) : ∃ (v c : Int) (L' : List X), Good L' ∧ Kept L L' page ∧ PDo 15 #[.pointer (some ⟨t, 0, none⟩), .int .i64 page] (.tuple #[.int .i64 v, .int .i64 c]) t σ L L' ∧ RDo 16 #[.pointer (some ⟨r, 0, none⟩), .int .i64 page] (.tuple #[.int .i64 v, .int .i64 c]) r L L' := by
  rcases pg_cases L page with h | ⟨g, rfl, hg4, hn⟩ | ⟨g, i, x, rfl, hg4, hi, hc⟩
  · exact ⟨0, 3, L, hg, Kept.refl _ _, PDo.of hab fun w F hp => Del_out page t w h, RDo.of fun w G hr => RDel_err page 3 (by decide) r w fun W _ => RFind_out page r W h⟩
  · exact ⟨0, 6, L, hg, Kept.refl _ _, PDo.of hab fun w F hp => Del_nf g t σ _ _ F w hg4 hp (hab.nf hg hg4 hn), RDo.of fun w G hr => RDel_err (g : Nat) 6 (by decide) r w fun W e => RFind_nf (g : Nat) r G L W (by omega) (e ▸ hr) hg (nfI hn)⟩
  · have hx := List.mem_of_getElem? hi
    obtain ⟨l, e, hA, hE⟩ := hab.at_ hg hx hg4 hc
    refine ⟨x.v, 0, dl i 1 L, hg.sub (dl_sub _ _ _), fun y hy hf => (dl1_mem hg hi).2 ⟨hy, fun e => hf ?_⟩, fun w F hp => ?_, fun w G hr => ?_⟩
    · subst e
      rw [far hg hx hc]
      omega
    · refine (Del_ok g t σ _ _ _ F x.k e l w hg4 hp hA hE (fun k q => hab.bel_ent hg) (fun k p => hab.n3) (bounds hg σ) (tgt_is _ g x.k)).mono ?_
      rintro _ w' ⟨rfl, hch, c, h1, h2, h3, h4, h5⟩
      obtain ⟨a1, a2⟩ := hab.del hg hi hc (tgt_is _ g x.k) hg4 h1 h2 h4 h5
      refine ⟨by rw [hab.val hg hx hc], F, _, hch, ?_, a1⟩
      have e1 : (((dl i 1 L).length : Nat) : Int) = ((L.length : Nat) : Int) - 1 := by
        have := (List.getElem?_eq_some_iff.1 hi).1
        rw [dl_length (by omega)]
        omega
      rw [e1]
      have e2 : ((cntN (((σ.noE x.k (g / 8 ^ x.k)).wM (tgt (clr σ.M x.k (g / 8 ^ x.k) 3) g x.k)).rem g x.k c).N : Nat) : Int) = ((cntN σ.N : Nat) : Int) - ((c : Nat) - (x.k : Nat)) := by omega
      rw [e2]
      exact h3
    · exact (RDel_ok (g : Nat) i x r G L w hr hg (by have := hg.length; omega) hi (CovI.iff.2 hc)).mono fun _ w' h => h
theorem split_both (page step : Int) (hab : Ab σ L) (hg : Good L) : ∃ (c : Int) (L' : List X), Good L' ∧ Kept L L' page ∧ PDo 21 #[.pointer (some ⟨t, 0, none⟩), .int .i64 page, .int .i64 step] (.int .i64 c) t σ L L' ∧ RDo 51 #[.pointer (some ⟨r, 0, none⟩), .int .i64 page, .int .i64 step] (.int .i64 c) r L L' := by
  have hlen := hg.length
  rcases pg_cases L page with h | ⟨g, rfl, hg4, hn⟩ | ⟨g, i, x, rfl, hg4, hi, hc⟩
  · exact ⟨3, L, hg, Kept.refl _ _, PDo.of hab fun w F hp => Split_out page step t w h, RDo.of fun w G hr => RSplit_err page step 3 (by decide) r w (RFind_out page r w h)⟩
  · exact ⟨6, L, hg, Kept.refl _ _, PDo.of hab fun w F hp => Split_nf g t step σ _ _ F w hg4 hp (hab.nf hg hg4 hn), RDo.of fun w G hr => RSplit_err (g : Nat) step 6 (by decide) r w (RFind_nf (g : Nat) r G L w (by omega) hr hg (nfI hn))⟩
  · have hx := List.mem_of_getElem? hi
    obtain ⟨l, e, hA, hE⟩ := hab.at_ hg hx hg4 hc
    have hv := hab.val hg hx hc
    have hvb : -1152921504606846976 ≤ σ.V x.k (g / 8 ^ x.k) ∧ σ.V x.k (g / 8 ^ x.k) ≤ 1152921504606846976 := by rw [hv]; exact (hg.1 x hx).2.2.2
    have hcI : CovI x (g : Nat) := CovI.iff.2 hc
    by_cases hk : x.k = 0
    · exact ⟨2, L, hg, Kept.refl _ _, PDo.of hab fun w F hp => Split_zero g t step σ _ _ F x.k e l w hg4 hp hA hE hk, RDo.of fun w G hr => RSplit_zero (g : Nat) step i x r G L w hr hg (by omega) hi hcI hk⟩
    · by_cases ho : okS x.v step
      · obtain ⟨a1, _, _⟩ := hab.split (c := 0) hg hi hc hk ho hg4
        refine ⟨0, pcs x step 8 (dl i 1 L), a1, fun y hy hf => pcs_mem.2 (.inr ((dl1_mem hg hi).2 ⟨hy, fun e => hf ?_⟩)), fun w F hp => ?_, fun w G hr => RSplit_ok (g : Nat) step i x r G L w hr hg (by omega) hi hcI hk ho⟩
        · subst e
          rw [far hg hx hc]
          omega
        · refine (Split_ok g t step σ _ _ F x.k e l w hg4 hp hA hE hk hvb (by rw [hv]; exact ho) (fun n hn => ?_) (bounds hg σ)).mono ?_
          · cases hb : σ.bel (x.k - 1) (8 * (g / 8 ^ x.k) + n) with
            | none => rfl
            | some b =>
              exfalso
              unfold St.bel at hb
              by_cases h0 : x.k - 1 = 0
              · rw [if_pos h0] at hb; cases hb
              · rw [if_neg h0] at hb
                obtain ⟨_, y, hy, h1, h2⟩ := (hab.n _ _).1 ⟨b, hb⟩
                rw [show x.k - 1 - 1 + 1 = x.k - 1 from by omega] at h2
                have : y.p / 8 ^ x.k = g / 8 ^ x.k := by rw [show x.k = x.k - 1 + 1 from by omega, div_step, h2]; rw [show x.k - 1 + 1 = x.k from by omega]; omega
                have := slot_uniq hg hx hc hy (by omega) this
                subst this
                omega
          · rintro _ w' ⟨rfl, c, h1, h2⟩
            obtain ⟨_, a2, a3⟩ := hab.split (c := c) hg hi hc hk ho hg4
            rw [hv] at h1
            refine ⟨rfl, _, _, h2, ?_, a2⟩
            have e1 : (((pcs x step 8 (dl i 1 L)).length : Nat) : Int) = ((L.length : Nat) : Int) + 7 := by
              have := (List.getElem?_eq_some_iff.1 hi).1
              rw [pcs_length, dl_length (by omega)]
              omega
            rw [e1, a3, Int.natCast_add]
            exact h1
      · exact ⟨3, L, hg, Kept.refl _ _, PDo.of hab fun w F hp => Split_rng g t step σ _ _ F x.k e l w hg4 hp hA hE hk hvb (by rw [hv]; exact ho), RDo.of fun w G hr => RSplit_rng (g : Nat) step i x r G L w hr hg (by omega) hi hcI hk ho⟩
theorem set_both (page o v : Int) (hab : Ab σ L) (hg : Good L) : ∃ (c : Int) (L' : List X), Good L' ∧ Kept L L' page ∧ PDo 26 #[.pointer (some ⟨t, 0, none⟩), .int .i64 page, .int .i64 o, .int .i64 v] (.int .i64 c) t σ L L' ∧ RDo 53 #[.pointer (some ⟨r, 0, none⟩), .int .i64 page, .int .i64 o, .int .i64 v] (.int .i64 c) r L L' := by
  have hlen := hg.length
  by_cases h1 : o = 0 ∨ o = 3 ∨ o = 6
  · by_cases h2 : (0 ≤ page ∧ page < 4096) ∧ (-1152921504606846976 ≤ v ∧ v ≤ 1152921504606846976)
    · obtain ⟨g, rfl⟩ : ∃ g : Nat, page = (g : Nat) := ⟨page.toNat, by omega⟩
      obtain ⟨k, hk, rfl⟩ : ∃ k : Nat, k ≤ 2 ∧ o = 3 * ((k : Nat) : Int) := ⟨(o / 3).toNat, by omega, by omega⟩
      have hp : PreS g k (3 * ((k : Nat) : Int)) v := ⟨rfl, hk, by omega, h2.2⟩
      by_cases ha : g % 8 ^ k = 0
      · by_cases hx : ∃ y ∈ L, g < y.p + 8 ^ y.k ∧ y.p < g + 8 ^ k
        · exact ⟨7, L, hg, Kept.refl _ _, PDo.of hab fun w F h => Set_exist g k _ v t σ L _ _ F w hp ha hab hg h hx, RDo.of fun w G hr => (RSet_any g k _ v r G L w hp ha hr hg (by omega)).mono fun e w' h => by
            rcases h with ⟨_, he, hb⟩ | ⟨hn, _⟩
            · exact ⟨he, hb⟩
            · obtain ⟨y, hy, h3⟩ := hx
              exact absurd h3 (hn y hy)⟩
        · have hfree : ∀ y ∈ L, ¬ (g < y.p + 8 ^ y.k ∧ y.p < g + 8 ^ k) := fun y hy h => hx ⟨y, hy, h⟩
          have hadd := fun (σ1 : St) (e : Nat) (hG : Gr σ σ1 g k) => hab.add (e := e) (v := v) hg hk ha (by omega) h2.2 hfree hG
          refine ⟨0, ins (nw g k v) L, ?_, fun y hy _ => ins_mem.2 (.inr hy), fun w F h => ?_, fun w G hr => ?_⟩
          · have hn : Xok (nw g k v) := by
              refine ⟨hk, ha, ?_, h2.2⟩
              show g + 8 ^ k ≤ 4096
              rcases k3 hk with rfl | rfl | rfl <;> simp at ha ⊢ <;> omega
            exact hg.ins hn (fun y hy => by
              show g + 8 ^ k ≤ y.p ∨ y.p + 8 ^ y.k ≤ g
              have := hfree y hy
              omega)
          · refine (Set_ok g k _ v t σ L _ _ F w hp ha hab hg h hfree ⟨(bounds hg σ).1, (bounds hg σ).2.1⟩ rfl).mono ?_
            rintro _ w' ⟨rfl, σ1, F', e, hG, hh, hch⟩
            refine ⟨rfl, F', _, hch, ?_, (hadd σ1 e hG).1⟩
            rw [ins_length, Int.natCast_add]
            exact hh
          · refine (RSet_any g k _ v r G L w hp ha hr hg (by omega)).mono fun e w' h => ?_
            rcases h with ⟨hx', _⟩ | ⟨_, he, hh⟩
            · exact absurd hx' hx
            · exact ⟨he, hh⟩
      · exact ⟨4, L, hg, Kept.refl _ _, PDo.of hab fun w F h => Set_align g k _ v t w hp ha, RDo.of fun w G hr => RSet_align g k _ v r w hp ha⟩
    · exact ⟨3, L, hg, Kept.refl _ _, PDo.of hab fun w F h => Set_rng page o v t w h1 h2, RDo.of fun w G hr => RSet_rng page o v r w h1 h2⟩
  · exact ⟨2, L, hg, Kept.refl _ _, PDo.of hab fun w F h => Set_arg page o v t w h1, RDo.of fun w G hr => RSet_arg page o v r w h1⟩
end


set_option maxHeartbeats 2000000 in
theorem Change_fn (g t : Nat) (v : Int) (σ : St) (many nodes : Int) (F : List Nat) (w : World) (hg : g < 4096) (h : Hp w t σ many nodes F) :
    Calls Try.prog 27 #[.pointer (some ⟨t, 0, none⟩), .int .i64 (g : Nat), .int .i64 v] w fun e w' => (Nf σ g ∧ e = .returned (.int .i64 6) ∧ Below w.heap.size w w') ∨
      ∃ κ x, (∃ l, At σ g κ l) ∧ σ.E κ (g / 8 ^ κ) = some x ∧ ((¬ (-1152921504606846976 ≤ v ∧ v ≤ 1152921504606846976) ∧ e = .returned (.int .i64 3) ∧ Below w.heap.size w w') ∨ ((-1152921504606846976 ≤ v ∧ v ≤ 1152921504606846976) ∧ e = .returned (.int .i64 0) ∧ ∃ w1, Below w.heap.size w w1 ∧ w' = w1.setCell ⟨x, 0, none⟩ (.int .i64 v))) := by
  have HH := Lib.hid h
  go_enter Try.func27, Try.ntmps27
  go_wp2_with fail
  refine (find_any g t σ many nodes F w hg HH.out).mono ?_
  rintro e w2 ⟨hb2, he⟩
  rcases he with ⟨hn, rfl⟩ | ⟨κ, m, l, b, x, vb, cap, hf, rfl⟩
  · have HN := Lib.hid (And.intro hn hb2)
    clear hn hb2
    go_wp2_with fail
    go_ret
    exact .inl ⟨HN.out.1, rfl, HN.out.2⟩
  · by_cases hv : -1152921504606846976 ≤ v ∧ v ≤ 1152921504606846976
    · have HI := Lib.hid (small_any v w2)
      rw [decide_eq_true hv] at HI
      have HVV := Lib.hid hv
      clear hv
      have H2 := Lib.hid (HH.out.below hb2)
      have HF := Lib.hid hf
      have hs8 : g / 8 ^ κ % 8 < 8 := by omega
      have hm3 : m ≤ 3 := by have := hf.mq; omega
      have hκ3 := hf.at_.le
      have HQ := Lib.hid (bel_eq (g := g) (k := κ))
      have hlst := hf.lst
      have hcell := H2.out.ecell hf.nb hs8
      rw [HQ.out, hf.ex] at hcell
      have hecell : w2.cell? ⟨b, 8 + g / 8 ^ κ % 8, none⟩ = some (.pointer (some ⟨x, 0, none⟩)) := hcell
      obtain ⟨hvc, hvf⟩ := H2.out.vcell hf.ex
      have HS := Lib.hid (fun W => (slot_any g κ hg hκ3 W).mono fun _ _ h => (⟨h.1, h.2.symm⟩ : _ ∧ _))
      have p0 : ¬ (((m : Nat) : Int) + 1 = 0) := by omega
      have p1 : IntKind.i64.wrap ((m : Nat) : Int) = ((m : Nat) : Int) := by rw [IntKind.wrap_i64]; omega
      have p2 : ((m : Nat) : Int) < ((m : Nat) : Int) + 1 := by omega
      have h1 : ((g / 8 ^ κ % 8 : Nat) : Int) < 8 := by omega
      have HB2 := Lib.hid hb2
      clear hcell hf hb2
      generalize hs : g / 8 ^ κ % 8 = s at *
      have HSS := Lib.hid hs
      clear hs
      go_wp2_with fail
      refine HI.out.mono ?_
      rintro e w3 ⟨rfl, rfl⟩
      go_upto_region 6 with fail
      go_still_tail 16, (by kernel_rfl)
      still_call (HS.out _)
      repeat still_step
      refine wpStill_nil ?_
      change wpList _ _ _ _ _ (World.drew _)
      have hvf' : ∀ (j : Nat), w2.drew.frozen? ⟨x, j, none⟩ = false := hvf
      have hvc' : w2.drew.cell? ⟨x, 0, none⟩ = _ := hvc
      go_wp2_with fail
      go_ret
      exact .inr ⟨κ, x, ⟨l, HF.out.at_⟩, HF.out.ex, .inr ⟨HVV.out, rfl, w2.drew, HB2.out.drew, rfl⟩⟩
    · have HI := Lib.hid (small_any v w2)
      rw [decide_eq_false hv] at HI
      have HN := Lib.hid (And.intro hf (And.intro hb2 hv))
      clear hf hb2 hv
      go_wp2_with fail
      refine HI.out.mono ?_
      rintro e w3 ⟨rfl, rfl⟩
      go_wp2_with fail
      go_ret
      exact .inr ⟨κ, x, ⟨l, HN.out.1.at_⟩, HN.out.1.ex, .inl ⟨HN.out.2.2, rfl, HN.out.2.1⟩⟩

theorem Change_out (page v : Int) (t : Nat) (w : World) (h : ¬ (0 ≤ page ∧ page < 4096)) : Calls Try.prog 27 #[.pointer (some ⟨t, 0, none⟩), .int .i64 page, .int .i64 v] w fun e w' => e = .returned (.int .i64 3) ∧ Below w.heap.size w w' := by
  go_enter Try.func27, Try.ntmps27
  go_wp2_with (go_at_call 32; refine (find_out page t _ h).mono ?_; rintro e w1 ⟨rfl, rfl⟩)
  go_ret
  exact ⟨rfl, Below.refl _ _⟩
theorem Hp.setV {w : World} {t : Nat} {σ : St} {many nodes : Int} {F : List Nat} {k q x : Nat} (h : Hp w t σ many nodes F) (hx : σ.E k q = some x) (v : Int) :
    Hp (w.setCell ⟨x, 0, none⟩ (.int .i64 v)) t {σ with V := fun k' q' => if k' = k ∧ q' = q then v else σ.V k' q'} many nodes F ∧ Chg F F w (w.setCell ⟨x, 0, none⟩ (.int .i64 v)) := by
  have hoth : ∀ b, b ≠ x → (w.setCell ⟨x, 0, none⟩ (.int .i64 v)).heap[b]? = w.heap[b]? := fun b hb => Below.heap_setCell _ _ _ _ (fun e => hb (by simpa using e))
  refine ⟨⟨(hoth t (fun e => h.et hx e.symm)).trans h.tr, fun k' p b hN => ⟨(hoth b (h.ne hN hx)).trans (h.nd k' p b hN).1, (h.nd k' p b hN).2⟩, fun k' q' b hE => ⟨?_, (h.en k' q' b hE).2⟩, h.tF, fun b hb => ?_, h.i1, h.i2⟩, (Chg.refl F w).setCell x 0 _ (h.en k q x hx).2⟩
  · have hE' : σ.E k' q' = some b := hE
    by_cases e : k' = k ∧ q' = q
    · obtain ⟨rfl, rfl⟩ := e
      rw [hx] at hE'
      cases hE'
      have h1 := (h.en _ _ _ hx).1
      unfold entO at h1 ⊢
      refine (heap_setCell_same w x 0 _ 77 _ h1).trans ?_
      simp
    · have hne : b ≠ x := fun e2 => e (by subst e2; exact h.i2 _ _ _ _ _ hE' hx)
      refine (hoth b hne).trans ?_
      show w.heap[b]? = some (entO (if k' = k ∧ q' = q then v else σ.V k' q'))
      rw [if_neg e]
      exact (h.en k' q' b hE').1
  · have := h.lt b hb
    simpa using this
section
variable {t r : Nat} {σ : St} {L : List X}
def wV (x : X) (v : Int) : X := ⟨x.p, x.k, v, x.a, x.b, x.c⟩
theorem chg_good {i : Nat} {x : X} {v : Int} (hg : Good L) (hi : L[i]? = some x) (hv : -1152921504606846976 ≤ v ∧ v ≤ 1152921504606846976) : Good (L.set i (wV x v)) := by
  have hx := hg.1 x (List.mem_of_getElem? hi)
  exact hg.set hi rfl rfl ⟨hx.1, hx.2.1, hx.2.2.1, hv⟩
theorem set_kept {i g : Nat} {x y : X} (hg : Good L) (hi : L[i]? = some x) (hc : Cov x g) : Kept L (L.set i y) (g : Nat) := fun z hz hf => (set_mem hg hi).2 (.inr ⟨hz, fun e => hf (by
  subst e
  rw [far hg hz hc]
  omega)⟩)
theorem chg_ok {g i : Nat} {x : X} {v : Int} (hab : Ab σ L) (hg : Good L) (hg4 : g < 4096) (hi : L[i]? = some x) (hc : Cov x g) (hv : -1152921504606846976 ≤ v ∧ v ≤ 1152921504606846976) :
    PDo 27 #[.pointer (some ⟨t, 0, none⟩), .int .i64 (g : Nat), .int .i64 v] (.int .i64 0) t σ L (L.set i (wV x v)) := fun w F hp => by
  have hx := List.mem_of_getElem? hi
  obtain ⟨l, e, hA, hE⟩ := hab.at_ hg hx hg4 hc
  refine (Change_fn g t v σ _ _ F w hg4 hp).mono ?_
  rintro en w' (⟨hn, _⟩ | ⟨κ, x', ⟨l', hA'⟩, hE', ⟨hv', _⟩ | ⟨_, rfl, w1, hb, rfl⟩⟩)
  · exact absurd hn (hA.not_nf hE hg4)
  · exact absurd hv hv'
  · obtain ⟨rfl, rfl⟩ := hA.uniq hA'
    obtain ⟨h1, h2⟩ := (hp.below hb).setV hE' v
    refine ⟨rfl, F, _, (Chg.of_below hb).trans h2, ?_, hab.chg_v hg hi hc v⟩
    rw [List.length_set]
    exact h1
theorem chg_rng {g i : Nat} {x : X} {v : Int} (hab : Ab σ L) (hg : Good L) (hg4 : g < 4096) (hi : L[i]? = some x) (hc : Cov x g) (hv : ¬ (-1152921504606846976 ≤ v ∧ v ≤ 1152921504606846976)) :
    PDo 27 #[.pointer (some ⟨t, 0, none⟩), .int .i64 (g : Nat), .int .i64 v] (.int .i64 3) t σ L L := PDo.of hab fun w F hp => by
  have hx := List.mem_of_getElem? hi
  obtain ⟨l, e, hA, hE⟩ := hab.at_ hg hx hg4 hc
  refine (Change_fn g t v σ _ _ F w hg4 hp).mono ?_
  rintro en w' (⟨hn, _⟩ | ⟨κ, x', ⟨l', hA'⟩, hE', ⟨_, rfl, hb⟩ | ⟨hv', _⟩⟩)
  · exact absurd hn (hA.not_nf hE hg4)
  · exact ⟨rfl, hb⟩
  · exact absurd hv' hv
theorem chg_nf {g : Nat} {v : Int} (hab : Ab σ L) (hg : Good L) (hg4 : g < 4096) (hn : ∀ x ∈ L, ¬ Cov x g) :
    PDo 27 #[.pointer (some ⟨t, 0, none⟩), .int .i64 (g : Nat), .int .i64 v] (.int .i64 6) t σ L L := PDo.of hab fun w F hp => by
  refine (Change_fn g t v σ _ _ F w hg4 hp).mono ?_
  rintro en w' (⟨_, rfl, hb⟩ | ⟨κ, x', ⟨l', hA'⟩, hE', _⟩)
  · exact ⟨rfl, hb⟩
  · exact absurd (hab.nf hg hg4 hn) (hA'.not_nf hE' hg4)
def wM (x : X) (mk : Nat) (on : Bool) : X := ⟨x.p, x.k, x.v, if mk = 0 then on else x.a, if mk = 1 then on else x.b, if mk = 2 then on else x.c⟩
theorem wM_m {x : X} {mk : Nat} {on : Bool} (h : mk < 3) (m : Nat) : (wM x mk on).m m = if m = mk then on else x.m m := by
  unfold X.m wM
  dsimp only
  by_cases h0 : m = 0
  · subst h0
    simp only [if_true]
    by_cases e : mk = 0
    · subst e; simp
    · rw [if_neg e, if_neg (fun h => e h.symm)]
  · rw [if_neg h0, if_neg h0]
    by_cases h1 : m = 1
    · subst h1
      simp only [if_true]
      by_cases e : mk = 1
      · subst e; simp
      · rw [if_neg e, if_neg (fun h => e h.symm)]
    · rw [if_neg h1, if_neg h1]
      by_cases h2 : m = 2
      · subst h2
        simp only [if_true]
        by_cases e : mk = 2
        · subst e; simp
        · rw [if_neg e, if_neg (fun h => e h.symm)]
      · rw [if_neg h2, if_neg h2, if_neg (by omega)]
theorem mark_good {i mk : Nat} {x : X} {on : Bool} (hg : Good L) (hi : L[i]? = some x) : Good (L.set i (wM x mk on)) := by
  have hx := hg.1 x (List.mem_of_getElem? hi)
  exact hg.set hi rfl rfl ⟨hx.1, hx.2.1, hx.2.2.1, hx.2.2.2⟩
theorem mark_ok {g i mk : Nat} {x : X} {on : Bool} (hab : Ab σ L) (hg : Good L) (hg4 : g < 4096) (hi : L[i]? = some x) (hc : Cov x g) (hmk : mk < 3) :
    PDo 28 #[.pointer (some ⟨t, 0, none⟩), .int .i64 (g : Nat), .int .i64 (mk : Nat), .bool on] (.int .i64 0) t σ L (L.set i (wM x mk on)) := fun w F hp => by
  have hx := List.mem_of_getElem? hi
  obtain ⟨l, e, hA, hE⟩ := hab.at_ hg hx hg4 hc
  refine (Mark_ok g t mk on σ _ _ _ F x.k e l w hg4 hp hA hE hmk (tgt_is _ g x.k)).mono ?_
  rintro en w' ⟨rfl, h1, h2⟩
  refine ⟨rfl, F, _, h2, ?_, hab.chg_m (on := on) hg hi hc rfl rfl rfl hmk (wM_m hmk) (tgt_is _ g x.k)⟩
  rw [List.length_set]
  exact h1
def Ym (Y : Nat → X) : Prop := ∀ m, m < 3 → any8 (fun s => (Y s).m m) = false ∨ all8 (fun s => (Y s).m m) = true
theorem Ym_iff {Y : Nat → X} : Ym Y ↔ ∀ j, 1 ≤ j → j < 8 → (Y j).a = (Y 0).a ∧ (Y j).b = (Y 0).b ∧ (Y j).c = (Y 0).c := by
  have key : ∀ m, (any8 (fun s => (Y s).m m) = false ∨ all8 (fun s => (Y s).m m) = true) ↔ ∀ j, 1 ≤ j → j < 8 → (Y j).m m = (Y 0).m m := fun m => by
    constructor
    · rintro (h | h) j _ h8
      · have hf : ∀ s, s < 8 → (Y s).m m = false := fun s hs => by
          cases hh : (Y s).m m with
          | false => rfl
          | true => rw [any8_iff.2 ⟨s, hs, hh⟩] at h; cases h
        rw [hf j h8, hf 0 (by omega)]
      · rw [all8_iff] at h
        have a1 : (Y j).m m = true := h j h8
        have a2 : (Y 0).m m = true := h 0 (by omega)
        rw [a1, a2]
    · intro h
      have h' : ∀ s, s < 8 → (Y s).m m = (Y 0).m m := fun s hs => by
        by_cases e : s = 0
        · subst e; rfl
        · exact h s (by omega) hs
      cases hh : (Y 0).m m with
      | false =>
        left
        cases ha : any8 (fun s => (Y s).m m) with
        | false => rfl
        | true =>
          obtain ⟨s, hs, h1⟩ := any8_iff.1 ha
          have h1 : (Y s).m m = true := h1
          rw [h' s hs, hh] at h1
          cases h1
      | true => exact .inr (all8_iff.2 fun s hs => (h' s hs).trans hh)
  constructor
  · intro h j h1 h8
    exact ⟨(key 0).1 (h 0 (by omega)) j h1 h8, (key 1).1 (h 1 (by omega)) j h1 h8, (key 2).1 (h 2 (by omega)) j h1 h8⟩
  · intro h m hm
    refine (key m).2 fun j h1 h8 => ?_
    obtain ⟨a1, a2, a3⟩ := h j h1 h8
    unfold X.m
    rw [a1, a2, a3]
/-- What Join answers. -/
def JC (L : List X) (k P : Nat) (c : Int) : Prop :=
  (∃ j, j < 8 ∧ (∀ i, i < j → Whole L k (8 * P + i)) ∧ ((Parts L k (8 * P + j) ∧ c = 5) ∨ (Empty L k (8 * P + j) ∧ c = 6))) ∨ (∃ i Y, Row8 L i k P Y ∧ ((¬ AlkY Y ∧ c = 5) ∨ (AlkY Y ∧ c = 0)))
theorem whole_parts {k q : Nat} (hg : Good L) (hk : k ≤ 3) (h : Whole L k q) (h2 : Parts L k q) : False := by
  obtain ⟨y, hy, yk, yp⟩ := h
  obtain ⟨z, hz, zk, zp⟩ := h2
  have h1 := (hg.1 z hz).slot hk (by omega) zp
  have h8 : (q + 1) * 8 ^ k = q * 8 ^ k + 8 ^ k := Nat.add_one_mul _ _
  have hz8 : 0 < 8 ^ z.k := Nat.pow_pos (by decide)
  have := hg.disj hy hz (g := z.p) ⟨by omega, by rw [yk]; omega⟩ ⟨Nat.le_refl _, by omega⟩
  subst this
  omega
theorem whole_empty {k q : Nat} (h : Whole L k q) (h2 : Empty L k q) : False := by
  obtain ⟨y, hy, yk, yp⟩ := h
  have p0 : 0 < 8 ^ k := Nat.pow_pos (by decide)
  exact h2 y hy 0 p0 ⟨by omega, by rw [yk]; omega⟩
theorem parts_empty {k q : Nat} (hg : Good L) (hk : k ≤ 3) (h : Parts L k q) (h2 : Empty L k q) : False := by
  obtain ⟨z, hz, zk, zp⟩ := h
  have h1 := (hg.1 z hz).slot hk (by omega) zp
  have h8 : (q + 1) * 8 ^ k = q * 8 ^ k + 8 ^ k := Nat.add_one_mul _ _
  have hz8 : 0 < 8 ^ z.k := Nat.pow_pos (by decide)
  refine h2 z hz (z.p - q * 8 ^ k) (by omega) ⟨by omega, by omega⟩
theorem Row8.whole {i k P : Nat} {Y : Nat → X} (h : Row8 L i k P Y) : ∀ j, j < 8 → Whole L k (8 * P + j) := fun j hj => ⟨Y j, List.mem_of_getElem? (h j hj).1, (h j hj).2.1, (h j hj).2.2⟩
theorem Row8.same {i i' k P : Nat} {Y Y' : Nat → X} (hg : Good L) (h : Row8 L i k P Y) (h' : Row8 L i' k P Y') : i = i' ∧ ∀ j, j < 8 → Y j = Y' j := by
  have e : ∀ j, j < 8 → Y j = Y' j := fun j hj => Whole.uniq hg (List.mem_of_getElem? (h j hj).1) (List.mem_of_getElem? (h' j hj).1) (h j hj).2.1 (h j hj).2.2 (h' j hj).2.1 (h' j hj).2.2
  refine ⟨?_, e⟩
  have h1 := (h 0 (by omega)).1
  rw [e 0 (by omega)] at h1
  exact hg.nodup h1 (h' 0 (by omega)).1
theorem AlkY.congr {Y Y' : Nat → X} (e : ∀ j, j < 8 → Y j = Y' j) (h : AlkY Y) : AlkY Y' := by
  refine ⟨fun j h1 h8 => ?_, fun j h1 h8 => ?_⟩
  · rw [← e j h8, ← e (j - 1) (by omega), ← e 1 (by omega), ← e 0 (by omega)]
    exact h.1 j h1 h8
  · rw [← e j h8, ← e 0 (by omega)]
    exact h.2 j h1 h8
theorem JC.uniq {k P : Nat} {c c' : Int} (hg : Good L) (hk : k ≤ 3) (h : JC L k P c) (h' : JC L k P c') : c = c' := by
  have bad : ∀ {q : Nat} {c : Int}, Whole L k q → ((Parts L k q ∧ c = 5) ∨ (Empty L k q ∧ c = 6)) → False := fun hw hb => by
    rcases hb with ⟨hb, _⟩ | ⟨hb, _⟩
    · exact whole_parts hg hk hw hb
    · exact whole_empty hw hb
  rcases h with ⟨j, hj, hw, hb⟩ | ⟨i, Y, hr, ha⟩ <;> rcases h' with ⟨j', hj', hw', hb'⟩ | ⟨i', Y', hr', ha'⟩
  · rcases Nat.lt_trichotomy j j' with hl | rfl | hl
    · exact (bad (hw' j hl) hb).elim
    · rcases hb with ⟨b1, rfl⟩ | ⟨b1, rfl⟩ <;> rcases hb' with ⟨b2, rfl⟩ | ⟨b2, rfl⟩
      · rfl
      · exact (parts_empty hg hk b1 b2).elim
      · exact (parts_empty hg hk b2 b1).elim
      · rfl
    · exact (bad (hw j' hl) hb').elim
  · exact (bad (hr'.whole j hj) hb).elim
  · exact (bad (hr.whole j' hj') hb').elim
  · obtain ⟨_, e⟩ := hr.same hg hr'
    rcases ha with ⟨a1, rfl⟩ | ⟨a1, rfl⟩ <;> rcases ha' with ⟨a2, rfl⟩ | ⟨a2, rfl⟩
    · rfl
    · exact absurd (a2.congr fun j hj => (e j hj).symm) a1
    · exact absurd (a1.congr e) a2
    · rfl
theorem row8' {k P : Nat} (hg : Good L) (hw : ∀ j, j < 8 → Whole L k (8 * P + j)) : ∃ i Y, Row8 L i k P Y := by
  obtain ⟨y0, hy0, yk, yp⟩ := hw 0 (by omega)
  obtain ⟨i0, hi0⟩ := List.getElem?_of_mem hy0
  obtain ⟨Y, hY⟩ := row8 hg hi0 yk yp hw
  exact ⟨i0, Y, hY⟩
/-- One that is covered by a slot's pages lies in the slot, where an entry of the slot's size is beside. -/
theorem slot_in {x : X} {k P j i : Nat} (hg : Good L) (hx : x ∈ L) (hxk : x.k = k) (hxP : x.p / 8 ^ (k + 1) = P) (hk : k ≤ 1) (hj : j < 8) {y : X} (hy : y ∈ L) (hi : i < 8 ^ k) (hc : Cov y ((8 * P + j) * 8 ^ k + i)) : y.k ≤ k ∧ y.p / 8 ^ k = 8 * P + j := by
  have hyo := hg.1 y hy
  have hq := (hyo.cov _).1 hc
  have e0 : ((8 * P + j) * 8 ^ k + i) / 8 ^ k = 8 * P + j := by
    rw [Nat.mul_comm, Nat.mul_add_div (Nat.pow_pos (by decide)), Nat.div_eq_of_lt hi, Nat.add_zero]
  have hle : y.k ≤ k := by
    rcases Nat.lt_or_ge k y.k with hlt | hge
    · exfalso
      have e1 : ((8 * P + j) * 8 ^ k + i) / 8 ^ (k + 1) = P := by rw [div_step, e0]; omega
      have e2 : x.p / 8 ^ y.k = y.p / 8 ^ y.k := by rw [hq]; exact div_up (j := k + 1) (by omega) (by rw [hxP, e1])
      have := hg.disj hy hx (g := x.p) ((hyo.cov _).2 e2.symm) ⟨Nat.le_refl _, by have : 0 < 8 ^ x.k := Nat.pow_pos (by decide); omega⟩
      subst this
      omega
    · exact hge
  exact ⟨hle, by rw [← e0]; exact div_up hle hq⟩
theorem JC.total {x : X} {k P : Nat} (hg : Good L) (hx : x ∈ L) (hxk : x.k = k) (hxP : x.p / 8 ^ (k + 1) = P) (hk : k ≤ 1) : ∃ c, JC L k P c := by
  have bad : ∀ j, j < 8 → ¬ Whole L k (8 * P + j) → Parts L k (8 * P + j) ∨ Empty L k (8 * P + j) := fun j hj hw => by
    by_cases hp : Parts L k (8 * P + j)
    · exact .inl hp
    · refine .inr fun y hy i hi hc => ?_
      obtain ⟨h1, h2⟩ := slot_in hg hx hxk hxP hk hj hy hi hc
      by_cases e : y.k = k
      · have := (hg.1 y hy).aligned
        rw [e, h2] at this
        exact hw ⟨y, hy, e, this⟩
      · exact hp ⟨y, hy, by omega, h2⟩
  have step : ∀ n, n ≤ 8 → (∃ c, JC L k P c) ∨ ∀ i, i < n → Whole L k (8 * P + i) := by
    intro n
    induction n with
    | zero => exact fun _ => .inr fun i hi => absurd hi (Nat.not_lt_zero _)
    | succ n ih =>
      intro hn
      rcases ih (by omega) with h | h
      · exact .inl h
      · by_cases hw : Whole L k (8 * P + n)
        · exact .inr fun i hi => by
            by_cases e : i = n
            · subst e; exact hw
            · exact h i (by omega)
        · rcases bad n (by omega) hw with hb | hb
          · exact .inl ⟨5, .inl ⟨n, by omega, h, .inl ⟨hb, rfl⟩⟩⟩
          · exact .inl ⟨6, .inl ⟨n, by omega, h, .inr ⟨hb, rfl⟩⟩⟩
  rcases step 8 (by omega) with h | h
  · exact h
  · obtain ⟨i, Y, hr⟩ := row8' hg h
    by_cases ha : AlkY Y
    · exact ⟨0, .inr ⟨i, Y, hr, .inr ⟨ha, rfl⟩⟩⟩
    · exact ⟨5, .inr ⟨i, Y, hr, .inl ⟨ha, rfl⟩⟩⟩
theorem Alk.jc {x : X} {k P : Nat} {c : Int} (hab : Ab σ L) (hg : Good L) (hx : x ∈ L) (hxk : x.k = k) (hxP : x.p / 8 ^ (k + 1) = P) (hk : k ≤ 1) (h : Alk σ k P c) : JC L k P c := by
  have hw : ∀ q, σ.E k q ≠ none → Whole L k q := fun q hq => by
    cases he : σ.E k q with
    | none => exact absurd he hq
    | some e => exact (hab.e k q).1 ⟨e, he⟩
  rcases h with ⟨i, hi, h1, h2⟩ | ⟨h1, h2⟩
  · refine .inl ⟨i, hi, fun j hj => hw _ (h1 j hj).2, ?_⟩
    rcases h2 with ⟨hb, rfl⟩ | ⟨hb, he, rfl⟩
    · refine .inl ⟨?_, rfl⟩
      cases hbb : σ.bel k (8 * P + i) with
      | none => exact absurd hbb hb
      | some b =>
        unfold St.bel at hbb
        by_cases h0 : k = 0
        · rw [if_pos h0] at hbb; cases hbb
        · rw [if_neg h0] at hbb
          obtain ⟨_, y, hy, b1, b2⟩ := (hab.n _ _).1 ⟨b, hbb⟩
          rw [show k - 1 + 1 = k from by omega] at b2
          exact ⟨y, hy, by omega, b2⟩
    · refine .inr ⟨fun y hy n hn hc => ?_, rfl⟩
      obtain ⟨b1, b2⟩ := slot_in hg hx hxk hxP hk hi hy hn hc
      exact hab.slot_none hg (by omega) he hb y hy b1 b2
  · obtain ⟨i0, Y, hr⟩ := row8' hg fun j hj => hw _ (h1 j hj).2
    have hpos : 0 < 8 ^ k := Nat.pow_pos (by decide)
    have hyq : ∀ n, n < 8 → (Y n).p / 8 ^ k = 8 * P + n := fun n hn => by rw [(hr n hn).2.2, Nat.mul_div_cancel _ hpos]
    have hV : ∀ n, n < 8 → σ.V k (8 * P + n) = (Y n).v := fun n hn => by
      have := hab.v _ (List.mem_of_getElem? (hr n hn).1)
      rw [(hr n hn).2.1, hyq n hn] at this
      exact this
    have hM : ∀ n, n < 8 → ∀ m, m < 3 → σ.M k (8 * P + n) m = (Y n).m m := fun n hn m hm => by
      have hb := hab.m k (8 * P + n) m (by omega) hm
      have hyn := List.mem_of_getElem? (hr n hn).1
      have hcv : Cov (Y n) (Y n).p := ⟨Nat.le_refl _, by have : 0 < 8 ^ (Y n).k := Nat.pow_pos (by decide); omega⟩
      rw [Bool.eq_iff_iff, hb]
      constructor
      · rintro ⟨y, hy, b1, b2, b3⟩
        have := slot_uniq hg hyn hcv hy (by rw [(hr n hn).2.1]; exact b1) (by rw [(hr n hn).2.1, hyq n hn]; exact b2)
        subst this
        exact b3
      · exact fun h => ⟨Y n, hyn, by rw [(hr n hn).2.1]; exact Nat.le_refl _, hyq n hn, h⟩
    have hYm : (∀ m, m < 3 → any8 (fun s => σ.M k (8 * P + s) m) = false ∨ all8 (fun s => σ.M k (8 * P + s) m) = true) ↔ Ym Y := by
      unfold Ym
      refine forall_congr' fun m => forall_congr' fun hm => ?_
      rw [any8_congr (f := fun s => σ.M k (8 * P + s) m) (g := fun s => (Y s).m m) fun s hs => hM s hs m hm]
      rw [show all8 (fun s => σ.M k (8 * P + s) m) = all8 (fun s => (Y s).m m) from by rw [Bool.eq_iff_iff, all8_iff, all8_iff]; exact forall_congr' fun s => forall_congr' fun hs => by rw [hM s hs m hm]]
    have hVV : (∀ i, 1 ≤ i → i < 8 → σ.V k (8 * P + i) - σ.V k (8 * P + (i - 1)) = σ.V k (8 * P + 1) - σ.V k (8 * P + 0)) ↔ ∀ j, 1 ≤ j → j < 8 → (Y j).v - (Y (j - 1)).v = (Y 1).v - (Y 0).v := by
      refine forall_congr' fun i => forall_congr' fun b1 => forall_congr' fun b2 => ?_
      rw [hV i b2, hV (i - 1) (by omega), hV 1 (by omega), hV 0 (by omega)]
    rw [hYm, hVV, Ym_iff] at h2
    refine .inr ⟨i0, Y, hr, ?_⟩
    rcases h2 with ⟨rfl, h2⟩ | ⟨rfl, h2⟩
    · exact .inl ⟨h2, rfl⟩
    · exact .inr ⟨h2, rfl⟩
end

end Go.Proofs.Ytdnnfoojdfmajaa

/- Parts of the proofs of layer 19 (radix): contracts of its functions, and the laws' walks. -/
import Derived.Test.YtdnnfoojdfmajaaProg
import Derived.WalkKit
import Derived.WalkSpells
import Derived.WalkLawsBesides
import Derived.BigQuiet
import Derived.Deep.QuietTactic
import Derived.Lib.Hide
import Derived.Deep.RegionHeld3
import Derived.Deep.DeepCutAuto
import Derived.KernelRfl
import Derived.Deep.OwnRows
import Derived.Laws.CopyOwn
import Derived.Laws.CopyRow
import Derived.StillTailTactics
import Derived.Deep.RegionLaw
import Derived.Handy
import Derived.Deep.CutRange
import Derived.Deep.CutBlock
import Derived.Test.YtdnnfoojdfmajaaR7
namespace Go.Proofs.Ytdnnfoojdfmajaa
open Go.RowKit
set_option linter.unusedVariables false
set_option linter.unusedSimpArgs false

set_option maxRecDepth 100000 in
theorem RJoin_err (f : Int) (c : Int) (hc : c ≠ 0) (r : Nat) (w : World) (H : Calls Try.prog 35 #[.pointer (some ⟨r, 0, none⟩), .int .i64 f] w fun e w' => e = .returned (.tuple #[.int .i64 (-1), .int .i64 c]) ∧ Below w.heap.size w w') :
    Calls Try.prog 52 #[.pointer (some ⟨r, 0, none⟩), .int .i64 f] w fun e w' => e = .returned (.int .i64 c) ∧ Below w.heap.size w w' := by
  have HH := Lib.hid H
  clear H
  go_enter Try.func52, Try.ntmps52
  go_wp2_with (go_at_call 35; refine HH.out.mono ?_; rintro e w1 ⟨rfl, hb⟩; have HB := Lib.hid hb; clear hb)
  go_ret
  exact ⟨rfl, HB.out⟩
set_option maxRecDepth 100000 in
set_option maxHeartbeats 4000000 in
theorem RJoin_top (g : Nat) (i : Nat) (x : X) (r : Nat) (F : List Nat) (L : List X) (w : World) (h : Rt w r F L) (hg : Good L) (hm : L.length ≤ 4500) (hi : L[i]? = some x) (hc : CovI x (g : Nat)) (hk : x.k = 2) : Calls Try.prog 52 #[.pointer (some ⟨r, 0, none⟩), .int .i64 (g : Nat)] w fun e w' => e = .returned (.int .i64 2) ∧ Below w.heap.size w w' := by
  have HK0 := Lib.hid hk
  clear hk
  have hil : i < L.length := (List.getElem?_eq_some_iff.1 hi).1
  have hxok := hg.1 x (List.mem_of_getElem? hi)
  have HF := Lib.hid (RFind_ok (g : Nat) i x r F L w (cov_page hxok hc) h hg hi hc)
  have HR := Lib.hid (And.intro h (And.intro hi hm))
  have HXO := Lib.hid hxok
  clear h hg hm hi hc hxok
  go_enter Try.func52, Try.ntmps52
  go_wp2_with fail
  refine HF.out.mono ?_
  rintro e w1 ⟨rfl, hb⟩
  have HB := Lib.hid hb
  have HT := Lib.hid (HR.out.1.below hb)
  clear hb HF
  obtain ⟨ao, cap, c0, hT, _⟩ := HT.out.cells
  obtain ⟨bl, cl2, hv, _, _, hbl, hcell, _⟩ := hT.read (ne_nil_of_lt hil)
  cases hv
  obtain ⟨e0, e1, e2, e3, e4, e5⟩ := hcell i _ HR.out.2.1
  have hiI : ((i : Nat) : Int) < ((L.length : Nat) : Int) := by omega
  have hi0 : (0 : Int) ≤ ((i : Nat) : Int) := by omega
  clear hcell hT hbl
  rw [HK0.out] at e1
  go_wp2_with fail
  go_ret
  exact ⟨rfl, HB.out⟩
/-- A slot holds a whole entry; smaller ones; nothing. -/
def Whole (L : List X) (k q : Nat) : Prop := ∃ y ∈ L, y.k = k ∧ y.p = q * 8 ^ k
def Parts (L : List X) (k q : Nat) : Prop := ∃ y ∈ L, y.k < k ∧ y.p / 8 ^ k = q
def Empty (L : List X) (k q : Nat) : Prop := ∀ y ∈ L, ∀ i, i < 8 ^ k → ¬ Cov y (q * 8 ^ k + i)
theorem slot_big {L : List X} (hg : Good L) {x y : X} (hx : x ∈ L) (hy : y ∈ L) {P k : Nat} (hk : k < 8) (hx1 : x.k ≤ 1) (hxP : x.p / 8 ^ (x.k + 1) = P) (hc : Cov y ((8 * P + k) * 8 ^ x.k)) : ¬ x.k < y.k := fun hlt => by
  have hyo := hg.1 y hy
  have hxo := hg.1 x hx
  have : y = x := by
    refine hg.disj hy hx (g := x.p) ?_ ⟨Nat.le_refl _, Nat.lt_add_of_pos_right (Nat.pow_pos (by decide))⟩
    obtain ⟨b1, b2, b3, _⟩ := hyo
    obtain ⟨a1, a2, a3, _⟩ := hxo
    unfold Cov at *
    have hc01 : x.k = 0 ∨ x.k = 1 := by omega
    have hy12 : y.k = 1 ∨ y.k = 2 := by omega
    rcases hc01 with e | e <;> rcases hy12 with e2 | e2 <;> rw [e] at hxP hc <;> rw [e2] at hc b2 ⊢ <;> try omega
    all_goals (simp at *; omega)
  rw [this] at hlt
  exact Nat.lt_irrefl _ hlt
theorem slot_cov {L : List X} (hg : Good L) {y : X} (hy : y ∈ L) {k q : Nat} (hk : k ≤ 2) (hc : Cov y (q * 8 ^ k)) (hle : y.k ≤ k) : y.p = q * 8 ^ k ∧ y.p / 8 ^ k = q := by
  have hyo := hg.1 y hy
  obtain ⟨b1, b2, b3, _⟩ := hyo
  unfold Cov at hc
  rcases k3 hk with rfl | rfl | rfl <;> rcases k3 b1 with e | e | e <;> rw [e] at hc b2 hle <;> simp at * <;> omega
theorem slot_parts {L : List X} (hg : Good L) {y : X} (hy : y ∈ L) {k q i : Nat} (hk : k ≤ 2) (hi : i < 8 ^ k) (hc : Cov y (q * 8 ^ k + i)) (hn : ¬ Cov y (q * 8 ^ k)) : y.k < k ∧ y.p / 8 ^ k = q := by
  have hyo := hg.1 y hy
  obtain ⟨b1, b2, b3, _⟩ := hyo
  unfold Cov at hc hn
  rcases k3 hk with rfl | rfl | rfl <;> rcases k3 b1 with e | e | e <;> rw [e] at hc b2 hn ⊢ <;> simp at * <;> omega
theorem Whole.uniq {L : List X} (hg : Good L) {k q : Nat} {y z : X} (hy : y ∈ L) (hz : z ∈ L) (h1 : y.k = k) (h2 : y.p = q * 8 ^ k) (h3 : z.k = k) (h4 : z.p = q * 8 ^ k) : y = z :=
  hg.disj hy hz (g := q * 8 ^ k) ⟨by omega, by rw [h2, h1]; exact Nat.lt_add_of_pos_right (Nat.pow_pos (by decide))⟩ ⟨by omega, by rw [h4, h3]; exact Nat.lt_add_of_pos_right (Nat.pow_pos (by decide))⟩
def Row8 (L : List X) (i k P : Nat) (Y : Nat → X) : Prop := ∀ j, j < 8 → L[i + j]? = some (Y j) ∧ (Y j).k = k ∧ (Y j).p = (8 * P + j) * 8 ^ k
theorem row8 {L : List X} (hg : Good L) {i k P : Nat} {y0 : X} (h0 : L[i]? = some y0) (h1 : y0.k = k) (h2 : y0.p = (8 * P + 0) * 8 ^ k) (hw : ∀ j, j < 8 → Whole L k (8 * P + j)) : ∃ Y, Row8 L i k P Y := by
  have hj : ∀ j, j < 8 → ∃ y, L[i + j]? = some y ∧ y.k = k ∧ y.p = (8 * P + j) * 8 ^ k := by
    intro j
    induction j with
    | zero => intro _; exact ⟨y0, h0, h1, h2⟩
    | succ j ih =>
      intro hj8
      obtain ⟨y, hy, hk, hp⟩ := ih (by omega)
      obtain ⟨z, hz, zk, zp⟩ := hw (j + 1) hj8
      obtain ⟨m, hm, rfl⟩ := List.mem_iff_getElem.1 hz
      obtain ⟨hil, rfl⟩ := List.getElem?_eq_some_iff.1 hy
      have hpw := List.pairwise_iff_getElem.1 hg.2
      have hpos : 0 < 8 ^ k := Nat.pow_pos (by decide)
      have hstep : (8 * P + (j + 1)) * 8 ^ k = (8 * P + j) * 8 ^ k + 8 ^ k := by rw [← Nat.add_assoc, Nat.add_mul _ 1, Nat.one_mul]
      rw [hstep] at zp
      have hlt : i + j < m := by
        rcases Nat.lt_trichotomy (i + j) m with h | h | h
        · exact h
        · subst h; omega
        · have := hpw m (i + j) hm hil h; rw [zk] at this; omega
      have hm1 : m = i + (j + 1) := by
        rcases Nat.lt_or_ge (i + (j + 1)) m with h | h
        · have hz1 : i + (j + 1) < L.length := by omega
          have a1 := hpw (i + j) (i + (j + 1)) hil hz1 (by omega)
          have a2 := hpw (i + (j + 1)) m hz1 hm h
          have : 0 < 8 ^ (L[i + (j + 1)]).k := Nat.pow_pos (by decide)
          rw [hk, hp] at a1
          rw [zp] at a2
          omega
        · omega
      subst hm1
      exact ⟨_, List.getElem?_eq_getElem hm, zk, by rw [hstep]; exact zp⟩
  exact ⟨fun j => if h : j < 8 then (hj j h).choose else y0, fun j h => by dsimp only; rw [dif_pos h]; exact (hj j h).choose_spec⟩
def AlkY (Y : Nat → X) : Prop := (∀ j, 1 ≤ j → j < 8 → (Y j).v - (Y (j - 1)).v = (Y 1).v - (Y 0).v) ∧ ∀ j, 1 ≤ j → j < 8 → (Y j).a = (Y 0).a ∧ (Y j).b = (Y 0).b ∧ (Y j).c = (Y 0).c

end Go.Proofs.Ytdnnfoojdfmajaa

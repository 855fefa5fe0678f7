/- Parts of the proofs of layer 19 (radix): contracts of its functions, and the laws' walks. -/
import Derived.Test.YtdnnfoojdfmajaaProg
import Derived.WalkKit
import Derived.WalkSpells
import Derived.WalkLawsBesides
import Derived.BigQuiet
import Derived.Deep.QuietTactic
import Derived.Lib.Hide
import Derived.Deep.RegionHeld3
import Derived.Deep.DeepCutAuto
import Derived.KernelRfl
import Derived.Deep.OwnRows
import Derived.Laws.CopyOwn
import Derived.Laws.CopyRow
import Derived.StillTailTactics
import Derived.Deep.RegionLaw
import Derived.Handy
import Derived.Deep.CutRange
import Derived.Deep.CutBlock
import Derived.Test.YtdnnfoojdfmajaaA19
namespace Go.Proofs.Ytdnnfoojdfmajaa
open Go.RowKit
set_option linter.unusedVariables false
set_option linter.unusedSimpArgs false

theorem Good.ext {L M : List X} (hl : Good L) (hm : Good M) (h : ∀ y, y ∈ L ↔ y ∈ M) : L = M := by
  induction L generalizing M with
  | nil =>
    cases M with
    | nil => rfl
    | cons b M => exact absurd ((h b).2 (by simp)) (by simp)
  | cons a L ih =>
    cases M with
    | nil => exact absurd ((h a).1 (by simp)) (by simp)
    | cons b M =>
      have ha := List.pairwise_cons.1 hl.2
      have hb := List.pairwise_cons.1 hm.2
      have pa : 0 < 8 ^ a.k := Nat.pow_pos (by decide)
      have pb : 0 < 8 ^ b.k := Nat.pow_pos (by decide)
      have hab : a = b := by
        rcases List.mem_cons.1 ((h a).1 (by simp)) with e | e
        · exact e
        · rcases List.mem_cons.1 ((h b).2 (by simp)) with e2 | e2
          · exact e2.symm
          · have := hb.1 a e
            have := ha.1 b e2
            omega
      subst hab
      congr 1
      refine ih (hl.sub (List.sublist_cons_self _ _)) (hm.sub (List.sublist_cons_self _ _)) fun y => ?_
      have := h y
      rw [List.mem_cons, List.mem_cons] at this
      constructor
      · intro hy
        rcases this.1 (.inr hy) with rfl | h2
        · have := ha.1 y hy; omega
        · exact h2
      · intro hy
        rcases this.2 (.inr hy) with rfl | h2
        · have := hb.1 y hy; omega
        · exact h2
section
variable {t r : Nat} {σ : St} {L : List X}
theorem join_ok {g i i0 : Nat} {x : X} {Y : Nat → X} (hab : Ab σ L) (hg : Good L) (hg4 : g < 4096) (hi : L[i]? = some x) (hc : Cov x g) (hk1 : x.k ≤ 1) (hrow : Row8 L i0 x.k (g / 8 ^ (x.k + 1)) Y) (hal : AlkY Y) :
    PDo 23 #[.pointer (some ⟨t, 0, none⟩), .int .i64 (g : Nat)] (.int .i64 0) t σ L (ins ⟨(Y 0).p, x.k + 1, (Y 0).v, (Y 0).a, (Y 0).b, (Y 0).c⟩ (dl i0 8 L)) := fun w F hp => by
  have hx := List.mem_of_getElem? hi
  obtain ⟨l, e, hA, hE⟩ := hab.at_ hg hx hg4 hc
  have hq := ((hg.1 x hx).cov g).1 hc
  have hxP : x.p / 8 ^ (x.k + 1) = g / 8 ^ (x.k + 1) := div_up (by omega) hq
  have hV : ∀ i, i < 8 → -1152921504606846976 ≤ σ.V x.k (8 * (g / 8 ^ (x.k + 1)) + i) ∧ σ.V x.k (8 * (g / 8 ^ (x.k + 1)) + i) ≤ 1152921504606846976 ∨ σ.E x.k (8 * (g / 8 ^ (x.k + 1)) + i) = none := fun i hi => by
    cases hee : σ.E x.k (8 * (g / 8 ^ (x.k + 1)) + i) with
    | none => exact .inr rfl
    | some b =>
      left
      obtain ⟨y, hy, yk, yp⟩ := (hab.e _ _).1 ⟨b, hee⟩
      have := hab.v y hy
      rw [yk, yp, Nat.mul_div_cancel _ (Nat.pow_pos (by decide))] at this
      rw [this]
      exact (hg.1 y hy).2.2.2
  have hjc : JC L x.k (g / 8 ^ (x.k + 1)) 0 := .inr ⟨i0, Y, hrow, .inr ⟨hal, rfl⟩⟩
  refine (Join_any g t σ _ _ F x.k e l w hg4 hp hA hE hk1 hV (bounds hg σ)).mono ?_
  rintro _ w' ⟨c', hak, rfl, h⟩
  have := (hak.jc hab hg hx rfl hxP hk1).uniq hg (by omega) hjc
  subst this
  rcases h with ⟨h, _⟩ | ⟨_, x0, _, h1, h2⟩
  · exact absurd rfl h
  · obtain ⟨_, a1, a2⟩ := hab.join (x0 := x0) hg hk1 hrow hal
    refine ⟨rfl, F, _, h2, ?_, a1⟩
    have h7 := (List.getElem?_eq_some_iff.1 (hrow 7 (by omega)).1).1
    have e1 : (((ins ⟨(Y 0).p, x.k + 1, (Y 0).v, (Y 0).a, (Y 0).b, (Y 0).c⟩ (dl i0 8 L)).length : Nat) : Int) = ((L.length : Nat) : Int) - 7 := by
      rw [ins_length, dl_length (by omega)]
      omega
    rw [e1, show ((cntN (σ.join x.k (g / 8 ^ (x.k + 1)) x0).N : Nat) : Int) = ((cntN σ.N : Nat) : Int) - 1 from by omega]
    exact h1
/-- Split, done: the tree of the program; joined again, the entries are as they were. -/
theorem split_back {g i : Nat} {x : X} {step : Int} (hg : Good L) (hg4 : g < 4096) (hi : L[i]? = some x) (hc : Cov x g) (hk : x.k ≠ 0) (ho : okS x.v step) (hg1 : Good (pcs x step 8 (dl i 1 L))) :
    ∃ (j n : Nat) (Y : Nat → X), n < 8 ∧ (pcs x step 8 (dl i 1 L))[j]? = some (pc x step n) ∧ Cov (pc x step n) g ∧ ∃ i0, Row8 (pcs x step 8 (dl i 1 L)) i0 (x.k - 1) (g / 8 ^ (x.k - 1 + 1)) Y ∧ AlkY Y ∧ ins ⟨(Y 0).p, x.k - 1 + 1, (Y 0).v, (Y 0).a, (Y 0).b, (Y 0).c⟩ (dl i0 8 (pcs x step 8 (dl i 1 L))) = L := by
  have hx := List.mem_of_getElem? hi
  have hxo := hg.1 x hx
  have hq := (hxo.cov g).1 hc
  have k1 : x.k - 1 + 1 = x.k := by omega
  have hP := fun n (hn : n < 8) => pc_range (step := step) hxo hk hn
  have hm : ∀ y, y ∈ pcs x step 8 (dl i 1 L) ↔ (∃ j, j < 8 ∧ y = pc x step j) ∨ (y ∈ L ∧ y ≠ x) := fun y => pcs_mem.trans (or_congr_right (dl1_mem hg hi))
  have hd : g / 8 ^ (x.k - 1) / 8 = x.p / 8 ^ x.k := by rw [← div_step, k1, hq]
  have hn8 : g / 8 ^ (x.k - 1) % 8 < 8 := by omega
  obtain ⟨j, hj⟩ := List.mem_iff_getElem?.1 ((hm (pc x step (g / 8 ^ (x.k - 1) % 8))).2 (.inl ⟨_, hn8, rfl⟩))
  have hcv : Cov (pc x step (g / 8 ^ (x.k - 1) % 8)) g := ((pc_ok hxo hk ho hn8).cov g).2 (by
    show (pc x step (g / 8 ^ (x.k - 1) % 8)).p / 8 ^ (x.k - 1) = g / 8 ^ (x.k - 1)
    rw [(hP _ hn8).2.1, ← hd]
    omega)
  have hw : ∀ n, n < 8 → Whole (pcs x step 8 (dl i 1 L)) (x.k - 1) (8 * (g / 8 ^ (x.k - 1 + 1)) + n) := fun n hn =>
    ⟨pc x step n, (hm _).2 (.inl ⟨n, hn, rfl⟩), rfl, by rw [k1, ← hq]; exact (hP n hn).1⟩
  obtain ⟨i0, Y, hr⟩ := row8' hg1 hw
  have hY : ∀ n, n < 8 → Y n = pc x step n := fun n hn => Whole.uniq hg1 (List.mem_of_getElem? (hr n hn).1) ((hm _).2 (.inl ⟨n, hn, rfl⟩)) (hr n hn).2.1 (hr n hn).2.2 rfl (by rw [k1, ← hq]; exact (hP n hn).1)
  have hJ : (⟨(Y 0).p, x.k - 1 + 1, (Y 0).v, (Y 0).a, (Y 0).b, (Y 0).c⟩ : X) = x := by
    rw [hY 0 (by omega)]
    unfold pc
    dsimp only
    cases x
    simp at *
    omega
  have hal : AlkY Y := by
    refine ⟨fun n h1 h8 => ?_, fun n h1 h8 => ?_⟩
    · rw [hY n h8, hY (n - 1) (by omega), hY 1 (by omega), hY 0 (by omega)]
      unfold pc
      dsimp only
      match n, h1, h8 with
      | 1, _, _ | 2, _, _ | 3, _, _ | 4, _, _ | 5, _, _ | 6, _, _ | 7, _, _ => first | (simp; done) | (simp; omega)
    · rw [hY n h8, hY 0 (by omega)]
      exact ⟨rfl, rfl, rfl⟩
  refine ⟨j, _, Y, hn8, hj, hcv, i0, hr, hal, ?_⟩
  have k2 : x.k - 1 ≤ 1 := by have := hxo.1; omega
  rw [hJ]
  have hg2 : Good (ins x (dl i0 8 (pcs x step 8 (dl i 1 L)))) := by
    refine (hg1.sub (dl_sub _ _ _)).ins hxo fun y hy => ?_
    obtain ⟨hy, hne⟩ := (dl8_mem hg1 hr).1 hy
    rcases (hm y).1 hy with ⟨n, hn, rfl⟩ | ⟨hy, hnx⟩
    · exact absurd (hY n hn).symm (hne n hn)
    · have hy8 : 0 < 8 ^ y.k := Nat.pow_pos (by decide)
      have hx8 : 0 < 8 ^ x.k := Nat.pow_pos (by decide)
      rcases Nat.lt_or_ge x.p y.p with h1 | h1
      · left
        have : ¬ Cov x y.p := fun hcc => hnx (hg.disj hy hx ⟨Nat.le_refl _, by omega⟩ hcc)
        unfold Cov at this
        omega
      · right
        have : ¬ Cov y x.p := fun hcc => hnx (hg.disj hy hx hcc ⟨Nat.le_refl _, by omega⟩)
        unfold Cov at this
        omega
  refine Good.ext hg2 hg fun y => ?_
  rw [ins_mem, dl8_mem hg1 hr, hm]
  constructor
  · rintro (rfl | ⟨⟨n, hn, rfl⟩ | ⟨hy, _⟩, hne⟩)
    · exact hx
    · exact absurd (hY n hn).symm (hne n hn)
    · exact hy
  · intro hy
    by_cases e : y = x
    · exact .inl e
    · refine .inr ⟨.inr ⟨hy, e⟩, fun n hn e2 => e ?_⟩
      rw [hY n hn] at e2
      subst e2
      exact slot_uniq hg hx hc hy (by show x.k - 1 ≤ x.k; omega) (by rw [(hP n hn).2.2.1, hq])
end

end Go.Proofs.Ytdnnfoojdfmajaa

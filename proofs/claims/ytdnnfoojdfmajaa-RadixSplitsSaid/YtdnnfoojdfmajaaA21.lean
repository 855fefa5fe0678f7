/- Parts of the proofs of layer 19 (radix): contracts of its functions, and the laws' walks. -/
import Derived.Test.YtdnnfoojdfmajaaProg
import Derived.WalkKit
import Derived.WalkSpells
import Derived.WalkLawsBesides
import Derived.BigQuiet
import Derived.Deep.QuietTactic
import Derived.Lib.Hide
import Derived.Deep.RegionHeld3
import Derived.Deep.DeepCutAuto
import Derived.KernelRfl
import Derived.Deep.OwnRows
import Derived.Laws.CopyOwn
import Derived.Laws.CopyRow
import Derived.StillTailTactics
import Derived.Deep.RegionLaw
import Derived.Handy
import Derived.Deep.CutRange
import Derived.Deep.CutBlock
import Derived.Test.YtdnnfoojdfmajaaA19
namespace Go.Proofs.Ytdnnfoojdfmajaa
open Go.RowKit
set_option linter.unusedVariables false
set_option linter.unusedSimpArgs false

theorem Good.ext {L M : List X} (hl : Good L) (hm : Good M) (h : ∀ y, y ∈ L ↔ y ∈ M) : L = M := by
  induction L generalizing M with
  | nil =>
    cases M with
    | nil => rfl
    | cons b M => exact absurd ((h b).2 (by simp)) (by simp)
  | cons a L ih =>
    cases M with
    | nil => exact absurd ((h a).1 (by simp)) (by simp)
    | cons b M =>
      have ha := List.pairwise_cons.1 hl.2
      have hb := List.pairwise_cons.1 hm.2
      have pa : 0 < 8 ^ a.k := Nat.pow_pos (by decide)
      have pb : 0 < 8 ^ b.k := Nat.pow_pos (by decide)
      have hab : a = b := by
        rcases List.mem_cons.1 ((h a).1 (by simp)) with e | e
        · exact e
        · rcases List.mem_cons.1 ((h b).2 (by simp)) with e2 | e2
          · exact e2.symm
          · have := hb.1 a e
            have := ha.1 b e2
            omega
      subst hab
      congr 1
      refine ih (hl.sub (List.sublist_cons_self _ _)) (hm.sub (List.sublist_cons_self _ _)) fun y => ?_
      have := h y
      rw [List.mem_cons, List.mem_cons] at this
      constructor
      · intro hy
        rcases this.1 (.inr hy) with rfl | h2
        · have := ha.1 y hy; omega
        · exact h2
      · intro hy
        rcases this.2 (.inr hy) with rfl | h2
        · have := hb.1 y hy; omega
        · exact h2
section
variable {t r : Nat} {σ : St} {L : List X}
theorem join_ok {g i i0 : Nat} {x : X} {Y : Nat → X} (hab : Ab σ L) (hg : Good L) (hg4 : g < 4096) (hi : L[i]? = some x) (hc : Cov x g) (hk1 : x.k ≤ 1) (hrow : Row8 L i0 x.k (g / 8 ^ (x.k + 1)) Y) (hal : AlkY Y) :
    PDo 23 #[.pointer (some ⟨t, 0, none⟩), .int .i64 (g : Nat)] (.int .i64 0) t σ L (ins ⟨(Y 0).p, x.k + 1, (Y 0).v, (Y 0).a, (Y 0).b, (Y 0).c⟩ (dl i0 8 L)) := fun w F hp => by
  have hx := List.mem_of_getElem? hi
  obtain ⟨l, e, hA, hE⟩ := hab.at_ hg hx hg4 hc
  have hq := ((hg.1 x hx).cov g).1 hc
  have hxP : x.p / 8 ^ (x.k + 1) = g / 8 ^ (x.k + 1) := div_up (by omega) hq
  have hV : ∀ i, i < 8 → -1152921504606846976 ≤ σ.V x.k (8 * (g / 8 ^ (x.k + 1)) + i) ∧ σ.V x.k (8 * (g / 8 ^ (x.k + 1)) + i) ≤ 1152921504606846976 ∨ σ.E x.k (8 * (g / 8 ^ (x.k + 1)) + i) = none := fun i hi => by
    cases hee : σ.E x.k (8 * (g / 8 ^ (x.k + 1)) + i) with
    | none => exact .inr rfl
    | some b =>
      left
      obtain ⟨y, hy, yk, yp⟩ := (hab.e _ _).1 ⟨b, hee⟩
      have := hab.v y hy
      rw [yk, yp, Nat.mul_div_cancel _ (Nat.pow_pos (by decide))] at this
      rw [this]
      exact (hg.1 y hy).2.2.2
  have hjc : JC L x.k (g / 8 ^ (x.k + 1)) 0 := .inr ⟨i0, Y, hrow, .inr ⟨hal, rfl⟩⟩
  refine (Join_any g t σ _ _ F x.k e l w hg4 hp hA hE hk1 hV (bounds hg σ)).mono ?_
  rintro _ w' ⟨c', hak, rfl, h⟩
  have := (hak.jc hab hg hx rfl hxP hk1).uniq hg (by omega) hjc
  subst this
  rcases h with ⟨h, _⟩ | ⟨_, x0, _, h1, h2⟩
  · exact absurd rfl h
  · obtain ⟨_, a1, a2⟩ := hab.join (x0 := x0) hg hk1 hrow hal
    refine ⟨rfl, F, _, h2, ?_, a1⟩
    have h7 := (List.getElem?_eq_some_iff.1 (hrow 7 (by omega)).1).1
    have e1 : (((ins ⟨(Y 0).p, x.k + 1, (Y 0).v, (Y 0).a, (Y 0).b, (Y 0).c⟩ (dl i0 8 L)).length : Nat) : Int) = ((L.length : Nat) : Int) - 7 := by
      rw [ins_length, dl_length (by omega)]
      omega
    rw [e1, show ((cntN (σ.join x.k (g / 8 ^ (x.k + 1)) x0).N : Nat) : Int) = ((cntN σ.N : Nat) : Int) - 1 from by omega]
    exact h1
/-- Split, done: the tree of the program; joined again, the entries are as they were. -/
theorem split_back {g i : Nat} {x : X} {step : Int} (hg : Good L) (hg4 : g < 4096) (hi : L[i]? = some x) (hc : Cov x g) (hk : x.k ≠ 0) (ho : okS x.v step) (hg1 : Good (pcs x step 8 (dl i 1 L))) :
    ∃ (j n : Nat) (Y : Nat → X), n < 8 ∧ (pcs x step 8 (dl i 1 L))[j]? = some (pc x step n) ∧ Cov (pc x step n) g ∧ ∃ i0, Row8 (pcs x step 8 (dl i 1 L)) i0 (x.k - 1) (g / 8 ^ (x.k - 1 + 1)) Y ∧ AlkY Y ∧ ins ⟨(Y 0).p, x.k - 1 + 1, (Y 0).v, (Y 0).a, (Y 0).b, (Y 0).c⟩ (dl i0 8 (pcs x step 8 (dl i 1 L))) = L := by
  have hx := List.mem_of_getElem? hi
  have hxo := hg.1 x hx
  have hq := (hxo.cov g).1 hc
  have k1 : x.k - 1 + 1 = x.k := by omega
  have hP := fun n (hn : n < 8) => pc_range (step := step) hxo hk hn
  have hm : ∀ y, y ∈ pcs x step 8 (dl i 1 L) ↔ (∃ j, j < 8 ∧ y = pc x step j) ∨ (y ∈ L ∧ y ≠ x) := fun y => pcs_mem.trans (or_congr_right (dl1_mem hg hi))
  have hd : g / 8 ^ (x.k - 1) / 8 = x.p / 8 ^ x.k := by rw [← div_step, k1, hq]
  have hn8 : g / 8 ^ (x.k - 1) % 8 < 8 := by omega
  obtain ⟨j, hj⟩ := List.mem_iff_getElem?.1 ((hm (pc x step (g / 8 ^ (x.k - 1) % 8))).2 (.inl ⟨_, hn8, rfl⟩))
  have hcv : Cov (pc x step (g / 8 ^ (x.k - 1) % 8)) g := ((pc_ok hxo hk ho hn8).cov g).2 (by
    show (pc x step (g / 8 ^ (x.k - 1) % 8)).p / 8 ^ (x.k - 1) = g / 8 ^ (x.k - 1)
    rw [(hP _ hn8).2.1, ← hd]
    omega)
  have hw : ∀ n, n < 8 → Whole (pcs x step 8 (dl i 1 L)) (x.k - 1) (8 * (g / 8 ^ (x.k - 1 + 1)) + n) := fun n hn =>
    ⟨pc x step n, (hm _).2 (.inl ⟨n, hn, rfl⟩), rfl, by rw [k1, ← hq]; exact (hP n hn).1⟩
  obtain ⟨i0, Y, hr⟩ := row8' hg1 hw
  have hY : ∀ n, n < 8 → Y n = pc x step n := fun n hn => Whole.uniq hg1 (List.mem_of_getElem? (hr n hn).1) ((hm _).2 (.inl ⟨n, hn, rfl⟩)) (hr n hn).2.1 (hr n hn).2.2 rfl (by rw [k1, ← hq]; exact (hP n hn).1)
  have hJ : (⟨(Y 0).p, x.k - 1 + 1, (Y 0).v, (Y 0).a, (Y 0).b, (Y 0).c⟩ : X) = x := by
    rw [hY 0 (by omega)]
    unfold pc
    dsimp only
    cases x
    simp at *
    omega
  have hal : AlkY Y := by
    refine ⟨fun n h1 h8 => ?_, fun n h1 h8 => ?_⟩
    · rw [hY n h8, hY (n - 1) (by omega), hY 1 (by omega), hY 0 (by omega)]
      unfold pc
      dsimp only
      match n, h1, h8 with
      | 1, _, _ | 2, _, _ | 3, _, _ | 4, _, _ | 5, _, _ | 6, _, _ | 7, _, _ => first | (simp; done) | (simp; omega)
    · rw [hY n h8, hY 0 (by omega)]
      exact ⟨rfl, rfl, rfl⟩
  refine ⟨j, _, Y, hn8, hj, hcv, i0, hr, hal, ?_⟩
  have k2 : x.k - 1 ≤ 1 := by have := hxo.1; omega
  rw [hJ]
  have hg2 : Good (ins x (dl i0 8 (pcs x step 8 (dl i 1 L)))) := by
    refine (hg1.sub (dl_sub _ _ _)).ins hxo fun y hy => ?_
    obtain ⟨hy, hne⟩ := (dl8_mem hg1 hr).1 hy
    rcases (hm y).1 hy with ⟨n, hn, rfl⟩ | ⟨hy, hnx⟩
    · exact absurd (hY n hn).symm (hne n hn)
    · have hy8 : 0 < 8 ^ y.k := Nat.pow_pos (by decide)
      have hx8 : 0 < 8 ^ x.k := Nat.pow_pos (by decide)
      rcases Nat.lt_or_ge x.p y.p with h1 | h1
      · left
        have : ¬ Cov x y.p := fun hcc => hnx (hg.disj hy hx ⟨Nat.le_refl _, by omega⟩ hcc)
        unfold Cov at this
        omega
      · right
        have : ¬ Cov y x.p := fun hcc => hnx (hg.disj hy hx hcc ⟨Nat.le_refl _, by omega⟩)
        unfold Cov at this
        omega
  refine Good.ext hg2 hg fun y => ?_
  rw [ins_mem, dl8_mem hg1 hr, hm]
  constructor
  · rintro (rfl | ⟨⟨n, hn, rfl⟩ | ⟨hy, _⟩, hne⟩)
    · exact hx
    · exact absurd (hY n hn).symm (hne n hn)
    · exact hy
  · intro hy
    by_cases e : y = x
    · exact .inl e
    · refine .inr ⟨.inr ⟨hy, e⟩, fun n hn e2 => e ?_⟩
      rw [hY n hn] at e2
      subst e2
      exact slot_uniq hg hx hc hy (by show x.k - 1 ≤ x.k; omega) (by rw [(hP n hn).2.2.1, hq])
end


section
variable {t r : Nat} {σ : St} {L : List X}
def GetG (t : Nat) (σ : St) (L : List X) (page a b1 b2 d : Int) : Prop := ∀ w F, Hp w t σ ((L.length : Nat) : Int) ((cntN σ.N : Nat) : Int) F → Calls Try.prog 20 #[.pointer (some ⟨t, 0, none⟩), .int .i64 page] w fun e w' => e = .returned (.tuple #[.int .i64 a, .agg #[.int .i64 b1, .int .i64 b2], .int .i64 d]) ∧ Below w.heap.size w w'
theorem sp_cases (page step : Int) (hab : Ab σ L) (hg : Good L) : (∃ c a b1 b2 d, c ≠ 0 ∧ GetG t σ L page a b1 b2 d ∧ PDo 21 #[.pointer (some ⟨t, 0, none⟩), .int .i64 page, .int .i64 step] (.int .i64 c) t σ L L) ∨ (∃ (g i : Nat) (x : X), page = (g : Nat) ∧ g < 4096 ∧ L[i]? = some x ∧ Cov x g ∧ x.k ≠ 0 ∧ okS x.v step) := by
  rcases pg_cases L page with h | ⟨g, rfl, hg4, hn⟩ | ⟨g, i, x, rfl, hg4, hi, hc⟩
  · exact .inl ⟨3, 0, 0, 0, 3, by decide, fun w F _ => Get_out page t w h, PDo.of hab fun w F hp => Split_out page step t w h⟩
  · exact .inl ⟨6, 0, 0, 0, 6, by decide, fun w F hp => Get_nf g t σ L _ _ F w hg4 hp hab hg hn, PDo.of hab fun w F hp => Split_nf g t step σ _ _ F w hg4 hp (hab.nf hg hg4 hn)⟩
  · have hx := List.mem_of_getElem? hi
    obtain ⟨l, e, hA, hE⟩ := hab.at_ hg hx hg4 hc
    have hv := hab.val hg hx hc
    have hvb : -1152921504606846976 ≤ σ.V x.k (g / 8 ^ x.k) ∧ σ.V x.k (g / 8 ^ x.k) ≤ 1152921504606846976 := by rw [hv]; exact (hg.1 x hx).2.2.2
    have hG : GetG t σ L (g : Nat) x.v ((x.p : Nat) : Int) (3 * ((x.k : Nat) : Int)) 0 := fun w F hp => Get_is g t σ L _ _ F w hg4 hp hab hg hx hc
    by_cases hk : x.k = 0
    · exact .inl ⟨2, _, _, _, _, by decide, hG, PDo.of hab fun w F hp => Split_zero g t step σ _ _ F x.k e l w hg4 hp hA hE hk⟩
    · by_cases ho : okS x.v step
      · exact .inr ⟨g, i, x, rfl, hg4, hi, hc, hk, ho⟩
      · exact .inl ⟨3, _, _, _, _, by decide, hG, PDo.of hab fun w F hp => Split_rng g t step σ _ _ F x.k e l w hg4 hp hA hE hk hvb (by rw [hv]; exact ho)⟩
theorem sp_ok {g i : Nat} {x : X} {step : Int} (hab : Ab σ L) (hg : Good L) (hg4 : g < 4096) (hi : L[i]? = some x) (hc : Cov x g) (hk : x.k ≠ 0) (ho : okS x.v step) :
    Good (pcs x step 8 (dl i 1 L)) ∧ PDo 21 #[.pointer (some ⟨t, 0, none⟩), .int .i64 (g : Nat), .int .i64 step] (.int .i64 0) t σ L (pcs x step 8 (dl i 1 L)) := by
  have hx := List.mem_of_getElem? hi
  obtain ⟨l, e, hA, hE⟩ := hab.at_ hg hx hg4 hc
  have hv := hab.val hg hx hc
  have hvb : -1152921504606846976 ≤ σ.V x.k (g / 8 ^ x.k) ∧ σ.V x.k (g / 8 ^ x.k) ≤ 1152921504606846976 := by rw [hv]; exact (hg.1 x hx).2.2.2
  refine ⟨(hab.split (c := 0) hg hi hc hk ho hg4).1, fun w F hp => ?_⟩
  refine (Split_ok g t step σ _ _ F x.k e l w hg4 hp hA hE hk hvb (by rw [hv]; exact ho) (fun n hn => ?_) (bounds hg σ)).mono ?_
  · cases hb : σ.bel (x.k - 1) (8 * (g / 8 ^ x.k) + n) with
    | none => rfl
    | some b =>
      exfalso
      unfold St.bel at hb
      by_cases h0 : x.k - 1 = 0
      · rw [if_pos h0] at hb; cases hb
      · rw [if_neg h0] at hb
        obtain ⟨_, y, hy, h1, h2⟩ := (hab.n _ _).1 ⟨b, hb⟩
        rw [show x.k - 1 - 1 + 1 = x.k - 1 from by omega] at h2
        have : y.p / 8 ^ x.k = g / 8 ^ x.k := by rw [show x.k = x.k - 1 + 1 from by omega, div_step, h2]; rw [show x.k - 1 + 1 = x.k from by omega]; omega
        have := slot_uniq hg hx hc hy (by omega) this
        subst this
        omega
  · rintro _ w' ⟨rfl, c, h1, h2⟩
    obtain ⟨_, a2, a3⟩ := hab.split (c := c) hg hi hc hk ho hg4
    rw [hv] at h1
    refine ⟨rfl, _, _, h2, ?_, a2⟩
    have e1 : (((pcs x step 8 (dl i 1 L)).length : Nat) : Int) = ((L.length : Nat) : Int) + 7 := by
      have := (List.getElem?_eq_some_iff.1 hi).1
      rw [pcs_length, dl_length (by omega)]
      omega
    rw [e1, a3, Int.natCast_add]
    exact h1
theorem blk2s {w : World} {b : Nat} {u v : Value} (hz : w.heap[b]? = some (.cells #[u, v] 29 (0, 0))) : w.cell? ⟨b, 0, none⟩ = some u ∧ w.cell? ⟨b, 1, none⟩ = some v := ⟨cell_of_row _ _ 0 _ 29 _ hz, cell_of_row _ _ 1 _ 29 _ hz⟩
theorem wr4 {a p : Int} (h : 0 ≤ p ∧ p ≤ 448) (h1 : 0 ≤ a ∧ a < 4096) : IntKind.i64.wrap p = p ∧ IntKind.i64.wrap (a + p) = a + p := by
  rw [IntKind.wrap_i64, IntKind.wrap_i64]; omega
theorem wr5 {o : Int} (h : 3 ≤ o ∧ o ≤ 6) : IntKind.i64.wrap (o - 3) = o - 3 ∧ wrap64 (o - 3) = o - 3 := ⟨by rw [IntKind.wrap_i64]; omega, IntWalk.wrap64_in _ (by omega)⟩
theorem wr6 {v p : Int} (h : -9223372036854775808 ≤ p ∧ p ≤ 9223372036854775807 ∧ -9223372036854775808 ≤ v + p ∧ v + p ≤ 9223372036854775807) : wrap64 p = p ∧ wrap64 (v + p) = v + p := ⟨IntWalk.wrap64_in _ ⟨h.1, h.2.1⟩, IntWalk.wrap64_in _ h.2.2⟩
set_option maxRecDepth 100000 in
set_option maxHeartbeats 16000000 in
theorem splits_law (ao : Option Addr) (len cap : Nat) (z : Nat → Ac) (page step : Int) (w : World) (hlc : len ≤ cap) (hcm : cap ≤ maxLen) (hA : Acts w ao len z) : Calls Try.prog 6 #[.slice ao len cap, .int .i64 page, .int .i64 step] w fun e w' => e = .returned (.bool true) ∧ Below w.heap.size w w' := by
  go_enter Try.func6, Try.ntmps6
  go_wp2_with fail
  refine (made_any ao len cap z w hlc hcm hA).mono ?_
  rintro e w1 ⟨t, r, σ, L, F, G, rfl, hm, hb⟩
  have HM := Lib.hid (And.intro hm hb)
  clear hA hm hb
  go_upto_region 4 with (go_at_call 10; refine (awake_any w1).mono ?_; rintro e w2 ⟨rfl, hb2⟩; have HB2 := Lib.hid hb2; clear hb2)
  have HT := Lib.hid (And.intro (HM.out.1.1.below HB2.out) (And.intro (HM.out.2.trans (HB2.out.mono HM.out.2.size)) HM.out.1.2))
  clear HM HB2
  clear hlc hcm
  rcases sp_cases (t := t) page step HT.out.1.ab HT.out.1.gd with ⟨c, a, b1, b2, d, hc0, hG, hS⟩ | ⟨g, i, x, rfl, hg4, hi, hc, hk, ho⟩
  · have HS := Lib.hid (And.intro hG hS)
    have hcb : (c != 0) = true := bne_iff_ne.2 hc0
    clear hG hS
    go_upto_region 5 with (go_at_call 20; refine (HS.out.1 w2 F HT.out.1.hp).mono ?_; rintro e w3 ⟨rfl, hb3⟩; have HB3 := Lib.hid hb3; clear hb3)
    have hA3 : Below w2.heap.size w2 (w3.alloc (.cells #[.int .i64 b1, .int .i64 b2] 29)) := HB3.out.alloc HB3.out.size _
    have HT4 := Lib.hid (And.intro (HT.out.1.below hA3) (HT.out.2.1.trans (hA3.mono HT.out.2.1.size)))
    clear hA3
    generalize w3.alloc (.cells #[.int .i64 b1, .int .i64 b2] 29) = w4 at *
    generalize w3.heap.size = B3 at *
    go_upto_region 6 with (go_at_call 21; refine (HS.out.2 w4 F HT4.out.1.hp).mono ?_; rintro e w5 ⟨rfl, F1, σ1, hca, hka, haba⟩)
    have HF := Lib.hid (HT4.out.1.fin hca hka haba HT4.out.1.gd (Chg.refl _ _) (HT4.out.1.rt.chg hca HT4.out.1.sep.symm))
    have HB5 := Lib.hid (HT4.out.2.trans (HF.out.2.below HT.out.2.2 HT4.out.2.size))
    clear hca hka haba
    go_wp2_with (go_at_call 22; refine (same_any t r σ1 L F1 G w5 HF.out.1).mono ?_; rintro e w6 ⟨rfl, hb6⟩; have HB6 := Lib.hid hb6; clear hb6)
    go_ret
    exact ⟨rfl, HB5.out.trans (HB6.out.mono HB5.out.size)⟩
  · have hx := List.mem_of_getElem? hi
    have hxo := HT.out.1.gd.1 x hx
    have HG := Lib.hid (fun W (hp : Hp W t σ ((L.length : Nat) : Int) ((cntN σ.N : Nat) : Int) F) => Get_is g t σ L _ _ F W hg4 hp HT.out.1.ab HT.out.1.gd hx hc)
    have HS := Lib.hid (sp_ok (t := t) HT.out.1.ab HT.out.1.gd hg4 hi hc hk ho)
    have HSB := Lib.hid (split_back (step := step) HT.out.1.gd hg4 hi hc hk ho HS.out.1)
    have HPC := Lib.hid (fun n (hn : n < 8) => (show pc x step n ∈ pcs x step 8 (dl i 1 L) from pcs_mem.2 (.inl ⟨n, hn, rfl⟩)))
    have HXO := Lib.hid (And.intro hxo (And.intro hk (And.intro ho hg4)))
    obtain ⟨ko, hko⟩ : ∃ ko, 3 * ((x.k : Nat) : Int) = ko := ⟨_, rfl⟩
    have HKO := Lib.hid (show ko = 3 * ((x.k : Nat) : Int) ∧ 3 ≤ ko ∧ ko ≤ 6 by have := hxo.1; omega)
    simp only [hko] at HG
    clear hx hxo hi hc hk ho hko
    go_upto_region 5 with (go_at_call 20; refine (HG.out w2 HT.out.1.hp).mono ?_; rintro e w3 ⟨rfl, hb3⟩; have HB3 := Lib.hid hb3; clear hb3)
    have hA3 : Below w2.heap.size w2 (w3.alloc (.cells #[.int .i64 ((x.p : Nat) : Int), .int .i64 ko] 29)) := HB3.out.alloc HB3.out.size _
    have HY := Lib.hid (blk2s (heap_alloc_new w3 (.cells #[.int .i64 ((x.p : Nat) : Int), .int .i64 ko] 29)))
    have HBF := Lib.hid (fun hm => Nat.lt_irrefl _ (Nat.lt_of_lt_of_le (HT.out.1.hp.lt _ hm) HB3.out.size) : w3.heap.size ∉ F)
    have HT4 := Lib.hid (And.intro (HT.out.1.below hA3) (HT.out.2.1.trans (hA3.mono HT.out.2.1.size)))
    clear hA3
    generalize w3.alloc (.cells #[.int .i64 ((x.p : Nat) : Int), .int .i64 ko] 29) = w4 at *
    generalize w3.heap.size = B3 at *
    go_upto_region 6 with (go_at_call 21; refine (HS.out.2 w4 F HT4.out.1.hp).mono ?_; rintro e w5 ⟨rfl, F1, σ1, hca, hka, haba⟩)
    have HY5 := Lib.hid (And.intro (hca.cell HY.out.1 HBF.out) (hca.cell HY.out.2 HBF.out))
    have HP5 := Lib.hid (And.intro hka (And.intro haba (And.intro (HT4.out.1.rt.chg hca HT4.out.1.sep.symm) (hca.sep HT4.out.1.sep HT4.out.1.rt.lt))))
    have HN5 := Lib.hid (And.intro (HT4.out.2.trans (hca.below (fun b hb => HT.out.2.2 b (by simp [hb])) HT4.out.2.size)) (hca.ge (fun b hb => HT.out.2.2 b (by simp [hb])) HT4.out.2.size))
    clear hca hka haba
    go_wp2_with fail
    go_loopw [14] (fun s wr => ∃ (n : Nat), n ≤ 8 ∧ s = .int .i64 (n : Nat) ∧ RowKit.Hid (Below w5.heap.size w5 wr)) (fun s _ => 8 - (intOf s).toNat)
    case atStart => exact ⟨0, by omega, rfl, Lib.hid (Below.refl _ _)⟩
    case round =>
      obtain ⟨n, hn8, rfl, HL⟩ := hrel
      by_cases hn : n < 8
      · have hnI : ((n : Nat) : Int) < 8 := by omega
        have hxo := HXO.out.1
        have hpr := pc_range (step := step) hxo HXO.out.2.1 hn
        have hpo := pc_ok (step := step) hxo HXO.out.2.1 HXO.out.2.2.1 hn
        have HGT := Lib.hid (fun W (hb : Below wr.heap.size wr W) => Get_is (pc x step n).p t σ1 (pcs x step 8 (dl i 1 L)) _ _ F1 W hpo.lt ((HP5.out.1.below HL.out).below hb) HP5.out.2.1 HS.out.1 (HPC.out n hn) ⟨Nat.le_refl _, Nat.lt_add_of_pos_right (Nat.pow_pos (by decide))⟩)
        have HSZ := Lib.hid (fun W => siz_at (show x.k - 1 ≤ 2 by have := hxo.1; omega) W)
        have hs64 : 8 ^ (x.k - 1) ≤ 64 := by have := hxo.1; rcases k3 (show x.k - 1 ≤ 2 by omega) with e | e | e <;> rw [e] <;> decide
        have hpv : (pc x step n).p = x.p + n * 8 ^ (x.k - 1) := rfl
        have hkk : 3 * (((pc x step n).k : Nat) : Int) = ko - 3 := by show 3 * ((x.k - 1 : Nat) : Int) = ko - 3; have := HKO.out; omega
        have hkk2 : 3 * ((x.k - 1 : Nat) : Int) = ko - 3 := by have := HKO.out; omega
        have hpl := hpo.lt
        have hxl := hxo.lt
        obtain ⟨q1, q2⟩ := wr5 HKO.out.2
        have hmb := mul_bound HXO.out.2.2.1 hn hxo.2.2.2.1 hxo.2.2.2.2
        obtain ⟨q3, q4⟩ := wr6 hmb
        have hvv : (pc x step n).v = x.v + ((n : Nat) : Int) * step := rfl
        rw [hkk2] at HSZ
        simp only [hkk, hvv] at HGT
        generalize 8 ^ (x.k - 1) = s1 at *
        obtain ⟨pk, hpk⟩ : ∃ pk, (pc x step n).p = pk := ⟨_, rfl⟩
        rw [hpk] at HGT hpv hpl
        have hns : n * s1 ≤ 7 * 64 := Nat.mul_le_mul (by omega) hs64
        obtain ⟨q5, q6'⟩ := wr4 (a := ((x.p : Nat) : Int)) (p := ((n : Nat) : Int) * ((s1 : Nat) : Int)) (by rw [← Int.natCast_mul]; omega) (by omega)
        have q6 : IntKind.i64.wrap (((x.p : Nat) : Int) + ((n : Nat) : Int) * ((s1 : Nat) : Int)) = ((pk : Nat) : Int) := by rw [q6', hpv, Int.natCast_add, Int.natCast_mul]
        clear hxo hpr hpo hs64 hpv hkk hkk2 hpl hxl hmb hvv hpk hns q6'
        obtain ⟨vk, hvk⟩ : ∃ vk, x.v + ((n : Nat) : Int) * step = vk := ⟨_, rfl⟩
        replace q4 := q4.trans hvk
        simp only [hvk] at HGT
        clear hvk
        have e0 := cell_keep HL.out HY5.out.1
        have e1 := cell_keep HL.out HY5.out.2
        have hD : Below wr.heap.size wr wr.drew := (Below.refl _ _).drew
        have HD := Lib.hid (And.intro hD (hD.alloc (Nat.le_refl _) (.cells #[.int .i64 0, .int .i64 0] 29)))
        have HZ := Lib.hid (new29 wr)
        have n1 : B3 ≠ wr.heap.size := by have := World.block_lt_of_cell? wr _ e0; simp at this; omega
        have HE := Lib.hid (And.intro e0 e1)
        clear hD
        go_upto_region 11 with fail
        go_cut [15, 16, 17] from 50 to 64 (fun s15 s16 s17 wx => s15 = .int .i64 vk ∧ s17 = .int .i64 0 ∧ ∃ W : World, W = wx ∧ ∃ B : Nat, s16 = .pointer (some ⟨B, 0, none⟩) ∧ RowKit.Hid (W.cell? ⟨B, 0, none⟩ = some (.int .i64 (pk : Nat)) ∧ W.cell? ⟨B, 1, none⟩ = some (.int .i64 (ko - 3)) ∧ Below wr.heap.size wr W ∧ True))
        case first =>
          go_region_held3 (fun w' => w'.cell? ⟨B3, 0, none⟩ = some (.int .i64 (x.p : Nat)) ∧ w'.cell? ⟨B3, 1, none⟩ = some (.int .i64 ko)) (first | exact ⟨ha5, hbs⟩ | exact ⟨cell_alloc ha5 _, cell_alloc hbs _⟩ | exact ⟨cell_far ha5 n1, cell_far hbs n1⟩ | exact ⟨e0, e1⟩ | exact ⟨cell_alloc e0 _, cell_alloc e1 _⟩ | go_keep) (first
            | (go_at_call 14; refine (HSZ.out _).mono ?_; rintro e w9 ⟨rfl, rfl⟩)
            | (go_at_call 20; refine Calls.mono (HGT.out _ HD.out.1) ?_; rintro e w6 ⟨rfl, hb5⟩; have ha5 := cell_keep hb5 (cell_keep HD.out.1 e0); have hbs := cell_keep hb5 (cell_keep HD.out.1 e1))
            | (go_at_call 20; refine Calls.mono (HGT.out _ HD.out.2) ?_; rintro e w6 ⟨rfl, hb5⟩; have ha5 := cell_keep hb5 (cell_keep HD.out.2 e0); have hbs := cell_keep hb5 (cell_keep HD.out.2 e1); have z0 := cell_keep hb5 HZ.out.1; have z1 := cell_keep hb5 HZ.out.2.1; have zf0 := (hb5.frozen HZ.out.2.2.2.2).trans HZ.out.2.2.1; have zf1 := (hb5.frozen HZ.out.2.2.2.2).trans HZ.out.2.2.2.1))
          all_goals (
            go_wp2_with fail
            go_meet
            case rel =>
              first
                | exact ⟨rfl, rfl, _, rfl, _, rfl, Lib.hid (mk_alloc HD.out.1 hb5 trivial)⟩
                | exact ⟨rfl, rfl, _, rfl, _, rfl, Lib.hid (mk_set HD.out.2 hb5 z0 z1 (Nat.le_refl _) trivial)⟩)
        case rest =>
          obtain ⟨rfl, rfl, W, hW, B, rfl, HB⟩ := hcut
          subst hW
          have z0 := HB.out.1
          have z1 := HB.out.2.1
          have e0 := cell_keep HB.out.2.2.1 HE.out.1
          have e1 := cell_keep HB.out.2.2.1 HE.out.2
          clear n1 q5 q6 q1
          go_wp2_with fail
          exact ⟨⟨n + 1, hn, by simp, Lib.hid (HL.out.trans (HB.out.2.2.1.mono HL.out.size))⟩, by simp [intOf]; omega⟩
      · obtain rfl : n = 8 := by omega
        obtain ⟨j, m, Y, hm8, hj, hcv, i0, hrow, hal, hback⟩ := HSB.out
        have hkm : (pc x step m).k ≤ 1 := by have h1 := HXO.out.1.1; show x.k - 1 ≤ 1; omega
        have HJ := Lib.hid (join_ok (t := t) HP5.out.2.1 HS.out.1 HXO.out.2.2.2 hj hcv hkm hrow hal wr F1 (HP5.out.1.below HL.out))
        rw [show (ins ⟨(Y 0).p, (pc x step m).k + 1, (Y 0).v, (Y 0).a, (Y 0).b, (Y 0).c⟩ (dl i0 8 (pcs x step 8 (dl i 1 L)))) = L from hback] at HJ
        clear hm8 hj hcv hrow hal hback hkm
        go_wp2_with (first | (go_at_call 23; refine HJ.out.mono ?_; rintro e w6 ⟨rfl, F2, σ2, hcj, hkj, habj⟩; have HTJ := Lib.hid (show Tw w6 t r σ2 L F2 G from ⟨hkj, (HP5.out.2.2.1.below HL.out).chg hcj HP5.out.2.2.2.symm, habj, HT.out.1.gd, hcj.sep HP5.out.2.2.2 (HP5.out.2.2.1.below HL.out).lt⟩); have HCJ := Lib.hid hcj; clear hcj hkj habj) | (go_at_call 22; refine (same_any t r σ2 L F2 G w6 HTJ.out).mono ?_; rintro e w7 ⟨rfl, hb7⟩; have HB7 := Lib.hid hb7; clear hb7))
        go_ret
        have hb1 := HN5.out.1.trans (HL.out.mono HN5.out.1.size)
        have hb2 := hb1.trans (HCJ.out.below HN5.out.2 hb1.size)
        exact ⟨rfl, hb2.trans (HB7.out.mono hb2.size)⟩
end

end Go.Proofs.Ytdnnfoojdfmajaa

/- Parts of the proofs of layer 20 (regions): contracts of its functions, and the laws' walks. -/
import Derived.Test.YtnakmjajpfilgaaProg
import Derived.WalkKit
import Derived.WalkSpells
import Derived.WalkLawsBesides
import Derived.BigQuiet
import Derived.Deep.QuietTactic
import Derived.Lib.Hide
import Derived.Deep.RegionHeld3
import Derived.Deep.DeepCutAuto
import Derived.KernelRfl
import Derived.Deep.OwnRows
import Derived.Laws.CopyOwn
import Derived.Laws.CopyRow
import Derived.StillTailTactics
import Derived.Deep.RegionLaw
import Derived.Test.YtnakmjajpfilgaaD10
namespace Go.Proofs.Ytnakmjajpfilgaa
open Go.RowKit
set_option linter.unusedVariables false
set_option linter.unusedSimpArgs false

theorem good_length {hi : Int} : ∀ {l : List R2} {lo : Int}, Good lo hi l → (l.length : Int) ≤ max 0 (hi - lo)
  | [], _, _ => by show (0 : Int) ≤ _; omega
  | r :: l, lo, g => by
    have := good_length g.2.2.2
    have := g.1
    have := g.2.1
    have := g.2.2.1
    rw [List.length_cons]
    omega
def InR (l : List R2) : Prop := ∀ r ∈ l, 0 ≤ r.a ∧ r.a ≤ 65536 ∧ 0 ≤ r.b ∧ r.b ≤ 65536
/-- What both say is the same. -/
def Rel (l q : List R2) (f : Nat → Bool) (q2 : List R2) : Prop := Good 0 65536 l ∧ (∀ i : Nat, f i = inB l (i : Int)) ∧ q.Perm q2 ∧ InR q
theorem Rel.nil : Rel [] [] (fun _ => false) [] := ⟨trivial, fun i => by cases h : inB [] (i : Int) with | false => rfl | true => exact absurd ((inB_iff _ _).1 h) (mem_nil _), List.Perm.refl _, fun r h => by simp at h⟩
theorem Good.inr {l : List R2} (g : Good 0 65536 l) : InR l := fun r hr => by have := g.mem r hr; omega
theorem Rel.lenl {l q : List R2} {f : Nat → Bool} {q2 : List R2} (r : Rel l q f q2) : l.length ≤ 65536 := by
  have := good_length r.1
  omega
theorem Rel.cnt {l q : List R2} {f : Nat → Bool} {q2 : List R2} (r : Rel l q f q2) {a b : Int} (ha : 0 ≤ a) (hb : b ≤ 65536) : cntL l ⟨a, b⟩ = rcnt f a b := by
  unfold rcnt
  exact cntL_all r.1 ⟨a, b⟩ ha r.2.1 65536 hb
theorem Rel.askn {l q : List R2} {f : Nat → Bool} {q2 : List R2} (r : Rel l q f q2) (a b : Int) : askn l a b = raskn f a b := by
  unfold Go.Proofs.Ytnakmjajpfilgaa.askn raskn
  by_cases h : wrg a b = 0
  · have := wrg_ok h
    rw [if_pos h, if_pos h, r.cnt (by omega) (by omega)]
  · rw [if_neg h, if_neg h]
theorem Rel.ask {l q : List R2} {f : Nat → Bool} {q2 : List R2} (r : Rel l q f q2) (a b : Int) : Rel l (askq q a b) f (askq q2 a b) := by
  unfold askq
  by_cases h : wrg a b = 0
  · rw [if_pos h, if_pos h]
    refine ⟨r.1, r.2.1, r.2.2.1.append_right _, fun t ht => ?_⟩
    rcases List.mem_append.1 ht with ht | ht
    · exact r.2.2.2 t ht
    · simp at ht
      subst ht
      have := wrg_ok h
      exact ⟨by show 0 ≤ a; omega, by show a ≤ 65536; omega, by show 0 ≤ b; omega, by show b ≤ 65536; omega⟩
  · rw [if_neg h, if_neg h]; exact r
theorem Rel.done {l q : List R2} {f : Nat → Bool} {q2 : List R2} (r : Rel l q f q2) (a b : Int) : done q a b = done q2 a b := by
  unfold Go.Proofs.Ytnakmjajpfilgaa.done
  have : hasq q ⟨a, b⟩ = hasq q2 ⟨a, b⟩ := by
    rw [Bool.eq_iff_iff, hasq_iff, hasq_iff]
    exact r.2.2.1.mem_iff
  rw [this]
theorem Rel.rest {l q : List R2} {f : Nat → Bool} {q2 q2' : List R2} (r : Rel l q f q2) (a b : Int) (h : Rest q2 a b q2') : (doneq q a b).Perm q2' ∧ InR (doneq q a b) := by
  unfold Rest at h
  rw [← r.done a b] at h
  by_cases hd : Go.Proofs.Ytnakmjajpfilgaa.done q a b = 0
  · rw [if_pos hd] at h
    have hw := done_wrg hd
    have hh : hasq q ⟨a, b⟩ = true := by
      unfold Go.Proofs.Ytnakmjajpfilgaa.done at hd
      rw [if_pos hw] at hd
      by_cases hh : hasq q ⟨a, b⟩ = true
      · exact hh
      · rw [if_neg hh] at hd; cases hd
    have he : doneq q a b = era q ⟨a, b⟩ := by unfold doneq; rw [if_pos ⟨hw, hh⟩]
    have hp := era_perm ((hasq_iff _ _).1 hh)
    rw [he]
    refine ⟨((hp.trans r.2.2.1).trans h.symm).cons_inv, fun t ht => r.2.2.2 t (hp.subset (by simp [ht]))⟩
  · rw [if_neg hd] at h
    have he : doneq q a b = q := by
      unfold doneq
      rw [if_neg]
      rintro ⟨h1, h2⟩
      exact hd (by unfold Go.Proofs.Ytnakmjajpfilgaa.done; rw [if_pos h1, if_pos h2])
    rw [he, h]
    exact ⟨r.2.2.1, r.2.2.2⟩
theorem bool_iff {x y : Bool} (h : x = true ↔ y = true) : x = y := by rw [Bool.eq_iff_iff]; exact h
theorem inI_iff (a b : Int) (i : Nat) : inI a b i = true ↔ a ≤ (i : Int) ∧ (i : Int) < b := by unfold inI; rw [Bool.and_eq_true, decide_eq_true_eq, decide_eq_true_eq]
theorem Rel.add {l q : List R2} {f : Nat → Bool} {q2 q2' : List R2} (r : Rel l q f q2) (a b : Int) (h : Rest q2 a b q2') : Rel (addl l q a b) (doneq q a b) (addf f q2 a b true) q2' := by
  obtain ⟨h1, h2⟩ := r.rest a b h
  have hd := r.done a b
  refine ⟨?_, fun i => ?_, h1, h2⟩
  · unfold addl
    by_cases c : Go.Proofs.Ytnakmjajpfilgaa.done q a b = 0 ∧ a ≠ b
    · rw [if_pos c]
      have := wrg_ok (done_wrg c.1)
      exact good_addL l _ _ r.1 (by show 0 ≤ a; omega) (by show a < b; omega) (by show b ≤ 65536; omega)
    · rw [if_neg c]; exact r.1
  · unfold addf addl
    rw [← hd, r.2.1 i]
    apply bool_iff
    rw [Bool.or_eq_true, Bool.and_eq_true, Bool.true_and, decide_eq_true_eq, inI_iff, inB_iff, inB_iff]
    by_cases c : Go.Proofs.Ytnakmjajpfilgaa.done q a b = 0 ∧ a ≠ b
    · have := wrg_ok (done_wrg c.1)
      rw [if_pos c, mem_addL (i : Int) l ⟨a, b⟩ 0 r.1 (by show a < b; omega)]
      exact ⟨fun q => q.imp id fun q => q.2, fun q => q.imp id fun q => ⟨c.1, q⟩⟩
    · rw [if_neg c]
      constructor
      · rintro (q | ⟨q1, q2, q3⟩)
        · exact q
        · exact absurd ⟨q1, by omega⟩ c
      · exact .inl
theorem Rel.abort {l q : List R2} {f : Nat → Bool} {q2 q2' : List R2} (r : Rel l q f q2) (a b : Int) (h : Rest q2 a b q2') : Rel l (doneq q a b) (addf f q2 a b false) q2' := by
  obtain ⟨h1, h2⟩ := r.rest a b h
  refine ⟨r.1, fun i => ?_, h1, h2⟩
  unfold addf
  rw [Bool.false_and, Bool.false_and, Bool.or_false]
  exact r.2.1 i
theorem Rel.addn {l q : List R2} {f : Nat → Bool} {q2 : List R2} (r : Rel l q f q2) (a b : Int) : addn l q a b = rdonen f q2 a b true := by
  unfold Go.Proofs.Ytnakmjajpfilgaa.addn rdonen
  rw [← r.done a b]
  by_cases c : Go.Proofs.Ytnakmjajpfilgaa.done q a b = 0
  · have := wrg_ok (done_wrg c)
    rw [if_pos c, if_pos ⟨rfl, c⟩, r.cnt (by omega) (by omega)]
  · rw [if_neg c, if_neg (fun q => c q.2)]
theorem dele_wrg {q : List R2} {a b : Int} (h : dele q a b = 0) : wrg a b = 0 := by
  unfold dele at h
  split at h
  · assumption
  · cases h
theorem Rel.dele {l q : List R2} {f : Nat → Bool} {q2 : List R2} (r : Rel l q f q2) (a b : Int) : dele q a b = dele q2 a b := by
  unfold Go.Proofs.Ytnakmjajpfilgaa.dele
  have : busy q ⟨a, b⟩ = busy q2 ⟨a, b⟩ := by
    rw [Bool.eq_iff_iff, busy_iff, busy_iff]
    exact ⟨fun ⟨t, h1, h2⟩ => ⟨t, r.2.2.1.mem_iff.1 h1, h2⟩, fun ⟨t, h1, h2⟩ => ⟨t, r.2.2.1.mem_iff.2 h1, h2⟩⟩
  rw [this]
theorem Rel.deln {l q : List R2} {f : Nat → Bool} {q2 : List R2} (r : Rel l q f q2) (a b : Int) : deln l q a b = rdeln f q2 a b := by
  unfold Go.Proofs.Ytnakmjajpfilgaa.deln rdeln
  rw [← r.dele a b]
  by_cases c : Go.Proofs.Ytnakmjajpfilgaa.dele q a b = 0
  · have := wrg_ok (dele_wrg c)
    rw [if_pos c, if_pos c, r.cnt (by omega) (by omega)]
  · rw [if_neg c, if_neg c]
theorem Rel.del {l q : List R2} {f : Nat → Bool} {q2 : List R2} (r : Rel l q f q2) (a b : Int) : Rel (dell l q a b) q (delf f q2 a b) q2 := by
  refine ⟨?_, fun i => ?_, r.2.2.1, r.2.2.2⟩
  · unfold dell
    split
    · exact good_delL _ l _ r.1
    · exact r.1
  · unfold delf dell
    rw [← r.dele a b, r.2.1 i]
    apply bool_iff
    rw [Bool.and_eq_true, Bool.not_eq_true', inB_iff, inB_iff]
    by_cases c : Go.Proofs.Ytnakmjajpfilgaa.dele q a b = 0
    · have := wrg_ok (dele_wrg c)
      rw [if_pos c, mem_delL ⟨a, b⟩ (i : Int) (by show a ≤ b; omega), decide_eq_true c, Bool.true_and]
      constructor
      · rintro ⟨q1, q2⟩
        exact ⟨q1, fun q3 => by rw [(inI_iff a b i).2 q3] at q2; cases q2⟩
      · rintro ⟨q1, q2⟩
        refine ⟨q1, ?_⟩
        cases hh : inI a b i with
        | false => rfl
        | true => exact absurd ((inI_iff a b i).1 hh) q2
    · rw [if_neg c, decide_eq_false c, Bool.false_and]
      exact ⟨fun q => q.1, fun q => ⟨q, rfl⟩⟩
theorem Rel.all {l q : List R2} {f : Nat → Bool} {q2 : List R2} (r : Rel l q f q2) : regs f 65536 = l := regs_eq r.1 r.2.1
/-- Behind an ask that was let, what is added is what was asked. -/
theorem ask_done {q : List R2} {a b : Int} (h : wrg a b = 0) : done (askq q a b) a b = 0 := by
  unfold askq
  rw [if_pos h]
  unfold Go.Proofs.Ytnakmjajpfilgaa.done
  rw [if_pos h, if_pos ((hasq_iff _ _).2 (by simp))]
theorem ask_addn {l q : List R2} {a b : Int} (h : wrg a b = 0) : addn l (askq q a b) a b = askn l a b := by
  unfold addn askn
  rw [if_pos (ask_done h), if_pos h]
theorem askq_length (q : List R2) (a b : Int) : (askq q a b).length ≤ q.length + 1 := by
  unfold askq
  split
  · rw [List.length_append]; exact Nat.le_refl _
  · exact Nat.le_succ _
theorem delf_out {f : Nat → Bool} {q : List R2} {a b : Int} {i : Nat} (h : ¬ (a ≤ (i : Int) ∧ (i : Int) < b)) : delf f q a b i = f i := by
  unfold delf
  cases hh : inI a b i with
  | false => simp
  | true => exact absurd ((inI_iff a b i).1 hh) h
theorem addf_out {f : Nat → Bool} {q : List R2} {a b : Int} {add : Bool} {i : Nat} (h : ¬ (a ≤ (i : Int) ∧ (i : Int) < b)) : addf f q a b add i = f i := by
  unfold addf
  cases hh : inI a b i with
  | false => simp
  | true => exact absurd ((inI_iff a b i).1 hh) h
theorem Rel.has {l q : List R2} {f : Nat → Bool} {q2 : List R2} (r : Rel l q f q2) (n : Nat) (hn : n < 65536) : (cntL l ⟨(n : Int), (n : Int) + 1⟩ = 1) ↔ f n = true := by
  have h1 := cntL_step ⟨(n : Int), (n : Int) + 1⟩ n (by show (0 : Int) ≤ n; omega) l 0 r.1
  have e1 : min ((n : Int) + 1) ((n + 1 : Nat) : Int) = (n : Int) + 1 := by omega
  have e2 : min ((n : Int) + 1) (n : Int) = (n : Int) := by omega
  have h2 : cntL l ⟨(n : Int), (n : Int)⟩ = 0 := cntL_empty l _ (Int.le_refl _)
  dsimp only at h1
  rw [e1, e2, h2] at h1
  rw [h1, r.2.1 n]
  by_cases c : inB l (n : Int) = true
  · rw [if_pos ⟨Int.le_refl _, by omega, c⟩]
    exact ⟨fun _ => c, fun _ => by omega⟩
  · rw [if_neg (fun q => c q.2.2)]
    exact ⟨fun q => by omega, fun q => absurd q c⟩
set_option maxRecDepth 100000 in
set_option maxHeartbeats 8000000 in
theorem awake_any (w : World) : Calls Try.prog 9 #[] w fun e w' => e = .returned (.bool true) ∧ Below w.heap.size w w' := by
  go_enter Try.func9, Try.ntmps9
  go_wp2_with fail
  refine (new_any w).mono ?_
  rintro e w1 ⟨rfl, hb1, hm1⟩
  have HM1 := Lib.hid hm1
  have HC1 : RowKit.Hid (Chg [] [w.heap.size] w w1) := Lib.hid ((Chg.of_below (F := []) hb1).grow (H := [w.heap.size]) (fun x hx => by simp at hx; omega))
  clear hb1 hm1
  go_wp2_with fail
  refine (ask_any _ _ [] [] 3 7 w1 HM1.out (by decide) (by decide) (fun r h => by simp at h)).mono ?_
  rintro e w2 ⟨rfl, F2, hc2, hm2⟩
  have HM2 : RowKit.Hid (Mp w2 w.heap.size F2 [] [⟨3, 7⟩]) := Lib.hid hm2
  have HC2 := Lib.hid (HC1.out.trans hc2)
  rw [show askn [] 3 7 = 4 by decide, show wrg 3 7 = 0 by decide]
  clear hc2 hm2 HM1 HC1
  go_wp2_with fail
  refine (add_any _ F2 [] [⟨3, 7⟩] 3 7 w2 HM2.out (by decide) (by decide) (fun r h => by simp at h)).mono ?_
  rintro e w3 ⟨rfl, F3, hc3, hm3⟩
  have HM3 : RowKit.Hid (Mp w3 w.heap.size F3 [⟨3, 7⟩] []) := Lib.hid hm3
  have HC3 := Lib.hid (HC2.out.trans hc3)
  rw [show addn [] [⟨3, 7⟩] 3 7 = 4 by decide, show done [⟨3, 7⟩] 3 7 = 0 by decide]
  clear hc3 hm3 HM2 HC2
  go_wp2_with fail
  refine (ask_any _ F3 [⟨3, 7⟩] [] 5 9 w3 HM3.out (by decide) (by decide) (fun r h => by simp at h; subst h; decide)).mono ?_
  rintro e w4 ⟨rfl, F4, hc4, hm4⟩
  have HM4 : RowKit.Hid (Mp w4 w.heap.size F4 [⟨3, 7⟩] [⟨5, 9⟩]) := Lib.hid hm4
  have HC4 := Lib.hid (HC3.out.trans hc4)
  rw [show askn [⟨3, 7⟩] 5 9 = 2 by decide, show wrg 5 9 = 0 by decide]
  clear hc4 hm4 HM3 HC3
  go_wp2_with fail
  refine (add_any _ F4 [⟨3, 7⟩] [⟨5, 9⟩] 5 9 w4 HM4.out (by decide) (by decide) (fun r h => by simp at h; subst h; decide)).mono ?_
  rintro e w5 ⟨rfl, F5, hc5, hm5⟩
  have HM5 : RowKit.Hid (Mp w5 w.heap.size F5 [⟨3, 9⟩] []) := Lib.hid hm5
  have HC5 := Lib.hid (HC4.out.trans hc5)
  rw [show addn [⟨3, 7⟩] [⟨5, 9⟩] 5 9 = 2 by decide, show done [⟨5, 9⟩] 5 9 = 0 by decide]
  clear hc5 hm5 HM4 HC4
  go_wp2_with fail
  refine (all_any _ F5 [⟨3, 9⟩] [] w5 HM5.out (by decide)).mono ?_
  rintro e w6 ⟨v, rfl, hv, hc6⟩
  have hb6 := hc6.below (C := w5.heap.size) (fun b hb => by simp at hb) (Nat.le_refl _)
  have HM6 := Lib.hid (HM5.out.below hb6)
  have HC6 := Lib.hid (HC5.out.trans (Chg.of_below hb6))
  obtain ⟨av, cv, rfl, _, _⟩ := hv.slice
  clear hb6 hc6 hv HM5 HC5
  go_wp2_with fail
  refine (has_any _ F5 [⟨3, 9⟩] [] 8 w6 HM6.out (by decide) (fun r h => by simp at h; subst h; decide)).mono ?_
  rintro e w7 ⟨rfl, hb7⟩
  have HM7 := Lib.hid (HM6.out.below hb7)
  have HC7 := Lib.hid (HC6.out.trans (Chg.of_below hb7))
  rw [show decide (0 ≤ (8 : Int) ∧ (8 : Int) < 65536 ∧ cntL [⟨3, 9⟩] ⟨8, 8 + 1⟩ = 1) = true by decide]
  clear hb7 HM6 HC6
  go_wp2_with fail
  refine (has_any _ F5 [⟨3, 9⟩] [] 9 w7 HM7.out (by decide) (fun r h => by simp at h; subst h; decide)).mono ?_
  rintro e w8 ⟨rfl, hb8⟩
  have HC8 := Lib.hid (HC7.out.trans (Chg.of_below hb8))
  rw [show decide (0 ≤ (9 : Int) ∧ (9 : Int) < 65536 ∧ cntL [⟨3, 9⟩] ⟨9, 9 + 1⟩ = 1) = false by decide]
  clear hb8
  go_wp2_with fail
  exact bodyPost_ret (results_tmp rfl _ _ _) rfl ⟨rfl, HC8.out.below (fun b hb => by simp at hb) (Nat.le_refl _)⟩

end Go.Proofs.Ytnakmjajpfilgaa

/- Parts of the proofs of layer 25 (clock): contracts of its functions, and the laws' walks. -/
import Derived.Test.YtehbonhdhblpgaaProg
import Derived.WalkKit
import Derived.WalkSpells
import Derived.WalkLawsBesides
import Derived.BigQuiet
import Derived.Deep.QuietTactic
import Derived.Lib.Hide
import Derived.Deep.RegionHeld3
import Derived.Deep.DeepCutAuto
import Derived.KernelRfl
import Derived.Deep.OwnRows
import Derived.Laws.CopyOwn
import Derived.Laws.CopyRow
import Derived.StillTailTactics
import Derived.Deep.RegionLaw
import Derived.Test.YtehbonhdhblpgaaC5
namespace Go.Proofs.Ytehbonhdhblpgaa
open Go.RowKit
set_option linter.unusedVariables false
set_option linter.unusedSimpArgs false

theorem kc_onecell (l : List K) : ∀ u ∈ kc l, u.oneCell' = true := by
  intro u hu
  simp only [kc, List.mem_flatMap] at hu
  obtain ⟨k, _, hu⟩ := hu
  simp only [K.cs, List.mem_cons, List.not_mem_nil, or_false] at hu
  rcases hu with rfl | rfl | rfl | rfl <;> rfl
theorem kc_drop (l : List K) (n : Nat) (j : Nat) : (kc (l.drop n))[j]? = (kc l)[n * 4 + j]? := by
  by_cases hn : n ≤ l.length
  · conv => rhs; rw [← List.take_append_drop n l, kc_append]
    rw [List.getElem?_append_right (by rw [kc_length, List.length_take]; omega), kc_length, List.length_take]
    congr 1
    omega
  · rw [List.drop_of_length_le (by omega)]
    rw [List.getElem?_eq_none (by simp [kc]), List.getElem?_eq_none (by rw [kc_length]; omega)]
theorem kc_take (l : List K) (n : Nat) (j : Nat) (u : Value) (h : (kc (l.take n))[j]? = some u) : (kc l)[j]? = some u := by
  rw [← List.take_append_drop n l, kc_append]
  rw [List.getElem?_append_left (List.getElem?_eq_some_iff.1 h).1]
  exact h
theorem kc_nil : kc [] = [] := rfl
/-- What l[n:] is made of. -/
theorem rest_cells {w : World} {ao : Option Addr} {cap n : Nat} {ks : List K} (h : Sq w 59 4 (.slice ao ks.length cap) ks.length (kc ks)) (hn : n ≤ ks.length) :
    ((if cap = n then ao else Option.map (fun x => x.add (n * 4)) ao) = none → ks.length - n = 0 ∧ cap - n = 0) ∧
    ∀ a, (if cap = n then ao else Option.map (fun x => x.add (n * 4)) ao) = some a → ∀ j u, (kc (ks.drop n))[j]? = some u → w.cell? (a.add j) = some u := by
  rcases h.cases with ⟨hv, h0⟩ | ⟨b, cap', hv, h1, h2, hbl, hcell, _⟩
  · simp only [Value.slice.injEq] at hv
    obtain ⟨rfl, e1, rfl⟩ := hv
    refine ⟨fun _ => ⟨by omega, by omega⟩, fun a ha j u hj => ?_⟩
    rw [List.drop_of_length_le (by omega)] at hj
    simp [kc_nil] at hj
  · cases hv
    constructor
    · intro hx
      split at hx <;> simp at hx
    · intro a ha j u hj
      rw [kc_drop] at hj
      split at ha
      · rename_i hc
        have := (List.getElem?_eq_some_iff.1 hj).1
        rw [kc_length] at this
        omega
      · simp only [Option.map_some, Option.some.injEq] at ha
        subst ha
        rw [Addr.add_lit, Addr.add_lit, Nat.zero_add]
        exact hcell _ _ hj
theorem head_cells {w : World} {ao : Option Addr} {cap n : Nat} {ks : List K} (h : Sq w 59 4 (.slice ao ks.length cap) ks.length (kc ks)) (hn : n ≤ ks.length) :
    (ao = none → n = 0 ∧ cap = 0) ∧ ∀ a, ao = some a → ∀ j u, (kc (ks.take n))[j]? = some u → w.cell? (a.add j) = some u := by
  rcases h.cases with ⟨hv, h0⟩ | ⟨b, cap', hv, h1, h2, hbl, hcell, _⟩
  · simp only [Value.slice.injEq] at hv
    obtain ⟨rfl, e1, rfl⟩ := hv
    exact ⟨fun _ => And.intro (by omega) rfl, fun a ha => (by cases ha)⟩
  · cases hv
    refine ⟨fun hx => (by cases hx), fun a ha j u hj => ?_⟩
    cases ha
    rw [Addr.add_lit, Nat.zero_add]
    exact hcell _ _ (kc_take ks n j u hj)
theorem chg_new (w : World) (o : Obj) : Chg [] [w.heap.size] w (w.alloc o) := by
  have h := (Chg.refl [] w).alloc o
  exact ⟨h.1, h.2.1, h.2.2.1, h.2.2.2.1, h.2.2.2.2.1, fun b hb => by simp at hb; subst hb; exact .inr (Nat.le_refl _)⟩
set_option maxRecDepth 100000 in
set_option maxHeartbeats 4000000 in
theorem turned_any (v : Value) (ks : List K) (n : Nat) (w : World) (h : Sq w 59 4 v ks.length (kc ks)) (hm : ks.length ≤ 1000) (hn : n ≤ ks.length) :
    Calls Try.prog 26 #[v, .int .i64 (n : Nat)] w fun e w' => ∃ v', e = .returned v' ∧ Sq w' 59 4 v' ks.length (kc (ks.drop n ++ ks.take n)) ∧ Chg [] (vblk v') w w' := by
  obtain ⟨ao, cap, rfl, hnc, hcm⟩ := h.slice
  have hE := Sq.lit w #[] 59 4 0 (by unfold maxLen; omega) rfl
  have hbA : Below w.heap.size w (w.alloc (.cells #[] 59)) := (Below.refl _ w).alloc (Nat.le_refl _) _
  have hA := h.below hbA
  obtain ⟨p1, p2⟩ := rest_cells hA hn
  have hn2 : n ≤ cap := Nat.le_trans hn hnc
  have hl1 : (kc (ks.drop n)).length = (ks.length - n) * 4 := by rw [kc_length, List.length_drop]
  have hl2 : (kc (ks.take n)).length = n * 4 := by rw [kc_length, List.length_take, Nat.min_eq_left hn]
  have HC := Lib.hid (chg_new w (.cells #[] 59))
  go_enter Try.func26, Try.ntmps26
  obtain ⟨i0, hi0, hz0, hz1, hz2⟩ := info_parts (show (Try.prog.info? 59).map (fun i => (i.zero, i.size, i.bytes)) = some (some (.agg #[.int .i64 0, .int .i64 0, .bool false, .int .i64 0]), 4, 32) by kernel_rfl)
  go_upto_region 1 with fail
  go_region_law (first
    | (refine step_append_any _ rfl (.tmp 5) (.tmp 8) 55 rfl 59 i0 (.agg #[.int .i64 0, .int .i64 0, .bool false, .int .i64 0]) 4 32 Try.underlying55 hi0 hz0 hz1 hz2 rfl (by decide) (.slice (some ⟨w.heap.size, 0, none⟩) 0 0) 0 [] rfl hE _ (ks.length - n) (cap - n) (kc (ks.drop n)) rfl p1 hl1 p2 (kc_onecell _) (by unfold maxLen; omega) (by omega) ?_; intro v1 w2 hown1 hgr1; have hA2 := hA.chg hgr1 (fun b hb hm => by rw [vblk_some] at hm; have := h.lt b hb; simp at hm; omega); obtain ⟨q1, q2⟩ := head_cells hA2 hn)
    | (refine step_append_any _ rfl (.tmp 9) (.tmp 12) 55 rfl 59 i0 (.agg #[.int .i64 0, .int .i64 0, .bool false, .int .i64 0]) 4 32 Try.underlying55 hi0 hz0 hz1 hz2 rfl (by decide) v1 _ _ rfl hown1 _ n cap (kc (ks.take n)) rfl q1 hl2 q2 (kc_onecell _) (by unfold maxLen; omega) (by omega) ?_; intro v2 w3 hown2 hgr2))
  all_goals go_wp2_with fail
  all_goals
    refine bodyPost_ret (results_tmp rfl _ _ _) rfl ⟨v2, rfl, ?_, (HC.out.trans hgr1.drew').trans hgr2⟩
    rw [kc_append]
    rw [show 0 + (ks.length - n) + n = ks.length by omega, List.nil_append] at hown2
    exact hown2

end Go.Proofs.Ytehbonhdhblpgaa

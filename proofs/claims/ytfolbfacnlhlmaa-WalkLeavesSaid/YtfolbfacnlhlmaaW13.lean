/- Parts of the proofs of layer 7 (walk): contracts of its functions, and the laws' walks. -/
import Derived.Test.YtfolbfacnlhlmaaProg
import Derived.WalkKit
import Derived.WalkSpells
import Derived.WalkLawsBesides
import Derived.BigQuiet
import Derived.Deep.QuietTactic
import Derived.Lib.Hide
import Derived.Deep.RegionHeld3
import Derived.Deep.DeepCutAuto
import Derived.KernelRfl
import Derived.Deep.OwnRows
import Derived.Laws.CopyOwn
import Derived.Laws.CopyRow
import Derived.StillTailTactics
import Derived.Deep.RegionLaw
import Derived.Test.YtfolbfacnlhlmaaW12
namespace Go.Proofs.Ytfolbfacnlhlmaa
open Go.RowKit
set_option linter.unusedVariables false
set_option linter.unusedSimpArgs false

theorem wk_law (n : Nat) (f : Nat → Int) (page : Int) : ∀ (k t : Nat) (P : List Int), P.length + k = 3 →
    ((wk n f page (k + 1) t P).err = 0 ∧ ∃ T, (wk n f page (k + 1) t P).path = P ++ (t : Int) :: T ∧ ((wk n f page (k + 1) t P).path.length : Int) = 4 - (wk n f page (k + 1) t P).lev) ∨
    ((wk n f page (k + 1) t P).err = 6 ∧ ∃ T, (wk n f page (k + 1) t P).path = P ++ (t : Int) :: T ∧ (wk n f page (k + 1) t P).path.length ≤ 4) ∨
    wk n f page (k + 1) t P = FORM := by
  intro k
  induction k with
  | zero =>
    intro t P hP
    rw [wk_st n f page 0 t P _ _ rfl rfl]
    unfold st
    split
    · exact .inr (.inr rfl)
    · split
      · exact .inr (.inl ⟨rfl, [], rfl, by simp; omega⟩)
      · split
        · exact .inr (.inr rfl)
        · split
          · exact .inr (.inr rfl)
          · split
            · exact .inl ⟨rfl, [], rfl, by simp; omega⟩
            · exact .inr (.inr rfl)
  | succ k ih =>
    intro t P hP
    rw [wk_st n f page (k + 1) t P _ _ rfl rfl]
    unfold st
    split
    · exact .inr (.inr rfl)
    · split
      · exact .inr (.inl ⟨rfl, [], rfl, by simp; omega⟩)
      · split
        · exact .inr (.inr rfl)
        · split
          · exact .inr (.inr rfl)
          · split
            · exact .inl ⟨rfl, [], rfl, by simp; omega⟩
            · have h := ih (wd f (64 * t + 8 * (dg page (k + 1)).toNat) / 4096).toNat (P ++ [(t : Int)]) (by simp; omega)
              generalize wk n f page (k + 1) (wd f (64 * t + 8 * (dg page (k + 1)).toNat) / 4096).toNat (P ++ [(t : Int)]) = R at h ⊢
              rcases h with ⟨h1, T, h2, h3⟩ | ⟨h1, T, h2, h3⟩ | h
              · exact .inl ⟨h1, _ :: T, by rw [h2, List.append_assoc]; rfl, h3⟩
              · exact .inr (.inl ⟨h1, _ :: T, by rw [h2, List.append_assoc]; rfl, h3⟩)
              · exact .inr (.inr h)
set_option maxRecDepth 100000 in
set_option maxHeartbeats 2000000 in
theorem walk_no (g b n : Nat) (f : Nat → Int) (t page : Int) (w : World) (h : Mem w g b n f) (hr : ¬ (0 ≤ page ∧ page < 4096 ∧ 0 ≤ t ∧ t < (n : Int) / 64)) : Calls Try.prog 26 #[.pointer (some ⟨g, 0, none⟩), .int .i64 t, .int .i64 page] w fun e w' => e = .returned (.tuple #[.agg #[.int .i64 0, .bool false, .bool false, .bool false, .bool false, .bool false, .bool false, .int .i64 0, .int .i64 0], .slice none 0 0, .int .i64 0, .int .i64 3]) ∧ Below w.heap.size w w' := by
  have hn : n ≤ 65536 := h.2.2.2.2.1
  have hA := ((Below.refl w.heap.size w).alloc (Nat.le_refl _) (Obj.cells #[.pointer (some ⟨g, 0, none⟩)] 28 (0, 0))).alloc (by simp) (Obj.cells #[.int .i64 0, .bool false, .bool false, .bool false, .bool false, .bool false, .bool false, .int .i64 0, .int .i64 0] 41 (0, 0))
  obtain ⟨w7, hw7⟩ : ∃ w7, w7 = (w.alloc (Obj.cells #[.pointer (some ⟨g, 0, none⟩)] 28 (0, 0))).alloc (Obj.cells #[.int .i64 0, .bool false, .bool false, .bool false, .bool false, .bool false, .bool false, .int .i64 0, .int .i64 0] 41 (0, 0)) := ⟨_, rfl⟩
  rw [← hw7] at hA
  have HB0 := Lib.hid hA
  have HM0 := Lib.hid (h.below hA)
  have q1 : w7.heap[w.heap.size + 1]? = some (.cells #[.int .i64 0, .bool false, .bool false, .bool false, .bool false, .bool false, .bool false, .int .i64 0, .int .i64 0] 41 (0, 0)) := by
    have h1 := Deep.blk_alloc_new (w.alloc (Obj.cells #[.pointer (some ⟨g, 0, none⟩)] 28 (0, 0))) (Obj.cells #[.int .i64 0, .bool false, .bool false, .bool false, .bool false, .bool false, .bool false, .int .i64 0, .int .i64 0] 41 (0, 0))
    rw [World.size_alloc, ← hw7] at h1
    exact h1
  have hc0 : w7.cell? ⟨w.heap.size, 0, none⟩ = some (.pointer (some ⟨g, 0, none⟩)) := by rw [hw7]; simp [go_sem]
  clear hA h
  by_cases hp : 0 ≤ page ∧ page < 4096
  · by_cases ht : t < 0
    · have d0 : decide (t < 0) = true := decide_eq_true ht
      clear hr
      go_enter Try.func26, Try.ntmps26
      go_wp2_with fail
      rw [← hw7]
      clear hw7
      go_step3
      go_wp2_with fail
      refine (G.digits_any page _ hp.1 hp.2).mono ?_
      rintro e w1 ⟨v, rfl, hri, hb⟩
      obtain ⟨dao, dcap, rfl, _, _⟩ := RV.slice hri
      have q1' := (hb.block _ (lt_of_block q1)).trans q1
      have HB7 := Lib.hid (HB0.out.trans (hb.mono HB0.out.size))
      have HM1 := Lib.hid (HM0.out.below hb)
      obtain ⟨a0, a1, a2, a3, a4, a5, a6, a7, a8⟩ := row9 q1'
      have fz1 := fun j => frozen_of_row w1 (w.heap.size + 1) j _ 41 q1'
      have c0' := cell_keep hb hc0
      clear q1 q1' hb hri hc0
      go_wp2_with (go_at_call 21; refine (frames_any g b n f _ HM1.out).mono ?_; rintro e w2 ⟨rfl, rfl⟩)
      go_wp2_with fail
      try rw [Exit.noGoto_ret]
      refine bodyPost_ret (v := .tuple #[.agg #[.int .i64 0, .bool false, .bool false, .bool false, .bool false, .bool false, .bool false, .int .i64 0, .int .i64 0], .slice none 0 0, .int .i64 0, .int .i64 3]) ?_ rfl ?_
      · obtain ⟨k0, k1, k2, k3, k4, k5, k6, k7, k8⟩ := st9_cells a0 a1 a2 a3 a4 a5 a6 a7 a8
        exact res26 _ _ (w.heap.size + 1) _ _ _ _ _ _ _ _ _ _ _ _ rfl rfl rfl rfl k0 k1 k2 k3 k4 k5 k6 k7 k8
      exact ⟨rfl, st9_below HB7.out (Nat.le_succ _)⟩
    · have d0 : decide (t < 0) = false := decide_eq_false ht
      have d1 : decide ((n : Int) / 64 ≤ t) = true := decide_eq_true (by omega)
      clear hr
      go_enter Try.func26, Try.ntmps26
      go_wp2_with fail
      rw [← hw7]
      clear hw7
      go_step3
      go_wp2_with fail
      refine (G.digits_any page _ hp.1 hp.2).mono ?_
      rintro e w1 ⟨v, rfl, hri, hb⟩
      obtain ⟨dao, dcap, rfl, _, _⟩ := RV.slice hri
      have q1' := (hb.block _ (lt_of_block q1)).trans q1
      have HB7 := Lib.hid (HB0.out.trans (hb.mono HB0.out.size))
      have HM1 := Lib.hid (HM0.out.below hb)
      obtain ⟨a0, a1, a2, a3, a4, a5, a6, a7, a8⟩ := row9 q1'
      have fz1 := fun j => frozen_of_row w1 (w.heap.size + 1) j _ 41 q1'
      have c0' := cell_keep hb hc0
      clear q1 q1' hb hri hc0
      go_wp2_with (go_at_call 21; refine (frames_any g b n f _ HM1.out).mono ?_; rintro e w2 ⟨rfl, rfl⟩)
      go_wp2_with fail
      try rw [Exit.noGoto_ret]
      refine bodyPost_ret (v := .tuple #[.agg #[.int .i64 0, .bool false, .bool false, .bool false, .bool false, .bool false, .bool false, .int .i64 0, .int .i64 0], .slice none 0 0, .int .i64 0, .int .i64 3]) ?_ rfl ?_
      · obtain ⟨k0, k1, k2, k3, k4, k5, k6, k7, k8⟩ := st9_cells a0 a1 a2 a3 a4 a5 a6 a7 a8
        exact res26 _ _ (w.heap.size + 1) _ _ _ _ _ _ _ _ _ _ _ _ rfl rfl rfl rfl k0 k1 k2 k3 k4 k5 k6 k7 k8
      exact ⟨rfl, st9_below HB7.out (Nat.le_succ _)⟩
  · obtain ⟨a0, a1, a2, a3, a4, a5, a6, a7, a8⟩ := row9 q1
    have fz1 := fun j => frozen_of_row w7 (w.heap.size + 1) j _ 41 q1
    have HB7 := HB0
    clear q1
    go_enter Try.func26, Try.ntmps26
    go_wp2_with fail
    rw [← hw7]
    clear hw7
    go_step3
    go_wp2_with fail
    refine (G.digits_no page _ (by omega)).mono ?_
    rintro e w1 ⟨rfl, rfl⟩
    go_wp2_with fail
    try rw [Exit.noGoto_ret]
    refine bodyPost_ret (v := .tuple #[.agg #[.int .i64 0, .bool false, .bool false, .bool false, .bool false, .bool false, .bool false, .int .i64 0, .int .i64 0], .slice none 0 0, .int .i64 0, .int .i64 3]) ?_ rfl ?_
    · obtain ⟨k0, k1, k2, k3, k4, k5, k6, k7, k8⟩ := st9_cells a0 a1 a2 a3 a4 a5 a6 a7 a8
      exact res26 _ _ (w.heap.size + 1) _ _ _ _ _ _ _ _ _ _ _ _ rfl rfl rfl rfl k0 k1 k2 k3 k4 k5 k6 k7 k8
    exact ⟨rfl, st9_below HB7.out (Nat.le_succ _)⟩
set_option maxHeartbeats 1000000 in
theorem Walk_no (g b n : Nat) (f : Nat → Int) (t page : Int) (w : World) (h : Mem w g b n f) (hr : ¬ (0 ≤ page ∧ page < 4096 ∧ 0 ≤ t ∧ t < (n : Int) / 64)) : Calls Try.prog 11 #[.pointer (some ⟨g, 0, none⟩), .int .i64 t, .int .i64 page] w fun e w' => e = .returned (.tuple #[.agg #[.int .i64 0, .bool false, .bool false, .bool false, .bool false, .bool false, .bool false, .int .i64 0, .int .i64 0], .int .i64 3]) ∧ Below w.heap.size w w' := by
  obtain ⟨w1, hw1⟩ : ∃ w1, w1 = w.alloc (Obj.cells #[.int .i64 0, .bool false, .bool false, .bool false, .bool false, .bool false, .bool false, .int .i64 0, .int .i64 0] 41 (0, 0)) := ⟨_, rfl⟩
  have hA : Below w.heap.size w w1 := by rw [hw1]; exact (Below.refl _ w).alloc (Nat.le_refl _) _
  have q0 : w1.heap[w.heap.size]? = some (.cells #[.int .i64 0, .bool false, .bool false, .bool false, .bool false, .bool false, .bool false, .int .i64 0, .int .i64 0] 41 (0, 0)) := by rw [hw1]; exact Deep.blk_alloc_new _ _
  have HM := Lib.hid (h.below hA)
  clear h
  go_enter Try.func11, Try.ntmps11
  go_wp2_with fail
  rw [← hw1]
  clear hw1
  refine (walk_no g b n f t page _ HM.out hr).mono ?_
  rintro e w2 ⟨rfl, hb⟩
  have q1 := (hb.block _ (lt_of_block q0)).trans q0
  have hA3 : Below w2.heap.size w2 (w2.alloc (Obj.cells #[.int .i64 0, .bool false, .bool false, .bool false, .bool false, .bool false, .bool false, .int .i64 0, .int .i64 0] 41 (0, 0))) := (Below.refl _ _).alloc (Nat.le_refl _) _
  have q2 := (hA3.block _ (lt_of_block q1)).trans q1
  have HB := Lib.hid ((hA.trans (hb.mono hA.size)).trans (hA3.mono (Nat.le_trans hA.size hb.size)))
  have q3 : (w2.alloc (Obj.cells #[.int .i64 0, .bool false, .bool false, .bool false, .bool false, .bool false, .bool false, .int .i64 0, .int .i64 0] 41 (0, 0))).heap[w2.heap.size]? = some (.cells #[.int .i64 0, .bool false, .bool false, .bool false, .bool false, .bool false, .bool false, .int .i64 0, .int .i64 0] 41 (0, 0)) := Deep.blk_alloc_new _ _
  go_upto_region 2 with fail
  generalize w2.alloc (Obj.cells #[.int .i64 0, .bool false, .bool false, .bool false, .bool false, .bool false, .bool false, .int .i64 0, .int .i64 0] 41 (0, 0)) = w7 at *
  obtain ⟨a0, a1, a2, a3, a4, a5, a6, a7, a8⟩ := row9 q2
  obtain ⟨b0, b1, b2, b3, b4, b5, b6, b7, b8⟩ := row9 q3
  have fz1 := fun j => frozen_of_row w7 w.heap.size j _ 41 q2
  clear q0 q1 q2 q3 hA3 hb hA hr
  go_wp2_with fail
  refine bodyPost_ret (v := .tuple #[.agg #[.int .i64 0, .bool false, .bool false, .bool false, .bool false, .bool false, .bool false, .int .i64 0, .int .i64 0], .int .i64 3]) ?_ rfl ?_
  · obtain ⟨k0, k1, k2, k3, k4, k5, k6, k7, k8⟩ := st9_cells a0 a1 a2 a3 a4 a5 a6 a7 a8
    exact res11 _ _ w.heap.size _ _ _ _ _ _ _ _ _ _ rfl rfl k0 k1 k2 k3 k4 k5 k6 k7 k8
  exact ⟨rfl, st9_below HB.out (Nat.le_refl _)⟩
set_option maxHeartbeats 1000000 in
theorem Path_no (g b n : Nat) (f : Nat → Int) (t page : Int) (w : World) (h : Mem w g b n f) (hr : ¬ (0 ≤ page ∧ page < 4096 ∧ 0 ≤ t ∧ t < (n : Int) / 64)) : Calls Try.prog 12 #[.pointer (some ⟨g, 0, none⟩), .int .i64 t, .int .i64 page] w fun e w' => e = .returned (.tuple #[.slice none 0 0, .int .i64 3]) ∧ Below w.heap.size w w' := by
  have HM := Lib.hid h
  have HR := Lib.hid hr
  clear h hr
  go_enter Try.func12, Try.ntmps12
  go_wp2_with fail
  refine (walk_no g b n f t page _ HM.out HR.out).mono ?_
  rintro e w2 ⟨rfl, hb⟩
  go_wp2_with fail
  go_ret2
  exact ⟨rfl, hb.alloc hb.size _⟩

end Go.Proofs.Ytfolbfacnlhlmaa

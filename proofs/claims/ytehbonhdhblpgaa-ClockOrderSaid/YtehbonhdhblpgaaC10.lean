/- Parts of the proofs of layer 25 (clock): contracts of its functions, and the laws' walks. -/
import Derived.Test.YtehbonhdhblpgaaProg
import Derived.WalkKit
import Derived.WalkSpells
import Derived.WalkLawsBesides
import Derived.BigQuiet
import Derived.Deep.QuietTactic
import Derived.Lib.Hide
import Derived.Deep.RegionHeld3
import Derived.Deep.DeepCutAuto
import Derived.KernelRfl
import Derived.Deep.OwnRows
import Derived.Laws.CopyOwn
import Derived.Laws.CopyRow
import Derived.StillTailTactics
import Derived.Deep.RegionLaw
import Derived.Test.YtehbonhdhblpgaaC9
namespace Go.Proofs.Ytehbonhdhblpgaa
open Go.RowKit
set_option linter.unusedVariables false
set_option linter.unusedSimpArgs false

theorem find_nil (x : Value) (w : World) (hx : ∃ a b, x = .agg #[.int .i64 a, .int .i64 b]) : Calls Try.prog 24 #[.pointer none, x] w fun e w' => e = .returned (.tuple #[.int .i64 0, .int .i64 1]) ∧ Below w.heap.size w w' := by
  obtain ⟨a, b, rfl⟩ := hx
  have hb : Below w.heap.size w (w.alloc (.cells #[.int .i64 a, .int .i64 b] 24)) := (Below.refl _ w).alloc (Nat.le_refl _) _
  go_enter Try.func24, Try.ntmps24
  go_wp2
  exact bodyPost_ret (results_tmp2 rfl _ _ _) rfl ⟨rfl, hb⟩
theorem below2 {a b c : World} (h : Below a.heap.size a b) (k : Below b.heap.size b c) : Below a.heap.size a c := h.trans (k.mono h.size)
theorem add_nil (a b : Int) (w : World) : Calls Try.prog 11 #[.pointer none, .agg #[.int .i64 a, .int .i64 b]] w fun e w' => e = .returned (.int .i64 1) ∧ Below w.heap.size w w' := by
  have hb : Below w.heap.size w (w.alloc (.cells #[.int .i64 a, .int .i64 b] 24)) := (Below.refl _ w).alloc (Nat.le_refl _) _
  go_enter Try.func11, Try.ntmps11
  go_wp2_with fail
  refine (find_nil _ _ ⟨a, b, rfl⟩).mono ?_
  rintro e w1 ⟨rfl, hb1⟩
  have HB := Lib.hid (below2 hb hb1)
  clear hb hb1
  go_wp2_with fail
  exact bodyPost_ret (results_tmp rfl _ _ _) rfl ⟨rfl, HB.out⟩
theorem del_nil (a b : Int) (w : World) : Calls Try.prog 12 #[.pointer none, .agg #[.int .i64 a, .int .i64 b]] w fun e w' => e = .returned (.int .i64 1) ∧ Below w.heap.size w w' := by
  have hb : Below w.heap.size w (w.alloc (.cells #[.int .i64 a, .int .i64 b] 24)) := (Below.refl _ w).alloc (Nat.le_refl _) _
  go_enter Try.func12, Try.ntmps12
  go_wp2_with fail
  refine (find_nil _ _ ⟨a, b, rfl⟩).mono ?_
  rintro e w1 ⟨rfl, hb1⟩
  have HB := Lib.hid (below2 hb hb1)
  clear hb hb1
  go_wp2_with fail
  exact bodyPost_ret (results_tmp rfl _ _ _) rfl ⟨rfl, HB.out⟩
theorem touch_nil (a b : Int) (w : World) : Calls Try.prog 13 #[.pointer none, .agg #[.int .i64 a, .int .i64 b]] w fun e w' => e = .returned (.int .i64 1) ∧ Below w.heap.size w w' := by
  have hb : Below w.heap.size w (w.alloc (.cells #[.int .i64 a, .int .i64 b] 24)) := (Below.refl _ w).alloc (Nat.le_refl _) _
  go_enter Try.func13, Try.ntmps13
  go_wp2_with fail
  refine (find_nil _ _ ⟨a, b, rfl⟩).mono ?_
  rintro e w1 ⟨rfl, hb1⟩
  have HB := Lib.hid (below2 hb hb1)
  clear hb hb1
  go_wp2_with fail
  exact bodyPost_ret (results_tmp rfl _ _ _) rfl ⟨rfl, HB.out⟩
theorem age_nil (a b : Int) (w : World) : Calls Try.prog 15 #[.pointer none, .agg #[.int .i64 a, .int .i64 b]] w fun e w' => e = .returned (.tuple #[.int .i64 0, .int .i64 1]) ∧ Below w.heap.size w w' := by
  have hb : Below w.heap.size w (w.alloc (.cells #[.int .i64 a, .int .i64 b] 24)) := (Below.refl _ w).alloc (Nat.le_refl _) _
  go_enter Try.func15, Try.ntmps15
  go_wp2_with fail
  refine (find_nil _ _ ⟨a, b, rfl⟩).mono ?_
  rintro e w1 ⟨rfl, hb1⟩
  have HB := Lib.hid (below2 hb hb1)
  clear hb hb1
  go_wp2_with fail
  exact bodyPost_ret (results_tmp2 rfl _ _ _) rfl ⟨rfl, HB.out⟩
theorem sweep_nil (n a : Int) (w : World) : Calls Try.prog 14 #[.pointer none, .int .i64 n, .int .i64 a] w fun e w' => e = .returned (.slice none 0 0) ∧ Below w.heap.size w w' := by
  have hb : Below w.heap.size w (w.alloc (.cells #[.int .i64 a] 3)) := (Below.refl _ w).alloc (Nat.le_refl _) _
  go_enter Try.func14, Try.ntmps14
  go_wp2_with fail
  exact bodyPost_ret (results_tmp rfl _ _ _) rfl ⟨rfl, hb⟩
theorem oldest_nil (w : World) : Calls Try.prog 21 #[.pointer none] w fun e w' => e = .returned (.tuple #[.agg #[.int .i64 0, .int .i64 0], .int .i64 1]) ∧ Below w.heap.size w w' := by
  have hb : Below w.heap.size w (w.alloc (.cells #[.int .i64 0, .int .i64 0] 24)) := (Below.refl _ w).alloc (Nat.le_refl _) _
  have h0 := heap_alloc_new w (.cells #[.int .i64 0, .int .i64 0] 24)
  have d0 := cell_of_row _ w.heap.size 0 _ 24 _ h0
  have d1 := cell_of_row _ w.heap.size 1 _ 24 _ h0
  have f0 := frozen_of_row _ w.heap.size 0 _ 24 h0
  have f1 := frozen_of_row _ w.heap.size 1 _ 24 h0
  go_enter Try.func21, Try.ntmps21
  go_upto_region 1 with fail
  generalize w.alloc (.cells #[.int .i64 0, .int .i64 0] 24) = w0 at *
  go_wp2_with fail
  refine bodyPost_ret (v := .tuple #[.agg #[.int .i64 0, .int .i64 0], .int .i64 1]) (by simp [results, Try.results21, go_sem, d0, d1]) rfl ⟨rfl, ?_⟩
  exact (hb.setCell (Nat.le_refl _) _).setCell (Nat.le_refl _) _
theorem len_nil (w : World) : Calls Try.prog 23 #[.pointer none] w fun e w' => e = .returned (.int .i64 0) ∧ w = w' := by
  go_enter Try.func23, Try.ntmps23
  go_wp2
  go_ret
  exact ⟨rfl, rfl⟩
theorem all_nil (w : World) : Calls Try.prog 19 #[.pointer none] w fun e w' => e = .returned (.slice none 0 0) ∧ w = w' := by
  go_enter Try.func19, Try.ntmps19
  go_wp2
  go_ret
  exact ⟨rfl, rfl⟩
theorem told_awake : sweepT [⟨0, 8, false, 0⟩, ⟨0, 9, true, 0⟩] 2 1 = [⟨0, 8⟩] := by
  unfold sweepT
  rw [show cnt [⟨0, 8, false, 0⟩, ⟨0, 9, true, 0⟩] 2 = 2 from by decide]
  simp [swT, K.key, wrap64]
theorem kept_awake : sweepK [⟨0, 8, false, 0⟩, ⟨0, 9, true, 0⟩] 2 = [⟨0, 8, false, 1⟩, ⟨0, 9, false, 0⟩] := by
  unfold sweepK
  rw [show cnt [⟨0, 8, false, 0⟩, ⟨0, 9, true, 0⟩] 2 = 2 from by decide]
  simp [swK, wrap64]
set_option maxRecDepth 100000 in
set_option maxHeartbeats 4000000 in
theorem awake_any (w : World) : Calls Try.prog 10 #[] w fun e w' => e = .returned (.bool true) ∧ Below w.heap.size w w' := by
  go_enter Try.func10, Try.ntmps10
  go_wp2_with fail
  refine (new_any w).mono ?_
  rintro e w1 ⟨rfl, hb1, hk1⟩
  go_upto_region 3 with fail
  have hA1 : Below w1.heap.size w1 (w1.alloc (.cells #[.int .i64 0, .int .i64 8] 24)) := (Below.refl _ w1).alloc (Nat.le_refl _) _
  have hA2 : Below w1.heap.size w1 ((w1.alloc (.cells #[.int .i64 0, .int .i64 8] 24)).alloc (.cells #[.int .i64 0, .int .i64 9] 24)) := hA1.alloc (by simp) _
  have hh0 := (((Below.refl _ (w1.alloc (.cells #[.int .i64 0, .int .i64 8] 24))).alloc (Nat.le_refl _) (.cells #[.int .i64 0, .int .i64 9] 24)).block w1.heap.size (by simp)).trans (heap_alloc_new w1 (.cells #[.int .i64 0, .int .i64 8] 24))
  have hh1 := heap_alloc_new (w1.alloc (.cells #[.int .i64 0, .int .i64 8] 24)) (.cells #[.int .i64 0, .int .i64 9] 24)
  rw [World.size_alloc] at hh1
  have hK := Lib.hid (hk1.below hA2)
  have hgl := hk1.lt w.heap.size (by simp)
  have hT : RowKit.Hid (Chg [] [w.heap.size] w ((w1.alloc (.cells #[.int .i64 0, .int .i64 8] 24)).alloc (.cells #[.int .i64 0, .int .i64 9] 24)) ∧ w1.heap.size ∉ [w.heap.size] ∧ w1.heap.size + 1 ∉ [w.heap.size]) := Lib.hid ⟨by
    have h := (Chg.of_below (F := []) hb1).trans (Chg.of_below (F := []) hA2)
    exact ⟨h.1, h.2.1, h.2.2.1, h.2.2.2.1, h.2.2.2.2.1, fun b hb => by simp at hb; subst hb; exact .inr (Nat.le_refl _)⟩, by simp; omega, by simp; omega⟩
  generalize ((w1.alloc (.cells #[.int .i64 0, .int .i64 8] 24)).alloc (.cells #[.int .i64 0, .int .i64 9] 24)) = w2 at hh0 hh1 hK hT ⊢
  have a0 := cell_of_row _ w1.heap.size 0 _ 24 _ hh0
  have a1 := cell_of_row _ w1.heap.size 1 _ 24 _ hh0
  have b0 := cell_of_row _ (w1.heap.size + 1) 0 _ 24 _ hh1
  have b1 := cell_of_row _ (w1.heap.size + 1) 1 _ 24 _ hh1
  clear hA1 hA2 hh0 hh1 hb1 hk1
  generalize w1.heap.size = A at *
  go_wp2_with fail
  refine (add_any _ _ [] ⟨0, 8⟩ w2 hK.out (by decide)).mono ?_
  rintro e w3 ⟨rfl, F1, hc, hk⟩
  have hK2 := Lib.hid hk
  have hT2 := Lib.hid (And.intro (hT.out.1.trans hc) (And.intro (hc.out hT.out.2.1 (World.block_lt_of_cell? w2 _ a0)) (hc.out hT.out.2.2 (World.block_lt_of_cell? w2 _ b0))))
  replace a0 := hc.cell a0 hT.out.2.1
  replace a1 := hc.cell a1 hT.out.2.1
  replace b0 := hc.cell b0 hT.out.2.2
  replace b1 := hc.cell b1 hT.out.2.2
  clear hc hk hK hT
  have hK := hK2
  have hT := hT2
  clear hK2 hT2
  rw [show acode [] ⟨0, 8⟩ = 0 from rfl]
  go_wp2_with fail
  refine (add_any _ _ _ ⟨0, 9⟩ w3 hK.out (by decide)).mono ?_
  rintro e w4 ⟨rfl, F2, hc, hk⟩
  have hK2 := Lib.hid hk
  have hT2 := Lib.hid (And.intro (hT.out.1.trans hc) (And.intro (hc.out hT.out.2.1 (World.block_lt_of_cell? w3 _ a0)) (hc.out hT.out.2.2 (World.block_lt_of_cell? w3 _ b0))))
  replace a0 := hc.cell a0 hT.out.2.1
  replace a1 := hc.cell a1 hT.out.2.1
  replace b0 := hc.cell b0 hT.out.2.2
  replace b1 := hc.cell b1 hT.out.2.2
  clear hc hk hK hT
  have hK := hK2
  have hT := hT2
  clear hK2 hT2
  rw [show acode (addK [] ⟨0, 8⟩) ⟨0, 9⟩ = 0 from rfl]
  have hK := Lib.hid (show Clk w4 w.heap.size F2 [⟨0, 8, true, 0⟩, ⟨0, 9, true, 0⟩] from hK.out)
  go_wp2_with fail
  refine (sweep_any _ _ [⟨0, 8, true, 0⟩, ⟨0, 9, true, 0⟩] 2 1 w4 hK.out (by decide)).mono ?_
  rintro e w5 ⟨v, F3, rfl, hv, hk, hc0, hs⟩
  obtain ⟨aoV5, capV5, rfl, _, _⟩ := Sq.slice hv
  have hc := hc0.sub (fun b hb => List.mem_append_left _ hb)
  clear hc0
  have hK2 := Lib.hid hk
  have hT2 := Lib.hid (And.intro (hT.out.1.trans hc) (And.intro (hc.out hT.out.2.1 (World.block_lt_of_cell? w4 _ a0)) (hc.out hT.out.2.2 (World.block_lt_of_cell? w4 _ b0))))
  replace a0 := hc.cell a0 hT.out.2.1
  replace a1 := hc.cell a1 hT.out.2.1
  replace b0 := hc.cell b0 hT.out.2.2
  replace b1 := hc.cell b1 hT.out.2.2
  clear hc hk hK hT
  have hK := hK2
  have hT := hT2
  clear hK2 hT2
  rw [show (sweepT [⟨0, 8, true, 0⟩, ⟨0, 9, true, 0⟩] 2 1).length = 0 from by decide]
  clear hv hs
  have hK := Lib.hid (show Clk w5 w.heap.size F3 [⟨0, 8, false, 0⟩, ⟨0, 9, false, 0⟩] from hK.out)
  go_wp2_with fail
  refine (touch_any _ _ [⟨0, 8, false, 0⟩, ⟨0, 9, false, 0⟩] ⟨0, 9⟩ w5 hK.out (by decide)).mono ?_
  rintro e w6 ⟨rfl, hc, hk⟩
  have hK2 := Lib.hid hk
  have hT2 := Lib.hid (And.intro (hT.out.1.trans hc) (And.intro (hc.out hT.out.2.1 (World.block_lt_of_cell? w5 _ a0)) (hc.out hT.out.2.2 (World.block_lt_of_cell? w5 _ b0))))
  replace a0 := hc.cell a0 hT.out.2.1
  replace a1 := hc.cell a1 hT.out.2.1
  replace b0 := hc.cell b0 hT.out.2.2
  replace b1 := hc.cell b1 hT.out.2.2
  clear hc hk hK hT
  have hK := hK2
  have hT := hT2
  clear hK2 hT2
  rw [show ecode [⟨0, 8, false, 0⟩, ⟨0, 9, false, 0⟩] ⟨0, 9⟩ = 0 from rfl]
  have hK := Lib.hid (show Clk w6 w.heap.size F3 [⟨0, 8, false, 0⟩, ⟨0, 9, true, 0⟩] from hK.out)
  go_wp2_with fail
  refine (sweep_any _ _ [⟨0, 8, false, 0⟩, ⟨0, 9, true, 0⟩] 2 1 w6 hK.out (by decide)).mono ?_
  rintro e w7 ⟨v, F4, rfl, hv, hk, hc0, hs⟩
  obtain ⟨aoV7, capV7, rfl, _, _⟩ := Sq.slice hv
  have hc := hc0.sub (fun b hb => List.mem_append_left _ hb)
  clear hc0
  have hK2 := Lib.hid hk
  have hT2 := Lib.hid (And.intro (hT.out.1.trans hc) (And.intro (hc.out hT.out.2.1 (World.block_lt_of_cell? w6 _ a0)) (hc.out hT.out.2.2 (World.block_lt_of_cell? w6 _ b0))))
  replace a0 := hc.cell a0 hT.out.2.1
  replace a1 := hc.cell a1 hT.out.2.1
  replace b0 := hc.cell b0 hT.out.2.2
  replace b1 := hc.cell b1 hT.out.2.2
  clear hc hk hK hT
  have hK := hK2
  have hT := hT2
  clear hK2 hT2
  rw [told_awake] at hv ⊢
  have hV := Lib.hid hv
  clear hv
  rw [show ([⟨0, 8⟩] : List S).length = 1 from rfl] at hV ⊢
  have hK := Lib.hid (show Clk w7 w.heap.size F4 [⟨0, 8, false, 1⟩, ⟨0, 9, false, 0⟩] from kept_awake ▸ hK.out)
  obtain ⟨bv, cv, hvv, hbv, hcell⟩ := hV.out.read (by simp)
  cases hvv
  obtain ⟨v0, v1⟩ := hcell 0 _ rfl
  dsimp only at v0 v1
  rw [Nat.zero_mul] at v0 v1
  rw [Nat.zero_add] at v1
  clear hcell hV hs
  go_wp2_with fail
  refine (oldest_any _ _ [⟨0, 8, false, 1⟩, ⟨0, 9, false, 0⟩] w7 hK.out (by decide)).mono ?_
  rintro e w8 ⟨rfl, hc⟩
  have hK2 := Lib.hid (hK.out.below hc)
  replace v0 := cell_keep hc v0
  replace v1 := cell_keep hc v1
  replace hc := Chg.of_below (F := F4) hc
  have hT2 := Lib.hid (And.intro (hT.out.1.trans hc) hT.out.2)
  replace a0 := hc.cell a0 hT.out.2.1
  replace a1 := hc.cell a1 hT.out.2.1
  replace b0 := hc.cell b0 hT.out.2.2
  replace b1 := hc.cell b1 hT.out.2.2
  clear hc  hK hT
  have hK := hK2
  have hT := hT2
  clear hK2 hT2
  rw [show ores [⟨0, 8, false, 1⟩, ⟨0, 9, false, 0⟩] = .tuple #[.agg #[.int .i64 0, .int .i64 8], .int .i64 0] from rfl]
  go_upto_region 7 with fail
  have hA : Below w8.heap.size w8 (w8.alloc (.cells #[.int .i64 0, .int .i64 8] 24)) := (Below.refl _ w8).alloc (Nat.le_refl _) _
  have hh := heap_alloc_new w8 (.cells #[.int .i64 0, .int .i64 8] 24)
  have o0 : (w8.alloc (.cells #[.int .i64 0, .int .i64 8] 24)).cell? ⟨w8.heap.size, 0, none⟩ = some (.int .i64 0) := cell_of_row _ w8.heap.size 0 _ 24 _ hh
  have o1 : (w8.alloc (.cells #[.int .i64 0, .int .i64 8] 24)).cell? ⟨w8.heap.size, 1, none⟩ = some (.int .i64 8) := cell_of_row _ w8.heap.size 1 _ 24 _ hh
  replace a0 : (w8.alloc (.cells #[.int .i64 0, .int .i64 8] 24)).cell? ⟨A, 0, none⟩ = some (.int .i64 0) := cell_keep hA a0
  replace a1 : (w8.alloc (.cells #[.int .i64 0, .int .i64 8] 24)).cell? ⟨A, 1, none⟩ = some (.int .i64 8) := cell_keep hA a1
  replace v0 := cell_keep hA v0
  replace v1 := cell_keep hA v1
  have hK9 := Lib.hid (hK.out.below hA)
  have hT9 := Lib.hid (hT.out.1.trans (Chg.of_below (F := F4) hA))
  clear hA hh b0 b1 hK hT
  generalize w8.alloc (.cells #[.int .i64 0, .int .i64 8] 24) = w9 at *
  go_quiet ((go_at_call 23; exact (len_any w.heap.size F4 [⟨0, 8, false, 1⟩, ⟨0, 9, false, 0⟩] _ (hK9.out.drewN _)).mono fun _ _ h => ⟨h.1, _, h.2.symm⟩))
  go_wp2_with fail
  exact bodyPost_ret (results_tmp rfl _ _ _) rfl ⟨rfl, below_drewN (hT9.out.below (fun b hb => by simp at hb) (Nat.le_refl _)) nq⟩

end Go.Proofs.Ytehbonhdhblpgaa

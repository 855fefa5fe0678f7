/- Parts of the proofs of layer 18 (gap): contracts of its functions, and the laws' walks. -/
import Derived.Test.YtkaglggljomgdaaProg
import Derived.WalkKit
import Derived.WalkSpells
import Derived.WalkLawsBesides
import Derived.BigQuiet
import Derived.Deep.QuietTactic
import Derived.Lib.Hide
import Derived.Deep.RegionHeld3
import Derived.Deep.DeepCutAuto
import Derived.KernelRfl
import Derived.Deep.OwnRows
import Derived.Laws.CopyOwn
import Derived.Laws.CopyRow
import Derived.StillTailTactics
import Derived.Deep.RegionLaw
import Derived.Test.YtkaglggljomgdaaH15
import Derived.OwnWalk
namespace Go.Proofs.Ytkaglggljomgdaa
open Go.RowKit
set_option linter.unusedVariables false
set_option linter.unusedSimpArgs false

theorem All_nil (w : World) : Calls Try.prog 22 #[.pointer none] w fun e w' => e = .returned (.slice none 0 0) ∧ Below w.heap.size w w' := by
  obtain ⟨w1, hw1⟩ : ∃ w1, w1 = (w.alloc (.cells #[.slice none 0 0] 39)).alloc (.cells #[.nilFunc] 70) := ⟨_, rfl⟩
  have hst : w1.heap.size = w.heap.size + 1 + 1 := by rw [hw1]; simp
  have r3 : w1.heap[w.heap.size]? = some (.cells #[.slice none 0 0] 39 (0, 0)) := by
    rw [hw1]
    exact (Below.heap_alloc _ _ _ (by simp)).trans (heap_alloc_new w _)
  have r4 : w1.heap[w.heap.size + 1]? = some (.cells #[.nilFunc] 70 (0, 0)) := by
    rw [hw1]
    have := heap_alloc_new (w.alloc (.cells #[.slice none 0 0] 39)) (.cells #[.nilFunc] 70)
    rw [World.size_alloc] at this
    exact this
  have HB : RowKit.Hid (Below w.heap.size w w1) := Lib.hid (by rw [hw1]; exact ((Below.refl _ w).alloc (Nat.le_refl _) _).alloc (by simp) _)
  have c3 := cell_of_one r3
  have x4 := cell_of_one r4
  have y4 := fun j => frozen_of_row w1 (w.heap.size + 1) j _ 70 r4
  have hsf : ∀ (a : Addr) (fn : Fn) (first cap : Array Value) (w : World), (store a (.func fn first cap)).run Try.prog w = stored Try.prog w a (.func fn first cap) .plain := fun a fn first cap w => run_store Try.prog w a _ .plain rfl
  go_enter Try.func22, Try.ntmps22
  go_upto_region 3 with fail
  rw [← hw1]
  obtain ⟨w2, hw2⟩ : ∃ w2, w2 = w1.setCell ⟨w.heap.size + 1, 0, none⟩ (.func (Fn.func 38) #[] #[.pointer (some ⟨w.heap.size + 1, 0, none⟩), .pointer (some ⟨w.heap.size, 0, none⟩)]) := ⟨_, rfl⟩
  have HB2 := Lib.hid (show Below w.heap.size w w2 from by rw [hw2]; exact Below.setCell HB.out (by simp) _)
  have c3' : w2.cell? ⟨w.heap.size, 0, none⟩ = some (.slice none 0 0) := by
    rw [hw2]
    exact cell_of_one (row_other r3 (by omega) _ _)
  clear r3 r4 hw1 c3 hst
  go_upto_region 4 with fail
  rw [← hw2]
  clear hw2 x4 y4
  go_wp2_with fail
  go_ret
  exact ⟨rfl, HB2.out⟩
set_option maxHeartbeats 1000000 in
theorem All_any (g : Nat) (F : List Nat) (L : List (Int × Int)) (w : World) (h : Gt w g F L) :
    Calls Try.prog 22 #[.pointer (some ⟨g, 0, none⟩)] w fun e w' => ∃ v, e = .returned v ∧ Told w' v L ∧ Chg [] (vblk v) w w' := by
  obtain ⟨w1, hw1⟩ : ∃ w1, w1 = (w.alloc (.cells #[.slice none 0 0] 39)).alloc (.cells #[.nilFunc] 70) := ⟨_, rfl⟩
  have hst : w1.heap.size = w.heap.size + 1 + 1 := by rw [hw1]; simp
  have r3 : w1.heap[w.heap.size]? = some (.cells #[.slice none 0 0] 39 (0, 0)) := by
    rw [hw1]
    exact (Below.heap_alloc _ _ _ (by simp)).trans (heap_alloc_new w _)
  have r4 : w1.heap[w.heap.size + 1]? = some (.cells #[.nilFunc] 70 (0, 0)) := by
    rw [hw1]
    have := heap_alloc_new (w.alloc (.cells #[.slice none 0 0] 39)) (.cells #[.nilFunc] 70)
    rw [World.size_alloc] at this
    exact this
  have HB : RowKit.Hid (Below w.heap.size w w1) := Lib.hid (by rw [hw1]; exact ((Below.refl _ w).alloc (Nat.le_refl _) _).alloc (by simp) _)
  have x4 := cell_of_one r4
  have y4 := fun j => frozen_of_row w1 (w.heap.size + 1) j _ 70 r4
  have hsf : ∀ (a : Addr) (fn : Fn) (first cap : Array Value) (w : World), (store a (.func fn first cap)).run Try.prog w = stored Try.prog w a (.func fn first cap) .plain := fun a fn first cap w => run_store Try.prog w a _ .plain rfl
  go_enter Try.func22, Try.ntmps22
  go_upto_region 3 with fail
  rw [← hw1]
  obtain ⟨w2, hw2⟩ : ∃ w2, w2 = w1.setCell ⟨w.heap.size + 1, 0, none⟩ (.func (Fn.func 38) #[] #[.pointer (some ⟨w.heap.size + 1, 0, none⟩), .pointer (some ⟨w.heap.size, 0, none⟩)]) := ⟨_, rfl⟩
  have HB2 := Lib.hid (show Below w.heap.size w w2 from by rw [hw2]; exact Below.setCell HB.out (by simp) _)
  have hA : AS w2 w.heap.size (w.heap.size + 1) (.slice none 0 0) [] := by
    rw [hw2]
    exact ⟨row_other r3 (by omega) _ _, (heap_setCell_same w1 _ 0 _ 70 _ r4).trans rfl, Sq.nil _ _ _, by simp [vblk_nil], by simp [vblk_nil]⟩
  have hG := h.below HB2.out
  have hlt := h.lt
  obtain ⟨t, htg, hgd, hL⟩ := hG
  obtain ⟨v, F', hg, hnd, hF, hq⟩ := htg
  have HH := Lib.hid (All1_any w.heap.size (w.heap.size + 1) t v F' (.slice none 0 0) [] w2.drew hA.drew hnd.drew (fun b hb hm => by have := hlt b (by rw [hF]; simp [hb]); simp [vblk_nil] at hm; omega) (by have := hgd.1.length; simp; omega))
  have c0 := cell_of_one hg
  have c3 := cell_of_one hA.1
  have c4 := cell_of_one hA.2.1
  have HL := Lib.hid hL
  clear r3 r4 hw1 hst hA hg hnd hF hq hgd hlt hL h
  go_upto_region 4 with fail
  rw [← hw2]
  clear hw2 x4 y4
  go_upto_region 5 with fail
  go_still_tail 5, (by kernel_rfl)
  change wpList _ _ _ _ _ (World.drew _)
  go_wp2_with fail
  refine HH.out.mono ?_
  rintro ex w6 ⟨rfl, o6, hA6, hc6⟩
  rw [List.nil_append, HL.out] at hA6
  obtain ⟨ao, cap, rfl, _, _⟩ := hA6.2.2.1.slice
  have c3 := cell_of_one hA6.1
  have HT := Lib.hid hA6.2.2.1
  have HC := Lib.hid (show Chg [] (vblk (.slice ao L.length cap)) w w6 from by
    have e1 := hc6.drew'
    have e2 : Chg [] [w.heap.size] w w2 := ⟨HB2.out.os, HB2.out.tape, HB2.out.output, HB2.out.size, fun b hb _ => HB2.out.block b hb, fun b hb => .inr (by simp at hb; omega)⟩
    exact (e2.trans e1).sub fun b hb => by simp [hb])
  clear hA6 hc6 HH HL
  go_wp2_with fail
  go_ret
  exact ⟨_, rfl, HT.out, HC.out⟩

end Go.Proofs.Ytkaglggljomgdaa

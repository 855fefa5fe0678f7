/- Parts of the proofs of layer 7 (walk): contracts of its functions, and the laws' walks. -/
import Derived.Test.YtfolbfacnlhlmaaProg
import Derived.WalkKit
import Derived.WalkSpells
import Derived.WalkLawsBesides
import Derived.BigQuiet
import Derived.Deep.QuietTactic
import Derived.Lib.Hide
import Derived.Deep.RegionHeld3
import Derived.Deep.DeepCutAuto
import Derived.KernelRfl
import Derived.Deep.OwnRows
import Derived.Laws.CopyOwn
import Derived.Laws.CopyRow
import Derived.StillTailTactics
import Derived.Deep.RegionLaw
import Derived.Test.YtfolbfacnlhlmaaW3
namespace Go.Proofs.Ytfolbfacnlhlmaa
open Go.RowKit
set_option linter.unusedVariables false
set_option linter.unusedSimpArgs false

set_option maxHeartbeats 1000000 in
theorem rword_ok (g b N n : Nat) (f : Nat → Int) (t i : Nat) (w : World) (h : RMem w g b N (wv f)) (hN : n = N * 8) (hf : ∀ i, 0 ≤ f i ∧ f i ≤ 255) (ht : t < n / 64) (hi : i < 8) : Calls Try.prog 10 #[.pointer (some ⟨g, 0, none⟩), .int .i64 t, .int .i64 i] w fun e w' => e = .returned (.tuple #[E.unEnt (wd f (64 * t + 8 * i)), .int .i64 (E.une (wd f (64 * t + 8 * i)))]) ∧ Below w.heap.size w w' := by
  have hx := wd_range f hf (64 * t + 8 * i)
  have hc0 := h.2.1.cell (i := 8 * t + i) (by omega)
  rw [show wv f (8 * t + i) = wd f (64 * t + 8 * i) from by unfold wv; congr 1; omega] at hc0
  have hn : N ≤ 8192 := h.2.2.2.2.1
  have HQ := Lib.hid (show ((N / 8 : Nat) : Int) = (n : Int) / 64 by omega)
  have hw1 : IntKind.i64.wrap (8 * (t : Int)) = 8 * (t : Int) := by rw [IntKind.wrap_i64]; omega
  have hw3 : IntKind.i64.wrap (8 * (t : Int) + (i : Int)) = ((8 * t + i : Nat) : Int) := by rw [IntKind.wrap_i64]; omega
  have d0 : decide ((t : Int) < 0) = false := decide_eq_false (by omega)
  have d1 : decide ((n : Int) / 64 ≤ (t : Int)) = false := decide_eq_false (by omega)
  have d2 : decide ((i : Int) < 0) = false := decide_eq_false (by omega)
  have d3 : decide (7 < (i : Int)) = false := decide_eq_false (by omega)

  have hlt : 8 * t + i < N := by omega
  have hcg := cell_of_one h.1
  have hA := (Below.refl w.heap.size w).alloc (Nat.le_refl _) (Obj.cells #[.int .i64 0, .bool false, .bool false, .bool false, .bool false, .bool false, .bool false] 24 (0, 0))
  have HA := Lib.hid (h.below hA)
  have hgb := h.lt
  clear hA h
  generalize wd f (64 * t + 8 * i) = x at *
  go_enter Try.func10, Try.ntmps10
  go_wp2_with fail
  refine (rframes_any g b N _ _ HA.out).mono ?_
  rintro e w1 ⟨rfl, rfl⟩
  rw [HQ.out]
  go_wp2_with fail
  refine (E.runpack_any x _ hx.1 hx.2).mono ?_
  rintro e w2 ⟨rfl, hb⟩
  unfold E.unEnt
  have hz : w.heap.size < w2.heap.size := by have := hb.size; simp at this; omega
  obtain ⟨hcc, hff⟩ := bcell hb
  have y1 : Below w.heap.size w w2 := ((Below.refl _ _).alloc (Nat.le_refl _) _).trans (hb.mono (by simp))
  have Y := Lib.hid y1
  clear y1 hb
  go_wp2_with fail
  refine bodyPost_ret (v := .tuple #[.agg #[.int .i64 (E.une0 x), .bool (E.unb x 0), .bool (E.unb x 1), .bool (E.unb x 7), .bool (E.unb x 9), .bool (E.unb x 5), .bool (E.unb x 6)], .int .i64 (E.une x)]) (by simp [results, Try.results10, go_sem, hcc, hz]) rfl ⟨rfl, by ((repeat (with_reducible refine Below.setCell ?_ (by simp) _)); with_reducible exact Y.out)⟩
set_option maxHeartbeats 1000000 in
theorem rput_ok (g b N n : Nat) (f : Nat → Int) (t i : Nat) (fr : Int) (p wr hu he us di : Bool) (w : World) (h : RMem w g b N (wv f)) (hN : n = N * 8) (ht : t < n / 64) (hi : i < 8) (hc : E.chk fr p wr hu he us di = 0) : Calls Try.prog 19 #[.pointer (some ⟨g, 0, none⟩), .int .i64 t, .int .i64 i, .agg #[.int .i64 fr, .bool p, .bool wr, .bool hu, .bool he, .bool us, .bool di]] w fun e w' => e = .returned (.int .i64 0) ∧ Oth b w w' ∧ RMem w' g b N (wv (lay f (64 * t + 8 * i) 8 (E.pkw fr p wr hu he us di))) := by
  have hr := pkw_range fr p wr hu he us di
  have HC := Lib.hid hc
  clear hc
  have hn : N ≤ 8192 := h.2.2.2.2.1
  have HQ := Lib.hid (show ((N / 8 : Nat) : Int) = (n : Int) / 64 by omega)
  have hw1 : IntKind.i64.wrap (8 * (t : Int)) = 8 * (t : Int) := by rw [IntKind.wrap_i64]; omega
  have hw3 : IntKind.i64.wrap (8 * (t : Int) + (i : Int)) = ((8 * t + i : Nat) : Int) := by rw [IntKind.wrap_i64]; omega
  have d0 : decide ((t : Int) < 0) = false := decide_eq_false (by omega)
  have d1 : decide ((n : Int) / 64 ≤ (t : Int)) = false := decide_eq_false (by omega)
  have d2 : decide ((i : Int) < 0) = false := decide_eq_false (by omega)
  have d3 : decide (7 < (i : Int)) = false := decide_eq_false (by omega)

  have hlt : 8 * t + i < N := by omega
  have hA := (Below.refl w.heap.size w).alloc (Nat.le_refl _) (Obj.cells #[.int .i64 fr, .bool p, .bool wr, .bool hu, .bool he, .bool us, .bool di] 24 (0, 0))
  have HA := Lib.hid (h.below hA)
  have HB := Lib.hid hA
  clear hA h
  generalize hX : E.pkw fr p wr hu he us di = x at *
  have HX := Lib.hid hX
  clear hX
  go_enter Try.func19, Try.ntmps19
  go_wp2_with fail
  refine (rframes_any g b N _ _ HA.out).mono ?_
  rintro e w1 ⟨rfl, rfl⟩
  rw [HQ.out]
  go_wp2_with fail
  refine (E.rpack_any fr p wr hu he us di _).mono ?_
  rintro e w2 ⟨rfl, hb⟩
  rw [HX.out, HC.out]
  have HM := Lib.hid (HA.out.below hb)
  have HB2 := Lib.hid (HB.out.trans (hb.mono HB.out.size))
  have c0 := cell_of_one HM.out.1
  have c1 := HM.out.2.1.cell (i := 8 * t + i) hlt
  have c2 := HM.out.2.1.frozen (8 * t + i)
  clear hb
  go_wp2_with fail
  go_ret
  refine ⟨rfl, Oth.of_below HB2.out (One.setCell _ _ _ _), (HM.out.set (8 * t + i) x).congr fun j hj => ?_⟩
  unfold wv
  split
  · rename_i hj; subst hj
    rw [show 64 * t + 8 * i = 8 * (8 * t + i) from by omega]
    exact (wd_lay f _ x hr).symm
  · exact (wd_other f _ _ x (by omega)).symm
set_option maxHeartbeats 1000000 in
theorem rput_bad (g b N n : Nat) (v : Nat → Int) (t i : Nat) (fr : Int) (p wr hu he us di : Bool) (w : World) (h : RMem w g b N v) (hN : n = N * 8) (ht : t < n / 64) (hi : i < 8) (hc : E.chk fr p wr hu he us di ≠ 0) : Calls Try.prog 19 #[.pointer (some ⟨g, 0, none⟩), .int .i64 t, .int .i64 i, .agg #[.int .i64 fr, .bool p, .bool wr, .bool hu, .bool he, .bool us, .bool di]] w fun e w' => e = .returned (.int .i64 (E.chk fr p wr hu he us di)) ∧ Below w.heap.size w w' := by
  have hc0 : (E.chk fr p wr hu he us di == 0) = false := beq_eq_false_iff_ne.2 hc
  clear hc
  have hn : N ≤ 8192 := h.2.2.2.2.1
  have HQ := Lib.hid (show ((N / 8 : Nat) : Int) = (n : Int) / 64 by omega)
  have hw1 : IntKind.i64.wrap (8 * (t : Int)) = 8 * (t : Int) := by rw [IntKind.wrap_i64]; omega
  have hw3 : IntKind.i64.wrap (8 * (t : Int) + (i : Int)) = ((8 * t + i : Nat) : Int) := by rw [IntKind.wrap_i64]; omega
  have d0 : decide ((t : Int) < 0) = false := decide_eq_false (by omega)
  have d1 : decide ((n : Int) / 64 ≤ (t : Int)) = false := decide_eq_false (by omega)
  have d2 : decide ((i : Int) < 0) = false := decide_eq_false (by omega)
  have d3 : decide (7 < (i : Int)) = false := decide_eq_false (by omega)

  have hA := (Below.refl w.heap.size w).alloc (Nat.le_refl _) (Obj.cells #[.int .i64 fr, .bool p, .bool wr, .bool hu, .bool he, .bool us, .bool di] 24 (0, 0))
  have HA := Lib.hid (h.below hA)
  have HB := Lib.hid hA
  clear hA h
  go_enter Try.func19, Try.ntmps19
  go_wp2_with fail
  refine (rframes_any g b N _ _ HA.out).mono ?_
  rintro e w1 ⟨rfl, rfl⟩
  rw [HQ.out]
  go_wp2_with fail
  refine (E.rpack_any fr p wr hu he us di _).mono ?_
  rintro e w2 ⟨rfl, hb⟩
  have HB2 := Lib.hid (HB.out.trans (hb.mono HB.out.size))
  clear hb
  go_wp2_with fail
  go_ret
  exact ⟨rfl, HB2.out⟩
theorem rput_any (g b N n : Nat) (f : Nat → Int) (t i : Int) (fr : Int) (p wr hu he us di : Bool) (w : World) (h : RMem w g b N (wv f)) (hN : n = N * 8) : Calls Try.prog 19 #[.pointer (some ⟨g, 0, none⟩), .int .i64 t, .int .i64 i, .agg #[.int .i64 fr, .bool p, .bool wr, .bool hu, .bool he, .bool us, .bool di]] w fun e w' => e = .returned (.int .i64 (ptE n t i fr p wr hu he us di)) ∧ Oth b w w' ∧ RMem w' g b N (wv (ptf n f t i fr p wr hu he us di)) := by
  unfold ptf ptE
  by_cases hr : 0 ≤ t ∧ t < (n : Int) / 64 ∧ 0 ≤ i ∧ i < 8
  · rw [if_pos hr]
    obtain ⟨h1, h2, h3, h4⟩ := hr
    obtain ⟨T, rfl⟩ := Int.eq_ofNat_of_zero_le h1
    obtain ⟨I, rfl⟩ := Int.eq_ofNat_of_zero_le h3
    by_cases hc : E.chk fr p wr hu he us di = 0
    · rw [if_pos hc, hc]
      exact rput_ok g b N n f T I fr p wr hu he us di w h hN (by omega) (by omega) hc
    · rw [if_neg hc]
      exact (rput_bad g b N n _ T I fr p wr hu he us di w h hN (by omega) (by omega) hc).mono fun e w' ⟨q1, q2⟩ => ⟨q1, Oth.of_bel q2, h.below q2⟩
  · rw [if_neg hr, if_neg (by omega)]
    exact (rput_no g b N n _ t i fr p wr hu he us di w h hN hr).mono fun e w' ⟨q1, q2⟩ => ⟨q1, Oth.of_bel q2, h.below q2⟩

end Go.Proofs.Ytfolbfacnlhlmaa

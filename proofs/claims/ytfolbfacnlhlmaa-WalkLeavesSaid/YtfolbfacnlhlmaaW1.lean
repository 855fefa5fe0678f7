/- Parts of the proofs of layer 7 (walk): contracts of its functions, and the laws' walks. -/
import Derived.Test.YtfolbfacnlhlmaaProg
import Derived.WalkKit
import Derived.WalkSpells
import Derived.WalkLawsBesides
import Derived.BigQuiet
import Derived.Deep.QuietTactic
import Derived.Lib.Hide
import Derived.Deep.RegionHeld3
import Derived.Deep.DeepCutAuto
import Derived.KernelRfl
import Derived.Deep.OwnRows
import Derived.Laws.CopyOwn
import Derived.Laws.CopyRow
import Derived.StillTailTactics
import Derived.Deep.RegionLaw
import Derived.Test.YtfolbfacnlhlmaaE5
import Derived.Test.YtfolbfacnlhlmaaE6
import Derived.Test.YtfolbfacnlhlmaaM14
import Derived.Test.YtfolbfacnlhlmaaG3
namespace Go.Proofs.Ytfolbfacnlhlmaa
open Go.RowKit
set_option linter.unusedVariables false
set_option linter.unusedSimpArgs false

theorem Oth.of_two {B : Nat} {w w1 w' : World} (h : Below w.heap.size w w1) (k : Oth B w1 w') : Oth B w w' :=
  ⟨k.1.trans h.os, k.2.1.trans h.tape, k.2.2.1.trans h.output, Nat.le_trans h.size k.2.2.2.1, fun b hb hne => (k.2.2.2.2 b (Nat.lt_of_lt_of_le hb h.size) hne).trans (h.block b hb)⟩
theorem Oth.of_bel {B : Nat} {w w' : World} (h : Below w.heap.size w w') : Oth B w w' := ⟨h.os, h.tape, h.output, h.size, fun b hb _ => h.block b hb⟩
set_option maxHeartbeats 1000000 in
theorem word_ok (g b n : Nat) (f : Nat → Int) (t i : Nat) (w : World) (h : Mem w g b n f) (ht : t < n / 64) (hi : i < 8) : Calls Try.prog 9 #[.pointer (some ⟨g, 0, none⟩), .int .i64 t, .int .i64 i] w fun e w' => e = .returned (.tuple #[E.unEnt (wd f (64 * t + 8 * i)), .int .i64 (E.une (wd f (64 * t + 8 * i)))]) ∧ Below w.heap.size w w' := by
  have hn : n ≤ 65536 := h.2.2.2.2.1
  have hx := wd_range f h.2.2.2.2.2.2 (64 * t + 8 * i)
  have HK := Lib.hid h
  have hw1 : IntKind.i64.wrap ((t : Int) * 64) = (t : Int) * 64 := by rw [IntKind.wrap_i64]; omega
  have hw2 : IntKind.i64.wrap (8 * (i : Int)) = 8 * (i : Int) := by rw [IntKind.wrap_i64]; omega
  have hw3 : IntKind.i64.wrap ((t : Int) * 64 + 8 * (i : Int)) = ((64 * t + 8 * i : Nat) : Int) := by rw [IntKind.wrap_i64]; omega
  have d0 : decide ((t : Int) < 0) = false := decide_eq_false (by omega)
  have d1 : decide ((n : Int) / 64 ≤ (t : Int)) = false := decide_eq_false (by omega)
  have d2 : decide ((i : Int) < 0) = false := decide_eq_false (by omega)
  have d3 : decide (8 ≤ (i : Int)) = false := decide_eq_false (by omega)
  generalize hX : wd f (64 * t + 8 * i) = x at *
  have HX := Lib.hid hX
  clear h hX
  have hA := (Below.refl w.heap.size w).alloc (Nat.le_refl _) (Obj.cells #[.int .i64 0, .bool false, .bool false, .bool false, .bool false, .bool false, .bool false] 24 (0, 0))
  have HA := Lib.hid (HK.out.below hA)
  clear hA
  go_enter Try.func9, Try.ntmps9
  go_wp2_with fail
  refine (frames_any g b n f _ HA.out).mono ?_
  rintro e w1 ⟨rfl, rfl⟩
  go_wp2_with fail
  refine (load_any g b n f (64 * t + 8 * i) _ HA.out (by omega) (by omega)).mono ?_
  rintro e w1 ⟨rfl, rfl⟩
  rw [HX.out]
  go_wp2_with fail
  refine (E.unpack_any x _ hx.1 hx.2).mono ?_
  rintro e w2 ⟨rfl, hb⟩
  unfold E.unEnt
  have hz : w.heap.size < w2.heap.size := by have := hb.size; simp at this; omega
  obtain ⟨hcc, hff⟩ := bcell hb
  have y1 : Below w.heap.size w w2 := ((Below.refl _ _).alloc (Nat.le_refl _) _).trans (hb.mono (by simp))
  have Y := Lib.hid y1
  clear y1 hb
  go_wp2_with fail
  refine bodyPost_ret (v := .tuple #[.agg #[.int .i64 (E.une0 x), .bool (E.unb x 0), .bool (E.unb x 1), .bool (E.unb x 7), .bool (E.unb x 9), .bool (E.unb x 5), .bool (E.unb x 6)], .int .i64 (E.une x)]) (by simp [results, Try.results9, go_sem, hcc, hz]) rfl ⟨rfl, by ((repeat (with_reducible refine Below.setCell ?_ (by simp) _)); with_reducible exact Y.out)⟩

end Go.Proofs.Ytfolbfacnlhlmaa

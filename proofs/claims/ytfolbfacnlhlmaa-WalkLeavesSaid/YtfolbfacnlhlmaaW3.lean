/- Parts of the proofs of layer 7 (walk): contracts of its functions, and the laws' walks. -/
import Derived.Test.YtfolbfacnlhlmaaProg
import Derived.WalkKit
import Derived.WalkSpells
import Derived.WalkLawsBesides
import Derived.BigQuiet
import Derived.Deep.QuietTactic
import Derived.Lib.Hide
import Derived.Deep.RegionHeld3
import Derived.Deep.DeepCutAuto
import Derived.KernelRfl
import Derived.Deep.OwnRows
import Derived.Laws.CopyOwn
import Derived.Laws.CopyRow
import Derived.StillTailTactics
import Derived.Deep.RegionLaw
import Derived.Test.YtfolbfacnlhlmaaW2
namespace Go.Proofs.Ytfolbfacnlhlmaa
open Go.RowKit
set_option linter.unusedVariables false
set_option linter.unusedSimpArgs false

theorem pkw_range (fr : Int) (p wr hu he us di : Bool) : 0 ≤ E.pkw fr p wr hu he us di ∧ E.pkw fr p wr hu he us di < 18446744073709551616 := by
  unfold E.pkw
  split
  · rename_i h
    have h1 := E.chk_range fr p wr hu he us di h
    have d : ∀ (b : Bool) (y : Int), E.b2 b y = 0 ∨ E.b2 b y = y := fun b y => by cases b <;> simp [E.b2]
    have d0 := d p 1
    have d1 := d wr 2
    have d5 := d us 32
    have d6 := d di 64
    have d7 := d hu 128
    have d9 := d he 512
    unfold E.pk
    omega
  · omega
/-- What Put answers, and the bytes after it. -/
def ptE (n : Nat) (t i : Int) (fr : Int) (p wr hu he us di : Bool) : Int := if 0 ≤ t ∧ t < (n : Int) / 64 ∧ 0 ≤ i ∧ i < 8 then E.chk fr p wr hu he us di else 3
def ptf (n : Nat) (f : Nat → Int) (t i : Int) (fr : Int) (p wr hu he us di : Bool) : Nat → Int := if ptE n t i fr p wr hu he us di = 0 then lay f (64 * t.toNat + 8 * i.toNat) 8 (E.pkw fr p wr hu he us di) else f
set_option maxHeartbeats 1000000 in
theorem put_ok (g b n : Nat) (f : Nat → Int) (t i : Nat) (fr : Int) (p wr hu he us di : Bool) (w : World) (h : Mem w g b n f) (ht : t < n / 64) (hi : i < 8) (hc : E.chk fr p wr hu he us di = 0) : Calls Try.prog 13 #[.pointer (some ⟨g, 0, none⟩), .int .i64 t, .int .i64 i, .agg #[.int .i64 fr, .bool p, .bool wr, .bool hu, .bool he, .bool us, .bool di]] w fun e w' => e = .returned (.int .i64 0) ∧ Oth b w w' ∧ Mem w' g b n (lay f (64 * t + 8 * i) 8 (E.pkw fr p wr hu he us di)) := by
  have hr := pkw_range fr p wr hu he us di
  have HC := Lib.hid hc
  clear hc
  have hn : n ≤ 65536 := h.2.2.2.2.1
  have hw1 : IntKind.i64.wrap ((t : Int) * 64) = (t : Int) * 64 := by rw [IntKind.wrap_i64]; omega
  have hw2 : IntKind.i64.wrap (8 * (i : Int)) = 8 * (i : Int) := by rw [IntKind.wrap_i64]; omega
  have hw3 : IntKind.i64.wrap ((t : Int) * 64 + 8 * (i : Int)) = ((64 * t + 8 * i : Nat) : Int) := by rw [IntKind.wrap_i64]; omega
  have d0 : decide ((t : Int) < 0) = false := decide_eq_false (by omega)
  have d1 : decide ((n : Int) / 64 ≤ (t : Int)) = false := decide_eq_false (by omega)
  have d2 : decide ((i : Int) < 0) = false := decide_eq_false (by omega)
  have d3 : decide (8 ≤ (i : Int)) = false := decide_eq_false (by omega)
  have hA := (Below.refl w.heap.size w).alloc (Nat.le_refl _) (Obj.cells #[.int .i64 fr, .bool p, .bool wr, .bool hu, .bool he, .bool us, .bool di] 24 (0, 0))
  have HA := Lib.hid (h.below hA)
  have HB := Lib.hid hA
  clear hA h

  generalize hX : E.pkw fr p wr hu he us di = x at *
  have HX := Lib.hid hX
  clear hX
  go_enter Try.func13, Try.ntmps13
  go_wp2_with fail
  refine (frames_any g b n f _ HA.out).mono ?_
  rintro e w1 ⟨rfl, rfl⟩
  go_wp2_with fail
  refine (E.pack_any fr p wr hu he us di _).mono ?_
  rintro e w2 ⟨rfl, hb⟩
  rw [HX.out, HC.out]
  have HM := Lib.hid (HA.out.below hb)
  have HB2 := Lib.hid (HB.out.trans (hb.mono HB.out.size))
  have hz := hb.size
  clear hb
  go_wp2_with fail
  refine (store_any g b n f (64 * t + 8 * i) x _ HM.out (by omega) (by omega) hr).mono ?_
  rintro e w3 ⟨rfl, ho, hm⟩
  have HO := Lib.hid (Oth.of_below HB2.out ho)
  have HM3 := Lib.hid hm
  clear ho hm
  go_wp2_with fail
  go_ret
  exact ⟨rfl, HO.out, HM3.out⟩
set_option maxHeartbeats 1000000 in
theorem put_bad (g b n : Nat) (f : Nat → Int) (t i : Nat) (fr : Int) (p wr hu he us di : Bool) (w : World) (h : Mem w g b n f) (ht : t < n / 64) (hi : i < 8) (hc : E.chk fr p wr hu he us di ≠ 0) : Calls Try.prog 13 #[.pointer (some ⟨g, 0, none⟩), .int .i64 t, .int .i64 i, .agg #[.int .i64 fr, .bool p, .bool wr, .bool hu, .bool he, .bool us, .bool di]] w fun e w' => e = .returned (.int .i64 (E.chk fr p wr hu he us di)) ∧ Below w.heap.size w w' := by
  have hc0 : (E.chk fr p wr hu he us di != 0) = true := bne_iff_ne.2 hc
  clear hc
  have hn : n ≤ 65536 := h.2.2.2.2.1
  have hw1 : IntKind.i64.wrap ((t : Int) * 64) = (t : Int) * 64 := by rw [IntKind.wrap_i64]; omega
  have hw2 : IntKind.i64.wrap (8 * (i : Int)) = 8 * (i : Int) := by rw [IntKind.wrap_i64]; omega
  have hw3 : IntKind.i64.wrap ((t : Int) * 64 + 8 * (i : Int)) = ((64 * t + 8 * i : Nat) : Int) := by rw [IntKind.wrap_i64]; omega
  have d0 : decide ((t : Int) < 0) = false := decide_eq_false (by omega)
  have d1 : decide ((n : Int) / 64 ≤ (t : Int)) = false := decide_eq_false (by omega)
  have d2 : decide ((i : Int) < 0) = false := decide_eq_false (by omega)
  have d3 : decide (8 ≤ (i : Int)) = false := decide_eq_false (by omega)
  have hA := (Below.refl w.heap.size w).alloc (Nat.le_refl _) (Obj.cells #[.int .i64 fr, .bool p, .bool wr, .bool hu, .bool he, .bool us, .bool di] 24 (0, 0))
  have HA := Lib.hid (h.below hA)
  have HB := Lib.hid hA
  clear hA h

  go_enter Try.func13, Try.ntmps13
  go_wp2_with fail
  refine (frames_any g b n f _ HA.out).mono ?_
  rintro e w1 ⟨rfl, rfl⟩
  go_wp2_with fail
  refine (E.pack_any fr p wr hu he us di _).mono ?_
  rintro e w2 ⟨rfl, hb⟩
  have HB2 := Lib.hid (HB.out.trans (hb.mono HB.out.size))
  clear hb
  go_wp2_with fail
  go_ret
  exact ⟨rfl, HB2.out⟩
theorem put_any (g b n : Nat) (f : Nat → Int) (t i : Int) (fr : Int) (p wr hu he us di : Bool) (w : World) (h : Mem w g b n f) : Calls Try.prog 13 #[.pointer (some ⟨g, 0, none⟩), .int .i64 t, .int .i64 i, .agg #[.int .i64 fr, .bool p, .bool wr, .bool hu, .bool he, .bool us, .bool di]] w fun e w' => e = .returned (.int .i64 (ptE n t i fr p wr hu he us di)) ∧ Oth b w w' ∧ Mem w' g b n (ptf n f t i fr p wr hu he us di) := by
  unfold ptf ptE
  by_cases hr : 0 ≤ t ∧ t < (n : Int) / 64 ∧ 0 ≤ i ∧ i < 8
  · rw [if_pos hr]
    obtain ⟨h1, h2, h3, h4⟩ := hr
    obtain ⟨T, rfl⟩ := Int.eq_ofNat_of_zero_le h1
    obtain ⟨I, rfl⟩ := Int.eq_ofNat_of_zero_le h3
    by_cases hc : E.chk fr p wr hu he us di = 0
    · rw [if_pos hc, hc]
      exact put_ok g b n f T I fr p wr hu he us di w h (by omega) (by omega) hc
    · rw [if_neg hc]
      exact (put_bad g b n f T I fr p wr hu he us di w h (by omega) (by omega) hc).mono fun e w' ⟨q1, q2⟩ => ⟨q1, Oth.of_bel q2, h.below q2⟩
  · rw [if_neg hr, if_neg (by omega)]
    exact (put_no g b n f t i fr p wr hu he us di w h hr).mono fun e w' ⟨q1, q2⟩ => ⟨q1, Oth.of_bel q2, h.below q2⟩

end Go.Proofs.Ytfolbfacnlhlmaa

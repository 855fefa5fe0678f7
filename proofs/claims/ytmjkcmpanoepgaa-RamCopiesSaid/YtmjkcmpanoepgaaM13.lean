/- Parts of the proofs of layer 2 (ram): contracts of its functions, and the laws' walks. -/
import Derived.Test.YtmjkcmpanoepgaaProg
import Derived.WalkKit
import Derived.WalkSpells
import Derived.WalkLawsBesides
import Derived.BigQuiet
import Derived.Deep.QuietTactic
import Derived.Lib.Hide
import Derived.Deep.RegionHeld3
import Derived.Deep.DeepCutAuto
import Derived.KernelRfl
import Derived.Deep.OwnRows
import Derived.Laws.CopyOwn
import Derived.Laws.CopyRow
import Derived.StillTailTactics
import Derived.Test.YtmjkcmpanoepgaaM12
namespace Go.Proofs.Ytmjkcmpanoepgaa
open Go.RowKit
set_option linter.unusedVariables false
set_option linter.unusedSimpArgs false

theorem act_oth {B b : Nat} {c0 c1 c2 c3 c4 : Int} {W w' : World} (h : B < W.heap.size ∧ W.cell? ⟨B, 0, none⟩ = some (.int .i64 c0) ∧ W.cell? ⟨B, 1, none⟩ = some (.int .i64 c1) ∧ W.cell? ⟨B, 2, none⟩ = some (.int .i64 c2) ∧ W.cell? ⟨B, 3, none⟩ = some (.int .i64 c3) ∧ W.cell? ⟨B, 4, none⟩ = some (.int .u64 c4)) (ho : Oth b W w') (hne : B ≠ b) : B < w'.heap.size ∧ w'.cell? ⟨B, 0, none⟩ = some (.int .i64 c0) ∧ w'.cell? ⟨B, 1, none⟩ = some (.int .i64 c1) ∧ w'.cell? ⟨B, 2, none⟩ = some (.int .i64 c2) ∧ w'.cell? ⟨B, 3, none⟩ = some (.int .i64 c3) ∧ w'.cell? ⟨B, 4, none⟩ = some (.int .u64 c4) := by
  obtain ⟨h, h0, h1, h2, h3, h4⟩ := h
  have hc : ∀ o, w'.cell? ⟨B, o, none⟩ = W.cell? ⟨B, o, none⟩ := fun o => World.cell?_of_block (a := ⟨B, o, none⟩) (ho.2.2.2.2 B h hne)
  exact ⟨Nat.lt_of_lt_of_le h ho.2.2.2.1, (hc _).trans h0, (hc _).trans h1, (hc _).trans h2, (hc _).trans h3, (hc _).trans h4⟩
/-- Both memories, coupled. -/
def Cp (w : World) (g b g2 b2 n : Nat) (f : Nat → Int) : Prop := Mem w g b n f ∧ RMem w g2 b2 (n / 8) (wv f) ∧ b ≠ b2 ∧ g ≠ b2 ∧ g2 ≠ b
theorem Cp.div {w : World} {g b g2 b2 n : Nat} {f : Nat → Int} (h : Cp w g b g2 b2 n f) : n = n / 8 * 8 := by
  have := h.1.2.2.2.2.2.1
  omega
theorem Cp.drewN {w : World} {g b g2 b2 n : Nat} {f : Nat → Int} (h : Cp w g b g2 b2 n f) (k : Nat) : Cp (w.drewN k) g b g2 b2 n f := h
theorem Cp.drew {w : World} {g b g2 b2 n : Nat} {f : Nat → Int} (h : Cp w g b g2 b2 n f) : Cp w.drew g b g2 b2 n f := h
theorem Cp.below {w w' : World} {g b g2 b2 n : Nat} {f : Nat → Int} (h : Cp w g b g2 b2 n f) (hb : Below w.heap.size w w') : Cp w' g b g2 b2 n f := ⟨h.1.below hb, h.2.1.below hb, h.2.2⟩
set_option maxHeartbeats 4000000 in
theorem do_any (g b g2 b2 n : Nat) (f : Nat → Int) (c0 c1 c2 c3 c4 : Int) (w : World) (h : Cp w g b g2 b2 n f) (r1 : -9223372036854775808 ≤ c1 ∧ c1 < 9223372036854775808) (r2 : -9223372036854775808 ≤ c2 ∧ c2 < 9223372036854775808) (r4 : 0 ≤ c4 ∧ c4 < 18446744073709551616) :
    Calls Try.prog 15 #[.pointer (some ⟨g, 0, none⟩), .pointer (some ⟨g2, 0, none⟩), .agg #[.int .i64 c0, .int .i64 c1, .int .i64 c2, .int .i64 c3, .int .u64 c4]] w fun e w' => e = .returned (.bool true) ∧ (∃ f', Cp w' g b g2 b2 n f') ∧ ∀ C, C ≤ b → C ≤ b2 → C ≤ w.heap.size → Below C w w' := by
  have hlb : b < w.heap.size := h.1.lt.2
  have hlb2 : b2 < w.heap.size := h.2.1.lt.2
  have hbx : Below w.heap.size w (w.alloc (.cells #[.int .i64 c0, .int .i64 c1, .int .i64 c2, .int .i64 c3, .int .u64 c4] 44)) := (Below.refl _ w).alloc (Nat.le_refl _) _
  have HD := Lib.hid h.div
  have HM := Lib.hid (h.below hbx).drew.1
  have HR := Lib.hid (h.below hbx).drew.2.1
  have HN := Lib.hid h.2.2
  have HB := Lib.hid hbx
  have HE := Lib.hid r1
  have HE2 := Lib.hid r2
  have HX := Lib.hid r4
  have n1 : w.heap.size ≠ b := by omega
  have n2 : w.heap.size ≠ b2 := by omega
  clear h hbx r1 r2 r4
  by_cases k0 : c0 = 0 ∨ c0 = 1
  · go_enter Try.func15, Try.ntmps15
    rcases k0 with rfl | rfl
    · go_wp2_with fail
      go_region_held3 (fun w' => w.heap.size < w'.heap.size ∧ w'.cell? ⟨w.heap.size, 0, none⟩ = some (.int .i64 0) ∧ w'.cell? ⟨w.heap.size, 1, none⟩ = some (.int .i64 c1) ∧ w'.cell? ⟨w.heap.size, 2, none⟩ = some (.int .i64 c2) ∧ w'.cell? ⟨w.heap.size, 3, none⟩ = some (.int .i64 c3) ∧ w'.cell? ⟨w.heap.size, 4, none⟩ = some (.int .u64 c4)) (first | exact act_oth (by assumption) hoa n1 | exact act_oth (by assumption) hob n2 | go_keep)
        (first
          | (go_at_call 11; refine (store_step g b n f c1 c4 _ HM.out HX.out).mono ?_; rintro e wa ⟨rfl, hoa, hma⟩)
          | (go_at_call 23; refine (rstore_step g2 b2 (n / 8) n f c1 c4 _ (HR.out.oth hoa HN.out.2.2 HN.out.1.symm) HD.out HX.out).mono ?_; rintro e wb ⟨rfl, hob, hmb⟩))
      go_wp2_with fail
      go_ret
      exact ⟨rfl, ⟨_, hma.oth hob HN.out.2.1 HN.out.1, hmb, HN.out⟩, fun C h1 h2 h3 => (((HB.out.mono h3).drew).trans (hoa.below h1 (Nat.le_trans h3 HB.out.size))).trans (hob.below h2 (Nat.le_trans (Nat.le_trans h3 HB.out.size) hoa.2.2.2.1))⟩
    · go_wp2_with fail
      go_region_held3 (fun w' => w.heap.size < w'.heap.size ∧ w'.cell? ⟨w.heap.size, 0, none⟩ = some (.int .i64 1) ∧ w'.cell? ⟨w.heap.size, 1, none⟩ = some (.int .i64 c1) ∧ w'.cell? ⟨w.heap.size, 2, none⟩ = some (.int .i64 c2) ∧ w'.cell? ⟨w.heap.size, 3, none⟩ = some (.int .i64 c3) ∧ w'.cell? ⟨w.heap.size, 4, none⟩ = some (.int .u64 c4)) (first | exact act_oth (by assumption) hoa n1 | exact act_oth (by assumption) hob n2 | go_keep)
        (first
          | (go_at_call 11; refine (store_step g b n f c1 c4 _ HM.out HX.out).mono ?_; rintro e wa ⟨rfl, hoa, hma⟩)
          | (go_at_call 23; refine (rstore_step g2 b2 (n / 8) n f c1 c4 _ (HR.out.oth hoa HN.out.2.2 HN.out.1.symm) HD.out HX.out).mono ?_; rintro e wb ⟨rfl, hob, hmb⟩))
      go_wp2_with fail
      go_ret
      exact ⟨rfl, ⟨_, hma.oth hob HN.out.2.1 HN.out.1, hmb, HN.out⟩, fun C h1 h2 h3 => (((HB.out.mono h3).drew).trans (hoa.below h1 (Nat.le_trans h3 HB.out.size))).trans (hob.below h2 (Nat.le_trans (Nat.le_trans h3 HB.out.size) hoa.2.2.2.1))⟩
  · have d0 : (c0 == 0) = false := by rw [beq_eq_false_iff_ne]; omega
    have d1 : (c0 == 1) = false := by rw [beq_eq_false_iff_ne]; omega
    by_cases k2 : c0 = 2
    · subst k2
      go_enter Try.func15, Try.ntmps15
      go_wp2_with fail
      go_region_held3 (fun w' => w.heap.size < w'.heap.size ∧ w'.cell? ⟨w.heap.size, 0, none⟩ = some (.int .i64 2) ∧ w'.cell? ⟨w.heap.size, 1, none⟩ = some (.int .i64 c1) ∧ w'.cell? ⟨w.heap.size, 2, none⟩ = some (.int .i64 c2) ∧ w'.cell? ⟨w.heap.size, 3, none⟩ = some (.int .i64 c3) ∧ w'.cell? ⟨w.heap.size, 4, none⟩ = some (.int .u64 c4)) (first | exact act_oth (by assumption) hoa n1 | exact act_oth (by assumption) hob n2 | go_keep)
        (first
          | (go_at_call 20; refine (zero_step g b n f c1 c3 _ HM.out HE.out).mono ?_; rintro e wa ⟨rfl, hoa, hma⟩)
          | (go_at_call 24; refine (rzero_step g2 b2 (n / 8) n f c1 c3 _ (HR.out.oth hoa HN.out.2.2 HN.out.1.symm) HD.out HE.out).mono ?_; rintro e wb ⟨rfl, hob, hmb⟩))
      go_wp2_with fail
      go_ret
      exact ⟨rfl, ⟨_, hma.oth hob HN.out.2.1 HN.out.1, hmb, HN.out⟩, fun C h1 h2 h3 => (((HB.out.mono h3).drew).trans (hoa.below h1 (Nat.le_trans h3 HB.out.size))).trans (hob.below h2 (Nat.le_trans (Nat.le_trans h3 HB.out.size) hoa.2.2.2.1))⟩
    · have d2 : (c0 == 2) = false := by rw [beq_eq_false_iff_ne]; exact k2
      go_enter Try.func15, Try.ntmps15
      go_wp2_with fail
      go_region_held3 (fun w' => w.heap.size < w'.heap.size ∧ w'.cell? ⟨w.heap.size, 0, none⟩ = some (.int .i64 c0) ∧ w'.cell? ⟨w.heap.size, 1, none⟩ = some (.int .i64 c1) ∧ w'.cell? ⟨w.heap.size, 2, none⟩ = some (.int .i64 c2) ∧ w'.cell? ⟨w.heap.size, 3, none⟩ = some (.int .i64 c3) ∧ w'.cell? ⟨w.heap.size, 4, none⟩ = some (.int .u64 c4)) (first | exact act_oth (by assumption) hoa n1 | exact act_oth (by assumption) hob n2 | go_keep)
        (first
          | (go_at_call 21; refine (copy_step g b n f c1 c2 c3 _ HM.out HE.out HE2.out).mono ?_; rintro e wa ⟨rfl, hoa, hma⟩)
          | (go_at_call 25; refine (rcopy_step g2 b2 (n / 8) n f c1 c2 c3 _ (HR.out.oth hoa HN.out.2.2 HN.out.1.symm) HD.out HE.out HE2.out).mono ?_; rintro e wb ⟨rfl, hob, hmb⟩))
      go_wp2_with fail
      go_ret
      exact ⟨rfl, ⟨_, hma.oth hob HN.out.2.1 HN.out.1, hmb, HN.out⟩, fun C h1 h2 h3 => (((HB.out.mono h3).drew).trans (hoa.below h1 (Nat.le_trans h3 HB.out.size))).trans (hob.below h2 (Nat.le_trans (Nat.le_trans h3 HB.out.size) hoa.2.2.2.1))⟩

end Go.Proofs.Ytmjkcmpanoepgaa

/- Parts of the proofs of layer 7 (walk): contracts of its functions, and the laws' walks. -/
import Derived.Test.YtfolbfacnlhlmaaProg
import Derived.WalkKit
import Derived.WalkSpells
import Derived.WalkLawsBesides
import Derived.BigQuiet
import Derived.Deep.QuietTactic
import Derived.Lib.Hide
import Derived.Deep.RegionHeld3
import Derived.Deep.DeepCutAuto
import Derived.KernelRfl
import Derived.Deep.OwnRows
import Derived.Laws.CopyOwn
import Derived.Laws.CopyRow
import Derived.StillTailTactics
import Derived.Deep.RegionLaw
import Derived.Test.YtfolbfacnlhlmaaE4D
namespace Go.Proofs.Ytfolbfacnlhlmaa
open Go.RowKit
set_option linter.unusedVariables false
set_option linter.unusedSimpArgs false
namespace E

theorem tb_at (x : Int) (k : Nat) : tb x (k : Int) = (x / 2 ^ k % 2 == 1) := by unfold tb; rw [Int.toNat_natCast]
theorem rt9 (x : Int) : (x % 4096 / 512 % 2 == 1) = tb x 9 := by
  rw [show tb x 9 = (x / 2 ^ 9 % 2 == 1) from tb_at x 9]; congr 1; omega
theorem rt7 (x : Int) : (x % 4096 / 128 % 2 == 1) = tb x 7 := by
  rw [show tb x 7 = (x / 2 ^ 7 % 2 == 1) from tb_at x 7]; congr 1; omega
theorem rt6 (x : Int) : (x % 4096 / 64 % 2 == 1) = tb x 6 := by
  rw [show tb x 6 = (x / 2 ^ 6 % 2 == 1) from tb_at x 6]; congr 1; omega
theorem rt5 (x : Int) : (x % 4096 / 32 % 2 == 1) = tb x 5 := by
  rw [show tb x 5 = (x / 2 ^ 5 % 2 == 1) from tb_at x 5]; congr 1; omega
theorem rt1 (x : Int) : (x % 4096 / 2 % 2 == 1) = tb x 1 := by
  rw [show tb x 1 = (x / 2 ^ 1 % 2 == 1) from tb_at x 1]; congr 1; omega
theorem rt0 (x : Int) : (x % 2 == 1) = tb x 0 := by
  rw [show tb x 0 = (x / 2 ^ 0 % 2 == 1) from tb_at x 0]; congr 1; omega
set_option maxHeartbeats 3000000 in
theorem runpack_any (x : Int) (w : World) (hx0 : 0 ≤ x) (hx1 : x < 18446744073709551616) :
    Calls Try.prog 25 #[.int .u64 x] w fun e w' => e = .returned (.tuple #[unEnt x, .int .i64 (une x)]) ∧ Below w.heap.size w w' := by
  by_cases hs : x / 4096 < 1048576
  · have t9 := rt9 x
    have t7 := rt7 x
    have t6 := rt6 x
    have t5 := rt5 x
    have t1 := rt1 x
    have t0 := rt0 x
    have hwr : IntKind.i64.wrap (x / 4096) = x / 4096 := by rw [IntKind.wrap_i64]; omega
    go_enter Try.func25, Try.ntmps25
    by_cases hc : unc x = 0
    · by_cases hv : unw x = x
      · have HE := Lib.hid (ent_yes (un_ok hs hc hv))
        have HN := Lib.hid (une_yes (un_ok hs hc hv))
        have k0 : (unc x != 0) = false := by simpa using hc
        have k1 : (unw x != x) = false := by simpa using hv
        clear hc hv
        go_wp2_with (go_at_call 30; refine (rpack_any _ _ _ _ _ _ _ _).mono ?_; rintro e w2 ⟨rfl, hb⟩; have hcc := bcell hb; obtain ⟨hcc, hff⟩ := hcc; have hl : w.heap.size < w.heap.size + 1 + 1 := (by omega); have hz : w.heap.size + 1 < w2.heap.size := (by have := hb.size; simp at this; omega); rw [show chk (x / 4096) (tb x 0) (tb x 1) (tb x 7) (tb x 9) (tb x 5) (tb x 6) = unc x from rfl, show pkw (x / 4096) (tb x 0) (tb x 1) (tb x 7) (tb x 9) (tb x 5) (tb x 6) = unw x from rfl])
        have y1 : Below w.heap.size w w2 := (((Below.refl _ _).alloc (Nat.le_refl _) _).alloc (by simp) _).trans (hb.mono (by simp <;> omega))
        refine bodyPost_ret (v := .tuple #[.agg #[.int .i64 (x / 4096), .bool (tb x 0), .bool (tb x 1), .bool (tb x 7), .bool (tb x 9), .bool (tb x 5), .bool (tb x 6)], .int .i64 0]) (by simp [results, Try.results25, go_sem, hcc, hz, hl]) rfl ⟨by rw [HE.out, HN.out], by ((iterate 7 (with_reducible refine Below.setCell ?_ (by simp) _)); with_reducible exact y1)⟩
      · have HE := Lib.hid (ent_no (un_no3 hv))
        have HN := Lib.hid (une_no (un_no3 hv))
        have k0 : (unc x != 0) = false := by simpa using hc
        have k1 : (unw x != x) = true := by simpa using hv
        clear hc hv
        go_wp2_with (go_at_call 30; refine (rpack_any _ _ _ _ _ _ _ _).mono ?_; rintro e w2 ⟨rfl, hb⟩; have hcc := bcell hb; obtain ⟨hcc, hff⟩ := hcc; have hl : w.heap.size < w.heap.size + 1 + 1 := (by omega); have hz : w.heap.size + 1 < w2.heap.size := (by have := hb.size; simp at this; omega); rw [show chk (x / 4096) (tb x 0) (tb x 1) (tb x 7) (tb x 9) (tb x 5) (tb x 6) = unc x from rfl, show pkw (x / 4096) (tb x 0) (tb x 1) (tb x 7) (tb x 9) (tb x 5) (tb x 6) = unw x from rfl])
        all_goals
          have y1 : Below w.heap.size w w2 := (((Below.refl _ _).alloc (Nat.le_refl _) _).alloc (by simp) _).trans (hb.mono (by simp <;> omega))
          refine bodyPost_ret (v := .tuple #[.agg #[.int .i64 0, .bool false, .bool false, .bool false, .bool false, .bool false, .bool false], .int .i64 5]) (by simp [results, Try.results25, go_sem, hcc, hz, hl]) rfl ⟨by rw [HE.out, HN.out], by ((iterate 7 (with_reducible refine Below.setCell ?_ (by simp) _)); with_reducible exact y1)⟩
    · have HE := Lib.hid (ent_no (un_no2 hc))
      have HN := Lib.hid (une_no (un_no2 hc))
      have k0 : (unc x != 0) = true := by simpa using hc
      clear hc
      go_wp2_with (go_at_call 30; refine (rpack_any _ _ _ _ _ _ _ _).mono ?_; rintro e w2 ⟨rfl, hb⟩; have hcc := bcell hb; obtain ⟨hcc, hff⟩ := hcc; have hl : w.heap.size < w.heap.size + 1 + 1 := (by omega); have hz : w.heap.size + 1 < w2.heap.size := (by have := hb.size; simp at this; omega); rw [show chk (x / 4096) (tb x 0) (tb x 1) (tb x 7) (tb x 9) (tb x 5) (tb x 6) = unc x from rfl, show pkw (x / 4096) (tb x 0) (tb x 1) (tb x 7) (tb x 9) (tb x 5) (tb x 6) = unw x from rfl])
      all_goals
        have y1 : Below w.heap.size w w2 := (((Below.refl _ _).alloc (Nat.le_refl _) _).alloc (by simp) _).trans (hb.mono (by simp <;> omega))
        refine bodyPost_ret (v := .tuple #[.agg #[.int .i64 0, .bool false, .bool false, .bool false, .bool false, .bool false, .bool false], .int .i64 5]) (by simp [results, Try.results25, go_sem, hcc, hz, hl]) rfl ⟨by rw [HE.out, HN.out], by ((iterate 7 (with_reducible refine Below.setCell ?_ (by simp) _)); with_reducible exact y1)⟩
  · have HE := Lib.hid (ent_no (un_no1 hs))
    have HN := Lib.hid (une_no (un_no1 hs))
    go_enter Try.func25, Try.ntmps25
    go_wp2
    refine bodyPost_ret (v := .tuple #[.agg #[.int .i64 0, .bool false, .bool false, .bool false, .bool false, .bool false, .bool false], .int .i64 5]) (by simp [results, Try.results25, go_sem]) rfl ⟨by rw [HE.out, HN.out], (Below.refl _ _).alloc (Nat.le_refl _) _⟩

end E
end Go.Proofs.Ytfolbfacnlhlmaa

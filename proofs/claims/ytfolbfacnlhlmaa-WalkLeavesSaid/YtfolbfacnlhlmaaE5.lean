/- Parts of the proofs of layer 7 (walk): contracts of its functions, and the laws' walks. -/
import Derived.Test.YtfolbfacnlhlmaaProg
import Derived.WalkKit
import Derived.WalkSpells
import Derived.WalkLawsBesides
import Derived.BigQuiet
import Derived.Deep.QuietTactic
import Derived.Lib.Hide
import Derived.Deep.RegionHeld3
import Derived.Deep.DeepCutAuto
import Derived.KernelRfl
import Derived.Deep.OwnRows
import Derived.Laws.CopyOwn
import Derived.Laws.CopyRow
import Derived.StillTailTactics
import Derived.Deep.RegionLaw
import Derived.Test.YtfolbfacnlhlmaaE4D
namespace Go.Proofs.Ytfolbfacnlhlmaa
open Go.RowKit
set_option linter.unusedVariables false
set_option linter.unusedSimpArgs false
namespace E

set_option maxHeartbeats 3000000 in
theorem unpack_any (x : Int) (w : World) (hx0 : 0 ≤ x) (hx1 : x < 18446744073709551616) :
    Calls Try.prog 23 #[.int .u64 x] w fun e w' => e = .returned (.tuple #[unEnt x, .int .i64 (une x)]) ∧ Below w.heap.size w w' := by
  by_cases hs : x / 4096 < 1048576
  · have hwr : IntKind.i64.wrap (x / 4096) = x / 4096 := by rw [IntKind.wrap_i64]; omega
    have HW := Lib.hid hwr
    clear hwr
    go_enter Try.func23, Try.ntmps23
    go_upto_region 4 with (fail)
    go_cut [5] (fun v5 wc => v5 = .pointer (some ⟨w.heap.size + 2, 0, none⟩) ∧ ∃ n, wc = (((w.alloc (.cells #[.int .u64 x] 25)).alloc (.cells #[.int .i64 0, .bool false, .bool false, .bool false, .bool false, .bool false, .bool false] 24)).alloc (.cells #[.int .i64 (x / 4096), .bool (tb x 0), .bool (tb x 1), .bool (tb x 7), .bool (tb x 9), .bool (tb x 5), .bool (tb x 6)] 24)).drewN n)
    case first =>
      go_region_held3 (fun w' => w'.cell? ⟨w.heap.size, 0, none⟩ = some (.int .u64 x)) (go_keep)
        (first | (go_at_call 31; refine (is_any _ x _ _ (by omega) (by omega) hx0 hx1 ?_).mono ?_; assumption; rintro e w' ⟨rfl, rfl⟩))
      all_goals (go_wp2_with fail; go_meet; exact ⟨rfl, 1, by rw [HW.out]; rfl⟩)
    case rest =>
      obtain ⟨rfl, n, rfl⟩ := hcut
      by_cases hc : unc x = 0
      · by_cases hv : unw x = x
        · have HE := Lib.hid (ent_yes (un_ok hs hc hv))
          have HN := Lib.hid (une_yes (un_ok hs hc hv))
          have k0 : (unc x != 0) = false := by simpa using hc
          have k1 : (unw x != x) = false := by simpa using hv
          clear hc hv
          go_wp2_with (go_at_call 27; refine (pack_any _ _ _ _ _ _ _ _).mono ?_; rintro e w2 ⟨rfl, hb⟩; have hcc := bcell hb; obtain ⟨hcc, hff⟩ := hcc; have hz : w.heap.size + 2 < w2.heap.size := (by have := hb.size; simp at this; omega); rw [show chk (x / 4096) (tb x 0) (tb x 1) (tb x 7) (tb x 9) (tb x 5) (tb x 6) = unc x from rfl, show pkw (x / 4096) (tb x 0) (tb x 1) (tb x 7) (tb x 9) (tb x 5) (tb x 6) = unw x from rfl])
          have y1 : Below w.heap.size w w2 := (below_drewN ((((Below.refl _ _).alloc (Nat.le_refl _) _).alloc (by simp) _).alloc (by simp <;> omega) _) n).trans (hb.mono (by simp <;> omega))
          refine bodyPost_ret (v := .tuple #[.agg #[.int .i64 (x / 4096), .bool (tb x 0), .bool (tb x 1), .bool (tb x 7), .bool (tb x 9), .bool (tb x 5), .bool (tb x 6)], .int .i64 0]) (by simp [results, Try.results23, go_sem, hcc, hz]) rfl ⟨by rw [HE.out, HN.out], by ((iterate 7 (with_reducible refine Below.setCell ?_ (by simp) _)); with_reducible exact y1)⟩
        · have HE := Lib.hid (ent_no (un_no3 hv))
          have HN := Lib.hid (une_no (un_no3 hv))
          have k0 : (unc x != 0) = false := by simpa using hc
          have k1 : (unw x != x) = true := by simpa using hv
          clear hc hv
          go_wp2_with (go_at_call 27; refine (pack_any _ _ _ _ _ _ _ _).mono ?_; rintro e w2 ⟨rfl, hb⟩; have hcc := bcell hb; obtain ⟨hcc, hff⟩ := hcc; have hz : w.heap.size + 2 < w2.heap.size := (by have := hb.size; simp at this; omega); rw [show chk (x / 4096) (tb x 0) (tb x 1) (tb x 7) (tb x 9) (tb x 5) (tb x 6) = unc x from rfl, show pkw (x / 4096) (tb x 0) (tb x 1) (tb x 7) (tb x 9) (tb x 5) (tb x 6) = unw x from rfl])
          all_goals
            have y1 : Below w.heap.size w w2 := (below_drewN ((((Below.refl _ _).alloc (Nat.le_refl _) _).alloc (by simp) _).alloc (by simp <;> omega) _) n).trans (hb.mono (by simp <;> omega))
            refine bodyPost_ret (v := .tuple #[.agg #[.int .i64 0, .bool false, .bool false, .bool false, .bool false, .bool false, .bool false], .int .i64 5]) (by simp [results, Try.results23, go_sem, hcc, hz]) rfl ⟨by rw [HE.out, HN.out], by ((iterate 7 (with_reducible refine Below.setCell ?_ (by simp) _)); with_reducible exact y1)⟩
      · have HE := Lib.hid (ent_no (un_no2 hc))
        have HN := Lib.hid (une_no (un_no2 hc))
        have k0 : (unc x != 0) = true := by simpa using hc
        clear hc
        go_wp2_with (go_at_call 27; refine (pack_any _ _ _ _ _ _ _ _).mono ?_; rintro e w2 ⟨rfl, hb⟩; have hcc := bcell hb; obtain ⟨hcc, hff⟩ := hcc; have hz : w.heap.size + 2 < w2.heap.size := (by have := hb.size; simp at this; omega); rw [show chk (x / 4096) (tb x 0) (tb x 1) (tb x 7) (tb x 9) (tb x 5) (tb x 6) = unc x from rfl, show pkw (x / 4096) (tb x 0) (tb x 1) (tb x 7) (tb x 9) (tb x 5) (tb x 6) = unw x from rfl])
        all_goals
          have y1 : Below w.heap.size w w2 := (below_drewN ((((Below.refl _ _).alloc (Nat.le_refl _) _).alloc (by simp) _).alloc (by simp <;> omega) _) n).trans (hb.mono (by simp <;> omega))
          refine bodyPost_ret (v := .tuple #[.agg #[.int .i64 0, .bool false, .bool false, .bool false, .bool false, .bool false, .bool false], .int .i64 5]) (by simp [results, Try.results23, go_sem, hcc, hz]) rfl ⟨by rw [HE.out, HN.out], by ((iterate 7 (with_reducible refine Below.setCell ?_ (by simp) _)); with_reducible exact y1)⟩
  · have HE := Lib.hid (ent_no (un_no1 hs))
    have HN := Lib.hid (une_no (un_no1 hs))
    go_enter Try.func23, Try.ntmps23
    go_wp2
    refine bodyPost_ret (v := .tuple #[.agg #[.int .i64 0, .bool false, .bool false, .bool false, .bool false, .bool false, .bool false], .int .i64 5]) (by simp [results, Try.results23, go_sem]) rfl ⟨by rw [HE.out, HN.out], ((Below.refl _ _).alloc (Nat.le_refl _) _).alloc (by simp) _⟩

end E
end Go.Proofs.Ytfolbfacnlhlmaa

/- Parts of the proofs of layer 7 (walk): contracts of its functions, and the laws' walks. -/
import Derived.Test.YtfolbfacnlhlmaaProg
import Derived.WalkKit
import Derived.WalkSpells
import Derived.WalkLawsBesides
import Derived.BigQuiet
import Derived.Deep.QuietTactic
import Derived.Lib.Hide
import Derived.Deep.RegionHeld3
import Derived.Deep.DeepCutAuto
import Derived.KernelRfl
import Derived.Deep.OwnRows
import Derived.Laws.CopyOwn
import Derived.Laws.CopyRow
import Derived.StillTailTactics
import Derived.Deep.RegionLaw
import Derived.Test.YtfolbfacnlhlmaaW15
namespace Go.Proofs.Ytfolbfacnlhlmaa
open Go.RowKit
set_option linter.unusedVariables false
set_option linter.unusedSimpArgs false
set_option maxHeartbeats 4000000 in
theorem leaves_law (frames : Int) (ao : Option Addr) (len cap : Nat) (z : Nat → LD) (root page other : Int) (w : World) (hlc : len ≤ cap) (hcm : cap ≤ maxLen) (hL : Lds w ao len z) :
    Calls Try.prog 4 #[.agg #[.int .i64 frames, .slice ao len cap, .int .i64 root, .int .i64 page], .int .i64 other] w fun e w' => e = .returned (.bool true) ∧ Below w.heap.size w w' := by
  obtain ⟨w0, hw0⟩ : ∃ w0, w0 = w.alloc (Obj.cells #[.int .i64 frames, .slice ao len cap, .int .i64 root, .int .i64 page] 39 (0, 0)) := ⟨_, rfl⟩
  have hb : Below w.heap.size w w0 := by rw [hw0]; exact (Below.refl _ w).alloc (Nat.le_refl _) _
  have q0 : w0.heap[w.heap.size]? = some (.cells #[.int .i64 frames, .slice ao len cap, .int .i64 root, .int .i64 page] 39 (0, 0)) := by rw [hw0]; exact Deep.blk_alloc_new _ _
  have HB := Lib.hid hb
  have HL := Lib.hid (hL.keep hb)
  clear hb hL
  obtain ⟨c0, c1, c2, c3⟩ := row4 q0
  by_cases hF : 8 ≤ frames ∧ frames ≤ 1024
  · obtain ⟨h0, h1⟩ := hF
    obtain ⟨F, rfl⟩ := Int.eq_ofNat_of_zero_le (show 0 ≤ frames by omega)
    go_enter Try.func4, Try.ntmps4
    go_upto_region 1 with fail
    rw [← hw0]
    clear hw0
    go_wp2_with fail
    refine (made_ok F ao len cap z _ (by omega) (by omega) hlc hcm HL.out).mono ?_
    rintro e w1 ⟨g, b, g2, b2, f, rfl, hm, _, hb⟩
    replace q0 := (hb.block _ (lt_of_block q0)).trans q0
    have HB1 := Lib.hid (HB.out.trans (hb.mono HB.out.size))
    have HM := Lib.hid hm
    clear hm hb HB HL c0 c1 c2 c3
    go_wp2_with fail
    refine (awake_any _).mono ?_
    rintro e w2 ⟨rfl, hb⟩
    replace q0 := (hb.block _ (lt_of_block q0)).trans q0
    obtain ⟨c0, c1, c2, c3⟩ := row4 q0
    have HB2 := Lib.hid (HB1.out.trans (hb.mono HB1.out.size))
    have HM2 := Lib.hid (HM.out.below hb)
    clear hb HB1 HM
    go_wp2_with fail
    by_cases hr : 0 ≤ page ∧ page < 4096 ∧ 0 ≤ root ∧ root < ((F * 64 : Nat) : Int) / 64
    ·
      obtain ⟨t, rfl⟩ := Int.eq_ofNat_of_zero_le hr.2.2.1
      have hp0 := hr.1
      have hp1 := hr.2.1
      have hW := fun w h => Walk_any g b (F * 64) f t page w h ⟨hr.1, hr.2.1⟩ (by omega)
      have hlev := wk_lev (F * 64) f page 3 t []
      replace hlev : (wk (F * 64) f page 4 t []).err = 0 → 0 ≤ (wk (F * 64) f page 4 t []).lev ∧ (wk (F * 64) f page 4 t []).lev ≤ 2 := fun h => by
        obtain ⟨h1, h2, h3⟩ := hlev h
        have h2' : (wk (F * 64) f page 4 t []).lev ≤ ((3 : Nat) : Int) := h2
        have h3' : (wk (F * 64) f page 4 t []).lev ≠ 3 := h3
        exact ⟨h1, by omega⟩
      have htwo := fun (he : (wk (F * 64) f page 4 t []).err = 0) hl => wk_two (F * 64) f page other t he hl
      have hW2 := fun (ho : 0 ≤ other ∧ other < 4096) w h => Walk_any g b (F * 64) f t other w h ho (by omega)
      obtain ⟨R, hR⟩ : ∃ R, wk (F * 64) f page 4 t [] = R := ⟨_, rfl⟩
      obtain ⟨R2, hR2⟩ : ∃ R, wk (F * 64) f other 4 t [] = R := ⟨_, rfl⟩
      rw [hR] at hlev hW
      rw [hR, hR2] at htwo
      rw [hR2] at hW2
      clear hR hR2 hr
      have htwo2 : 0 ≤ other ∧ other < 4096 → R.err = 0 → ((R.lev = 1 ∧ other / 8 = page / 8) ∨ (R.lev = 2 ∧ other / 64 = page / 64)) → ∃ y9, y9 - R.frm = other - page ∧ ∀ w, Mem w g b (F * 64) f → Calls Try.prog 11 #[.pointer (some ⟨g, 0, none⟩), .int .i64 t, .int .i64 other] w fun e w' => e = .returned (.tuple #[LV R.x R.lev y9, .int .i64 0]) ∧ Below w.heap.size w w' := by
        intro ho he hl
        obtain ⟨h1, h2, h3, h4⟩ := htwo he hl
        refine ⟨R2.frm, h4, ?_⟩
        rw [← h2, ← h3, ← h1]
        exact hW2 ho
      clear htwo hW2
      unfold LV at hW htwo2
      generalize E.une0 R.x = y0 at *
      generalize E.unb R.x 0 = y1 at *
      generalize E.unb R.x 1 = y2 at *
      generalize E.unb R.x 7 = y3 at *
      generalize E.unb R.x 9 = y4 at *
      generalize E.unb R.x 5 = y5 at *
      generalize E.unb R.x 6 = y6 at *
      generalize R.frm = y8 at *
      generalize R.err = er at *
      generalize R.lev = lev at *
      have HW := Lib.hid hW
      have HLEV := Lib.hid hlev
      have HTWO0 := Lib.hid htwo2
      clear hW hlev htwo2
      refine (HW.out _ HM2.out).mono ?_
      rintro e w3 ⟨rfl, hb⟩
      have hA : Below w3.heap.size w3 (w3.alloc (Obj.cells #[.int .i64 y0, .bool y1, .bool y2, .bool y3, .bool y4, .bool y5, .bool y6, .int .i64 lev, .int .i64 y8] 41 (0, 0))) := (Below.refl _ _).alloc (Nat.le_refl _) _
      have hN : (w3.alloc (Obj.cells #[.int .i64 y0, .bool y1, .bool y2, .bool y3, .bool y4, .bool y5, .bool y6, .int .i64 lev, .int .i64 y8] 41 (0, 0))).heap[w3.heap.size]? = some (.cells #[.int .i64 y0, .bool y1, .bool y2, .bool y3, .bool y4, .bool y5, .bool y6, .int .i64 lev, .int .i64 y8] 41 (0, 0)) := Deep.blk_alloc_new _ _
      have hAB := hb.trans (hA.mono hb.size)
      replace q0 := (hAB.block _ (lt_of_block q0)).trans q0
      have HB3 := Lib.hid (HB2.out.trans (hAB.mono HB2.out.size))
      have HM3 := Lib.hid (HM2.out.below hAB)
      clear hA hAB hb HB2 HM2
      go_upto_region 5 with fail
      clear c0 c1 c2 c3
      generalize w3.alloc (Obj.cells #[.int .i64 y0, .bool y1, .bool y2, .bool y3, .bool y4, .bool y5, .bool y6, .int .i64 lev, .int .i64 y8] 41 (0, 0)) = w4 at *
      obtain ⟨c0, c1, c2, c3⟩ := row4 q0
      have q1 := hN
      clear hN
      obtain ⟨b0, b1, b2, b3, b4, b5, b6, b7, b8⟩ := row9 q1
      by_cases he : er = 0
      · subst he
        by_cases hl0 : lev = 0
        · subst hl0
          go_wp2_with fail
          go_ret
          exact ⟨rfl, HB3.out⟩
        · have dl : (lev == 0) = false := by rw [beq_eq_false_iff_ne]; exact hl0
          by_cases ho0 : other < 0
          · have do0 : decide (other < 0) = true := decide_eq_true ho0
            go_wp2_with fail
            go_ret
            exact ⟨rfl, HB3.out⟩
          · have do0 : decide (other < 0) = false := decide_eq_false ho0
            have ho0' : 0 ≤ other := by omega
            by_cases ho1 : 4096 ≤ other
            · have do1 : decide (4096 ≤ other) = true := decide_eq_true ho1
              go_wp2_with fail
              go_ret
              exact ⟨rfl, HB3.out⟩
            · have do1 : decide (4096 ≤ other) = false := decide_eq_false ho1
              have ho1' : other < 4096 := by omega
              have hl12 : lev = 1 ∨ lev = 2 := by have := HLEV.out rfl; omega
              have HTWO := Lib.hid (HTWO0.out ⟨ho0', ho1'⟩)
              clear HTWO0 HLEV ho0 ho1 hl0 dl
              rcases hl12 with rfl | rfl
              ·
                have hpn : page / 8 = page / 8 := rfl
                by_cases hq : other / 8 = page / 8
                · obtain ⟨y9, hy9, hW2⟩ := HTWO.out rfl (.inl ⟨rfl, hq⟩)
                  have HW2 := Lib.hid hW2
                  clear hW2 HTWO
                  have dq : (other / 8 != page / 8) = false := by rw [bne_eq_false_iff_eq]; exact hq
                  clear hpn
                  go_wp2_with fail
                  go_quiet (fail)
                  go_wp2_with fail
                  refine (HW2.out _ (HM3.out.drewN _)).mono ?_
                  rintro e w5 ⟨rfl, hb⟩
                  have hb' : Below w4.heap.size w4 w5 := ⟨hb.os, hb.tape, hb.output, hb.size, hb.block⟩
                  clear hb
                  have hb := hb'
                  clear hb' b0 b1 b2 b3 b4 b5 b6 b7 b8
                  have hA : Below w5.heap.size w5 (w5.alloc (Obj.cells #[.int .i64 y0, .bool y1, .bool y2, .bool y3, .bool y4, .bool y5, .bool y6, .int .i64 1, .int .i64 y9] 41 (0, 0))) := (Below.refl _ _).alloc (Nat.le_refl _) _
                  have hN : (w5.alloc (Obj.cells #[.int .i64 y0, .bool y1, .bool y2, .bool y3, .bool y4, .bool y5, .bool y6, .int .i64 1, .int .i64 y9] 41 (0, 0))).heap[w5.heap.size]? = some (.cells #[.int .i64 y0, .bool y1, .bool y2, .bool y3, .bool y4, .bool y5, .bool y6, .int .i64 1, .int .i64 y9] 41 (0, 0)) := Deep.blk_alloc_new _ _
                  have hAB := hb.trans (hA.mono hb.size)
                  replace q0 := (hAB.block _ (lt_of_block q0)).trans q0
                  replace q1 := (hAB.block _ (lt_of_block q1)).trans q1
                  have HB5 := Lib.hid (HB3.out.trans (hAB.mono HB3.out.size))
                  have HM5 := Lib.hid (HM3.out.below hAB)
                  clear hA hAB hb HB3 HM3
                  go_upto_region 13 with fail
                  clear c0 c1 c2 c3
                  generalize w5.alloc (Obj.cells #[.int .i64 y0, .bool y1, .bool y2, .bool y3, .bool y4, .bool y5, .bool y6, .int .i64 1, .int .i64 y9] 41 (0, 0)) = w6 at *
                  obtain ⟨c0, c1, c2, c3⟩ := row4 q0
                  obtain ⟨b0, b1, b2, b3, b4, b5, b6, b7, b8⟩ := row9 q1
                  obtain ⟨a0, a1, a2, a3, a4, a5, a6, a7, a8⟩ := row9 hN
                  go_wp2_with fail
                  all_goals
                    go_ret
                    exact ⟨by first | rfl | simp, HB5.out⟩
                · have dq : (other / 8 != page / 8) = true := by rw [bne_iff_ne]; exact hq
                  clear hpn HTWO
                  go_wp2_with fail
                  go_quiet (fail)
                  go_wp2_with fail
                  go_ret
                  exact ⟨rfl, below_drewN HB3.out _⟩
              ·
                have hpn : page / 64 = page / 64 := rfl
                by_cases hq : other / 64 = page / 64
                · obtain ⟨y9, hy9, hW2⟩ := HTWO.out rfl (.inr ⟨rfl, hq⟩)
                  have HW2 := Lib.hid hW2
                  clear hW2 HTWO
                  have dq : (other / 64 != page / 64) = false := by rw [bne_eq_false_iff_eq]; exact hq
                  clear hpn
                  go_wp2_with fail
                  go_quiet (fail)
                  go_wp2_with fail
                  refine (HW2.out _ (HM3.out.drewN _)).mono ?_
                  rintro e w5 ⟨rfl, hb⟩
                  have hb' : Below w4.heap.size w4 w5 := ⟨hb.os, hb.tape, hb.output, hb.size, hb.block⟩
                  clear hb
                  have hb := hb'
                  clear hb' b0 b1 b2 b3 b4 b5 b6 b7 b8
                  have hA : Below w5.heap.size w5 (w5.alloc (Obj.cells #[.int .i64 y0, .bool y1, .bool y2, .bool y3, .bool y4, .bool y5, .bool y6, .int .i64 2, .int .i64 y9] 41 (0, 0))) := (Below.refl _ _).alloc (Nat.le_refl _) _
                  have hN : (w5.alloc (Obj.cells #[.int .i64 y0, .bool y1, .bool y2, .bool y3, .bool y4, .bool y5, .bool y6, .int .i64 2, .int .i64 y9] 41 (0, 0))).heap[w5.heap.size]? = some (.cells #[.int .i64 y0, .bool y1, .bool y2, .bool y3, .bool y4, .bool y5, .bool y6, .int .i64 2, .int .i64 y9] 41 (0, 0)) := Deep.blk_alloc_new _ _
                  have hAB := hb.trans (hA.mono hb.size)
                  replace q0 := (hAB.block _ (lt_of_block q0)).trans q0
                  replace q1 := (hAB.block _ (lt_of_block q1)).trans q1
                  have HB5 := Lib.hid (HB3.out.trans (hAB.mono HB3.out.size))
                  have HM5 := Lib.hid (HM3.out.below hAB)
                  clear hA hAB hb HB3 HM3
                  go_upto_region 13 with fail
                  clear c0 c1 c2 c3
                  generalize w5.alloc (Obj.cells #[.int .i64 y0, .bool y1, .bool y2, .bool y3, .bool y4, .bool y5, .bool y6, .int .i64 2, .int .i64 y9] 41 (0, 0)) = w6 at *
                  obtain ⟨c0, c1, c2, c3⟩ := row4 q0
                  obtain ⟨b0, b1, b2, b3, b4, b5, b6, b7, b8⟩ := row9 q1
                  obtain ⟨a0, a1, a2, a3, a4, a5, a6, a7, a8⟩ := row9 hN
                  go_wp2_with fail
                  all_goals
                    go_ret
                    exact ⟨by first | rfl | simp, HB5.out⟩
                · have dq : (other / 64 != page / 64) = true := by rw [bne_iff_ne]; exact hq
                  clear hpn HTWO
                  go_wp2_with fail
                  go_quiet (fail)
                  go_wp2_with fail
                  go_ret
                  exact ⟨rfl, below_drewN HB3.out _⟩
      · have de : (er != 0) = true := bne_iff_ne.2 he
        go_wp2_with fail
        go_ret
        exact ⟨rfl, HB3.out⟩
    ·
      have HR := Lib.hid hr
      clear hr
      refine (Walk_no g b (F * 64) f root page _ HM2.out HR.out).mono ?_
      rintro e w3 ⟨rfl, hb⟩
      have hA : Below w3.heap.size w3 (w3.alloc (Obj.cells #[.int .i64 0, .bool false, .bool false, .bool false, .bool false, .bool false, .bool false, .int .i64 0, .int .i64 0] 41 (0, 0))) := (Below.refl _ _).alloc (Nat.le_refl _) _
      have hN : (w3.alloc (Obj.cells #[.int .i64 0, .bool false, .bool false, .bool false, .bool false, .bool false, .bool false, .int .i64 0, .int .i64 0] 41 (0, 0))).heap[w3.heap.size]? = some (.cells #[.int .i64 0, .bool false, .bool false, .bool false, .bool false, .bool false, .bool false, .int .i64 0, .int .i64 0] 41 (0, 0)) := Deep.blk_alloc_new _ _
      have hAB := hb.trans (hA.mono hb.size)
      replace q0 := (hAB.block _ (lt_of_block q0)).trans q0
      have HB3 := Lib.hid (HB2.out.trans (hAB.mono HB2.out.size))
      have HM3 := Lib.hid (HM2.out.below hAB)
      clear hA hAB hb HB2 HM2
      go_upto_region 5 with fail
      clear c0 c1 c2 c3
      generalize w3.alloc (Obj.cells #[.int .i64 0, .bool false, .bool false, .bool false, .bool false, .bool false, .bool false, .int .i64 0, .int .i64 0] 41 (0, 0)) = w4 at *
      obtain ⟨c0, c1, c2, c3⟩ := row4 q0
      have q1 := hN
      clear hN
      obtain ⟨b0, b1, b2, b3, b4, b5, b6, b7, b8⟩ := row9 q1
      go_wp2_with fail
      go_ret
      exact ⟨rfl, HB3.out⟩
  · go_enter Try.func4, Try.ntmps4
    go_upto_region 1 with fail
    rw [← hw0]
    clear hw0
    go_wp2_with fail
    refine (made_no frames ao len cap _ (by omega)).mono ?_
    rintro e w1 ⟨rfl, rfl⟩
    go_wp2_with fail
    refine (awake_any _).mono ?_
    rintro e w2 ⟨rfl, hb⟩
    have HB2 := Lib.hid (HB.out.trans (hb.mono HB.out.size))
    clear hb
    go_wp2_with fail
    refine (awake_any _).mono ?_
    rintro e w3 ⟨rfl, hb⟩
    have HB3 := Lib.hid (HB2.out.trans (hb.mono HB2.out.size))
    clear hb
    go_wp2_with fail
    go_ret
    exact ⟨rfl, HB3.out⟩

end Go.Proofs.Ytfolbfacnlhlmaa

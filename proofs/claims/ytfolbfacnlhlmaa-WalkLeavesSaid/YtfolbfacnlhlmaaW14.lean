/- Parts of the proofs of layer 7 (walk): contracts of its functions, and the laws' walks. -/
import Derived.Test.YtfolbfacnlhlmaaProg
import Derived.WalkKit
import Derived.WalkSpells
import Derived.WalkLawsBesides
import Derived.BigQuiet
import Derived.Deep.QuietTactic
import Derived.Lib.Hide
import Derived.Deep.RegionHeld3
import Derived.Deep.DeepCutAuto
import Derived.KernelRfl
import Derived.Deep.OwnRows
import Derived.Laws.CopyOwn
import Derived.Laws.CopyRow
import Derived.StillTailTactics
import Derived.Deep.RegionLaw
import Derived.Test.YtfolbfacnlhlmaaW13
namespace Go.Proofs.Ytfolbfacnlhlmaa
open Go.RowKit
set_option linter.unusedVariables false
set_option linter.unusedSimpArgs false

theorem row4 {w : World} {B : Nat} {c0 c1 c2 c3 : Value} {t : TypeId} (h : w.heap[B]? = some (.cells #[c0, c1, c2, c3] t (0, 0))) :
    w.cell? ⟨B, 0, none⟩ = some c0 ∧ w.cell? ⟨B, 1, none⟩ = some c1 ∧ w.cell? ⟨B, 2, none⟩ = some c2 ∧ w.cell? ⟨B, 3, none⟩ = some c3 :=
  ⟨cell_of_row w B 0 _ t _ h, cell_of_row w B 1 _ t _ h, cell_of_row w B 2 _ t _ h, cell_of_row w B 3 _ t _ h⟩
set_option maxHeartbeats 4000000 in
theorem paths_law (frames : Int) (ao : Option Addr) (len cap : Nat) (z : Nat → LD) (root page : Int) (w : World) (hlc : len ≤ cap) (hcm : cap ≤ maxLen) (hL : Lds w ao len z) :
    Calls Try.prog 5 #[.agg #[.int .i64 frames, .slice ao len cap, .int .i64 root, .int .i64 page]] w fun e w' => e = .returned (.bool true) ∧ Below w.heap.size w w' := by
  obtain ⟨w0, hw0⟩ : ∃ w0, w0 = w.alloc (Obj.cells #[.int .i64 frames, .slice ao len cap, .int .i64 root, .int .i64 page] 39 (0, 0)) := ⟨_, rfl⟩
  have hb : Below w.heap.size w w0 := by rw [hw0]; exact (Below.refl _ w).alloc (Nat.le_refl _) _
  have q0 : w0.heap[w.heap.size]? = some (.cells #[.int .i64 frames, .slice ao len cap, .int .i64 root, .int .i64 page] 39 (0, 0)) := by rw [hw0]; exact Deep.blk_alloc_new _ _
  have HB := Lib.hid hb
  have HL := Lib.hid (hL.keep hb)
  clear hb hL
  obtain ⟨c0, c1, c2, c3⟩ := row4 q0
  by_cases hF : 8 ≤ frames ∧ frames ≤ 1024
  · obtain ⟨h0, h1⟩ := hF
    obtain ⟨F, rfl⟩ := Int.eq_ofNat_of_zero_le (show 0 ≤ frames by omega)
    go_enter Try.func5, Try.ntmps5
    go_upto_region 1 with fail
    rw [← hw0]
    clear hw0
    go_wp2_with fail
    refine (made_ok F ao len cap z _ (by omega) (by omega) hlc hcm HL.out).mono ?_
    rintro e w1 ⟨g, b, g2, b2, f, rfl, hm, _, hb⟩
    replace q0 := (hb.block _ (lt_of_block q0)).trans q0
    have HB1 := Lib.hid (HB.out.trans (hb.mono HB.out.size))
    have HM := Lib.hid hm
    clear hm hb HB HL c0 c1 c2 c3
    go_wp2_with fail
    refine (awake_any _).mono ?_
    rintro e w2 ⟨rfl, hb⟩
    replace q0 := (hb.block _ (lt_of_block q0)).trans q0
    obtain ⟨c0, c1, c2, c3⟩ := row4 q0
    have HB2 := Lib.hid (HB1.out.trans (hb.mono HB1.out.size))
    have HM2 := Lib.hid (HM.out.below hb)
    clear hb HB1 HM
    go_wp2_with fail
    by_cases hr : 0 ≤ page ∧ page < 4096 ∧ 0 ≤ root ∧ root < ((F * 64 : Nat) : Int) / 64
    ·
      obtain ⟨t, rfl⟩ := Int.eq_ofNat_of_zero_le hr.2.2.1
      have hlaw := wk_law (F * 64) f page 3 t [] rfl
      have hW := fun w h => Walk_any g b (F * 64) f t page w h ⟨hr.1, hr.2.1⟩ (by omega)
      have hP := fun w h => Path_any g b (F * 64) f t page w h ⟨hr.1, hr.2.1⟩ (by omega)
      obtain ⟨R, hR⟩ : ∃ R, wk (F * 64) f page 4 t [] = R := ⟨_, rfl⟩
      have hlaw2 := hlaw
      clear hlaw
      replace hlaw2 : ((wk (F * 64) f page 4 t []).err = 0 ∧ ∃ T, (wk (F * 64) f page 4 t []).path = [] ++ (t : Int) :: T ∧ ((wk (F * 64) f page 4 t []).path.length : Int) = 4 - (wk (F * 64) f page 4 t []).lev) ∨ ((wk (F * 64) f page 4 t []).err = 6 ∧ ∃ T, (wk (F * 64) f page 4 t []).path = [] ++ (t : Int) :: T ∧ (wk (F * 64) f page 4 t []).path.length ≤ 4) ∨ ((wk (F * 64) f page 4 t []).err = 5 ∧ (wk (F * 64) f page 4 t []).path = []) := by
        rcases hlaw2 with h | h | h
        · exact .inl h
        · exact .inr (.inl h)
        · exact .inr (.inr (by rw [show wk (F * 64) f page 4 t [] = FORM from h]; exact ⟨rfl, rfl⟩))
      have hlaw := hlaw2
      clear hlaw2
      rw [hR] at hlaw
      rw [hR] at hW hP
      clear hR hr
      unfold LV at hW
      generalize E.une0 R.x = y0 at hW
      generalize E.unb R.x 0 = y1 at hW
      generalize E.unb R.x 1 = y2 at hW
      generalize E.unb R.x 7 = y3 at hW
      generalize E.unb R.x 9 = y4 at hW
      generalize E.unb R.x 5 = y5 at hW
      generalize E.unb R.x 6 = y6 at hW
      generalize R.frm = y8 at hW
      generalize R.err = er at *
      generalize R.lev = lev at *
      generalize R.path = pa at *
      have HW := Lib.hid hW
      have HP := Lib.hid hP
      have HLAW := Lib.hid hlaw
      clear hW hP hlaw
      refine (HW.out _ HM2.out).mono ?_
      rintro e w3 ⟨rfl, hb⟩
      have hA : Below w3.heap.size w3 (w3.alloc (Obj.cells #[.int .i64 y0, .bool y1, .bool y2, .bool y3, .bool y4, .bool y5, .bool y6, .int .i64 lev, .int .i64 y8] 41 (0, 0))) := (Below.refl _ _).alloc (Nat.le_refl _) _
      have q1 : (w3.alloc (Obj.cells #[.int .i64 y0, .bool y1, .bool y2, .bool y3, .bool y4, .bool y5, .bool y6, .int .i64 lev, .int .i64 y8] 41 (0, 0))).heap[w3.heap.size]? = some (.cells #[.int .i64 y0, .bool y1, .bool y2, .bool y3, .bool y4, .bool y5, .bool y6, .int .i64 lev, .int .i64 y8] 41 (0, 0)) := Deep.blk_alloc_new _ _
      have hAB := hb.trans (hA.mono hb.size)
      replace q0 := (hAB.block _ (lt_of_block q0)).trans q0
      have HB3 := Lib.hid (HB2.out.trans (hAB.mono HB2.out.size))
      have HM3 := Lib.hid (HM2.out.below hAB)
      clear hA hAB hb HB2 HM2
      go_upto_region 5 with fail
      clear c0 c1 c2 c3
      generalize w3.alloc (Obj.cells #[.int .i64 y0, .bool y1, .bool y2, .bool y3, .bool y4, .bool y5, .bool y6, .int .i64 lev, .int .i64 y8] 41 (0, 0)) = w4 at *
      obtain ⟨c0, c1, c2, c3⟩ := row4 q0
      go_wp2_with fail
      refine (HP.out _ HM3.out).mono ?_
      rintro e w5 ⟨v, rfl, hri, hb⟩
      replace q1 := (hb.block _ (lt_of_block q1)).trans q1
      replace q0 := (hb.block _ (lt_of_block q0)).trans q0
      have HB5 := Lib.hid (HB3.out.trans (hb.mono HB3.out.size))
      clear hb HB3 HM3 c0 c1 c2 c3
      obtain ⟨c0, c1, c2, c3⟩ := row4 q0
      obtain ⟨b0, b1, b2, b3, b4, b5, b6, b7, b8⟩ := row9 q1
      clear q0 q1
      rcases HLAW.out with ⟨he, T, hpa, hlen⟩ | ⟨he, T, hpa, hlen⟩ | hfm
      · subst he
        subst hpa
        rcases RV.cases hri (by omega) with ⟨h0, _⟩ | ⟨h0, pb, po, pc, rfl, _, hpc, hd⟩
        · simp at h0
        have hc := hd 0 (.int .i64 t) rfl
        rw [Nat.add_zero] at hc
        unfold maxLen at hpc
        generalize ([] ++ (t : Int) :: T).length = pl at *
        have hw : IntKind.i64.wrap (4 - lev) = (pl : Int) := by rw [← hlen, IntKind.wrap_i64]; omega
        have h0i : (0 : Int) < (pl : Int) := by omega
        clear hd hri hlen
        go_wp2_with fail
        go_quiet (fail)
        go_wp2_with fail
        go_ret
        exact ⟨by first | rfl | simp, below_drewN HB5.out _⟩
      · subst he
        subst hpa
        rcases RV.cases hri (by omega) with ⟨h0, _⟩ | ⟨h0, pb, po, pc, rfl, _, hpc, hd⟩
        · simp at h0
        have hc := hd 0 (.int .i64 t) rfl
        rw [Nat.add_zero] at hc
        unfold maxLen at hpc
        generalize ([] ++ (t : Int) :: T).length = pl at *
        have h1i : decide ((1 : Int) ≤ (pl : Int)) = true := decide_eq_true (by omega)
        have h4i : decide ((pl : Int) ≤ 4) = true := decide_eq_true (by omega)
        have h0i : (0 : Int) < (pl : Int) := by omega
        clear hd hri hlen
        go_wp2_with fail
        go_quiet (fail)
        go_wp2_with fail
        go_ret
        exact ⟨by first | rfl | simp, below_drewN HB5.out _⟩
      · obtain ⟨rfl, rfl⟩ := hfm
        obtain ⟨ao', cap', rfl, _, _⟩ := RV.slice hri
        go_wp2_with fail
        go_ret
        exact ⟨by first | rfl | simp, HB5.out⟩
    ·
      have HR := Lib.hid hr
      clear hr
      refine (Walk_no g b (F * 64) f root page _ HM2.out HR.out).mono ?_
      rintro e w3 ⟨rfl, hb⟩
      have hA : Below w3.heap.size w3 (w3.alloc (Obj.cells #[.int .i64 0, .bool false, .bool false, .bool false, .bool false, .bool false, .bool false, .int .i64 0, .int .i64 0] 41 (0, 0))) := (Below.refl _ _).alloc (Nat.le_refl _) _
      have q1 : (w3.alloc (Obj.cells #[.int .i64 0, .bool false, .bool false, .bool false, .bool false, .bool false, .bool false, .int .i64 0, .int .i64 0] 41 (0, 0))).heap[w3.heap.size]? = some (.cells #[.int .i64 0, .bool false, .bool false, .bool false, .bool false, .bool false, .bool false, .int .i64 0, .int .i64 0] 41 (0, 0)) := Deep.blk_alloc_new _ _
      have hAB := hb.trans (hA.mono hb.size)
      replace q0 := (hAB.block _ (lt_of_block q0)).trans q0
      have HB3 := Lib.hid (HB2.out.trans (hAB.mono HB2.out.size))
      have HM3 := Lib.hid (HM2.out.below hAB)
      clear hA hAB hb HB2 HM2
      go_upto_region 5 with fail
      clear c0 c1 c2 c3
      generalize w3.alloc (Obj.cells #[.int .i64 0, .bool false, .bool false, .bool false, .bool false, .bool false, .bool false, .int .i64 0, .int .i64 0] 41 (0, 0)) = w4 at *
      obtain ⟨c0, c1, c2, c3⟩ := row4 q0
      go_wp2_with fail
      refine (Path_no g b (F * 64) f root page _ HM3.out HR.out).mono ?_
      rintro e w5 ⟨rfl, hb⟩
      replace q1 := (hb.block _ (lt_of_block q1)).trans q1
      replace q0 := (hb.block _ (lt_of_block q0)).trans q0
      have HB5 := Lib.hid (HB3.out.trans (hb.mono HB3.out.size))
      clear hb HB3 HM3 c0 c1 c2 c3
      obtain ⟨c0, c1, c2, c3⟩ := row4 q0
      obtain ⟨b0, b1, b2, b3, b4, b5, b6, b7, b8⟩ := row9 q1
      clear q0 q1
      go_wp2_with fail
      go_ret
      exact ⟨by first | rfl | simp, HB5.out⟩
  · go_enter Try.func5, Try.ntmps5
    go_upto_region 1 with fail
    rw [← hw0]
    clear hw0
    go_wp2_with fail
    refine (made_no frames ao len cap _ (by omega)).mono ?_
    rintro e w1 ⟨rfl, rfl⟩
    go_wp2_with fail
    refine (awake_any _).mono ?_
    rintro e w2 ⟨rfl, hb⟩
    have HB2 := Lib.hid (HB.out.trans (hb.mono HB.out.size))
    clear hb
    go_wp2_with fail
    refine (awake_any _).mono ?_
    rintro e w3 ⟨rfl, hb⟩
    have HB3 := Lib.hid (HB2.out.trans (hb.mono HB2.out.size))
    clear hb
    go_wp2_with fail
    go_ret
    exact ⟨rfl, HB3.out⟩

end Go.Proofs.Ytfolbfacnlhlmaa

/- Parts of the proofs of layer 7 (walk): contracts of its functions, and the laws' walks. -/
import Derived.Test.YtfolbfacnlhlmaaProg
import Derived.WalkKit
import Derived.WalkSpells
import Derived.WalkLawsBesides
import Derived.BigQuiet
import Derived.Deep.QuietTactic
import Derived.Lib.Hide
import Derived.Deep.RegionHeld3
import Derived.Deep.DeepCutAuto
import Derived.KernelRfl
import Derived.Deep.OwnRows
import Derived.Laws.CopyOwn
import Derived.Laws.CopyRow
import Derived.StillTailTactics
import Derived.Deep.RegionLaw
import Derived.Test.YtfolbfacnlhlmaaW11
namespace Go.Proofs.Ytfolbfacnlhlmaa
open Go.RowKit
set_option linter.unusedVariables false
set_option linter.unusedSimpArgs false

/-- Word and the document's Word answer alike. -/
theorem word_both (n N : Nat) (f : Nat → Int) (t i : Int) (hN : n = N * 8) (hf : ∀ i, 0 ≤ f i ∧ f i ≤ 255) : ∃ (y0 : Int) (y1 y2 y3 y4 y5 y6 : Bool) (er : Int),
    (∀ g b w, Mem w g b n f → Calls Try.prog 9 #[.pointer (some ⟨g, 0, none⟩), .int .i64 t, .int .i64 i] w fun e w' => e = .returned (.tuple #[.agg #[.int .i64 y0, .bool y1, .bool y2, .bool y3, .bool y4, .bool y5, .bool y6], .int .i64 er]) ∧ Below w.heap.size w w') ∧
    (∀ g b w, RMem w g b N (wv f) → Calls Try.prog 10 #[.pointer (some ⟨g, 0, none⟩), .int .i64 t, .int .i64 i] w fun e w' => e = .returned (.tuple #[.agg #[.int .i64 y0, .bool y1, .bool y2, .bool y3, .bool y4, .bool y5, .bool y6], .int .i64 er]) ∧ Below w.heap.size w w') := by
  by_cases hr : 0 ≤ t ∧ t < (n : Int) / 64 ∧ 0 ≤ i ∧ i < 8
  · obtain ⟨h1, h2, h3, h4⟩ := hr
    obtain ⟨T, rfl⟩ := Int.eq_ofNat_of_zero_le h1
    obtain ⟨I, rfl⟩ := Int.eq_ofNat_of_zero_le h3
    exact ⟨_, _, _, _, _, _, _, _, fun g b w h => word_ok g b n f T I w h (by omega) (by omega), fun g b w h => rword_ok g b N n f T I w h hN hf (by omega) (by omega)⟩
  · exact ⟨0, false, false, false, false, false, false, 3, fun g b w h => word_no g b n f t i w h hr, fun g b w h => rword_no g b N n (wv f) t i w h hN hr⟩
set_option maxHeartbeats 4000000 in
theorem words_law (frames : Int) (ao : Option Addr) (len cap : Nat) (z : Nat → LD) (t i fr : Int) (p wr hu he us di raw : Bool) (x : Int) (w : World) (hlc : len ≤ cap) (hcm : cap ≤ maxLen) (hL : Lds w ao len z) :
    Calls Try.prog 3 #[.int .i64 frames, .slice ao len cap, .agg #[.int .i64 t, .int .i64 i, .int .i64 fr, .bool p, .bool wr, .bool hu, .bool he, .bool us, .bool di, .bool raw, .int .u64 x]] w fun e w' => e = .returned (.bool true) ∧ Below w.heap.size w w' := by
  obtain ⟨w0, hw0⟩ : ∃ w0, w0 = w.alloc (Obj.cells #[.int .i64 t, .int .i64 i, .int .i64 fr, .bool p, .bool wr, .bool hu, .bool he, .bool us, .bool di, .bool raw, .int .u64 x] 27 (0, 0)) := ⟨_, rfl⟩
  have hb : Below w.heap.size w w0 := by rw [hw0]; exact (Below.refl _ w).alloc (Nat.le_refl _) _
  have q0 : w0.heap[w.heap.size]? = some (.cells #[.int .i64 t, .int .i64 i, .int .i64 fr, .bool p, .bool wr, .bool hu, .bool he, .bool us, .bool di, .bool raw, .int .u64 x] 27 (0, 0)) := by rw [hw0]; exact Deep.blk_alloc_new _ _
  have HB := Lib.hid hb
  have HL := Lib.hid (hL.keep hb)
  clear hb hL
  by_cases hF : 8 ≤ frames ∧ frames ≤ 1024
  · obtain ⟨h0, h1⟩ := hF
    obtain ⟨F, rfl⟩ := Int.eq_ofNat_of_zero_le (show 0 ≤ frames by omega)
    go_enter Try.func3, Try.ntmps3
    go_upto_region 1 with fail
    rw [← hw0]
    clear hw0
    go_wp2_with fail
    refine (made_ok F ao len cap z _ (by omega) (by omega) hlc hcm HL.out).mono ?_
    rintro e w1 ⟨g, b, g2, b2, f, rfl, hm, hr, hb⟩
    obtain ⟨y0, y1, y2, y3, y4, y5, y6, er, hW, hR⟩ := word_both (F * 64) (F * 8) f t i (by omega) hm.2.2.2.2.2.2
    have HW := Lib.hid hW
    have HR := Lib.hid hR
    replace q0 := (hb.block _ (lt_of_block q0)).trans q0
    have HB1 := Lib.hid (HB.out.trans (hb.mono HB.out.size))
    have HM := Lib.hid hm
    have HN := Lib.hid hr
    clear hm hr hb hW hR HB HL
    go_wp2_with fail
    refine (awake_any _).mono ?_
    rintro e w2 ⟨rfl, hb⟩
    replace q0 := (hb.block _ (lt_of_block q0)).trans q0
    obtain ⟨c0, c1, c2, c3, c4, c5, c6, c7, c8, c9, c10⟩ := row11 q0
    have HB2 := Lib.hid (HB1.out.trans (hb.mono HB1.out.size))
    have HM2 := Lib.hid (HM.out.below hb)
    have HN2 := Lib.hid (HN.out.below hb)
    clear hb HB1 HM HN
    go_wp2_with fail
    refine (HW.out _ _ _ HM2.out).mono ?_
    rintro e w3 ⟨rfl, hb⟩
    clear c0 c1 c2 c3 c4 c5 c6 c7 c8 c9 c10
    have hA : Below w3.heap.size w3 (w3.alloc (Obj.cells #[.int .i64 y0, .bool y1, .bool y2, .bool y3, .bool y4, .bool y5, .bool y6] 24 (0, 0))) := (Below.refl _ _).alloc (Nat.le_refl _) _
    have hN : (w3.alloc (Obj.cells #[.int .i64 y0, .bool y1, .bool y2, .bool y3, .bool y4, .bool y5, .bool y6] 24 (0, 0))).heap[w3.heap.size]? = some (.cells #[.int .i64 y0, .bool y1, .bool y2, .bool y3, .bool y4, .bool y5, .bool y6] 24 (0, 0)) := Deep.blk_alloc_new _ _
    have hAB := hb.trans (hA.mono hb.size)
    replace q0 := (hAB.block _ (lt_of_block q0)).trans q0
    have q1 := hN
    have HB3 := Lib.hid (HB2.out.trans (hAB.mono HB2.out.size))
    have HN3 := Lib.hid (HN2.out.below hAB)
    clear hA hN hAB hb HB2 HM2 HN2
    obtain ⟨c0, c1, c2, c3, c4, c5, c6, c7, c8, c9, c10⟩ := row11 q0
    go_upto_region 5 with fail
    generalize (w3.alloc (Obj.cells #[.int .i64 y0, .bool y1, .bool y2, .bool y3, .bool y4, .bool y5, .bool y6] 24 (0, 0))) = w4 at *
    go_wp2_with fail
    refine (HR.out _ _ _ HN3.out).mono ?_
    rintro e w5 ⟨rfl, hb⟩
    clear c0 c1 c2 c3 c4 c5 c6 c7 c8 c9 c10
    have hA : Below w5.heap.size w5 (w5.alloc (Obj.cells #[.int .i64 y0, .bool y1, .bool y2, .bool y3, .bool y4, .bool y5, .bool y6] 24 (0, 0))) := (Below.refl _ _).alloc (Nat.le_refl _) _
    have hN : (w5.alloc (Obj.cells #[.int .i64 y0, .bool y1, .bool y2, .bool y3, .bool y4, .bool y5, .bool y6] 24 (0, 0))).heap[w5.heap.size]? = some (.cells #[.int .i64 y0, .bool y1, .bool y2, .bool y3, .bool y4, .bool y5, .bool y6] 24 (0, 0)) := Deep.blk_alloc_new _ _
    have hAB := hb.trans (hA.mono hb.size)
    replace q1 := (hAB.block _ (lt_of_block q1)).trans q1
    have q2 := hN
    have HB5 := Lib.hid (HB3.out.trans (hAB.mono HB3.out.size))
    clear hA hN hAB hb HB3 HN3 q0
    go_upto_region 6 with fail
    generalize (w5.alloc (Obj.cells #[.int .i64 y0, .bool y1, .bool y2, .bool y3, .bool y4, .bool y5, .bool y6] 24 (0, 0))) = w6 at *
    obtain ⟨a0, a1, a2, a3, a4, a5, a6⟩ := row7 q1
    obtain ⟨b0, b1, b2, b3, b4, b5, b6⟩ := row7 q2
    go_wp2_with fail
    all_goals
      go_ret
      exact ⟨by first | rfl | simp, HB5.out⟩
  · go_enter Try.func3, Try.ntmps3
    go_upto_region 1 with fail
    rw [← hw0]
    clear hw0
    go_wp2_with fail
    refine (made_no frames ao len cap _ (by omega)).mono ?_
    rintro e w1 ⟨rfl, rfl⟩
    go_wp2_with fail
    refine (awake_any _).mono ?_
    rintro e w2 ⟨rfl, hb⟩
    have HB2 := Lib.hid (HB.out.trans (hb.mono HB.out.size))
    clear hb
    go_wp2_with fail
    refine (awake_any _).mono ?_
    rintro e w3 ⟨rfl, hb⟩
    have HB3 := Lib.hid (HB2.out.trans (hb.mono HB2.out.size))
    clear hb
    go_wp2_with fail
    go_ret
    exact ⟨rfl, HB3.out⟩

end Go.Proofs.Ytfolbfacnlhlmaa

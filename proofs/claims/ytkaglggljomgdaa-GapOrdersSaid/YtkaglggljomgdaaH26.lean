/- Parts of the proofs of layer 18 (gap): contracts of its functions, and the laws' walks. -/
import Derived.Test.YtkaglggljomgdaaProg
import Derived.WalkKit
import Derived.WalkSpells
import Derived.WalkLawsBesides
import Derived.BigQuiet
import Derived.Deep.QuietTactic
import Derived.Lib.Hide
import Derived.Deep.RegionHeld3
import Derived.Deep.DeepCutAuto
import Derived.KernelRfl
import Derived.Deep.OwnRows
import Derived.Laws.CopyOwn
import Derived.Laws.CopyRow
import Derived.StillTailTactics
import Derived.Deep.RegionLaw
import Derived.Test.YtkaglggljomgdaaH25
import Derived.OwnWalk
namespace Go.Proofs.Ytkaglggljomgdaa
open Go.RowKit
set_option linter.unusedVariables false
set_option linter.unusedSimpArgs false

theorem ins_length (x y : Int) (L : List (Int × Int)) : (ins x y L).length = L.length + 1 := by
  induction L with
  | nil => rfl
  | cons d L ih =>
    rw [ins]
    split
    · rfl
    · rw [List.length_cons, ih, List.length_cons]
theorem ask_chg {B g2 : Nat} {d0 d1 d2 : Int} {v : Value} {W w' : World} {F F' : List Nat} (h : W.cell? ⟨B, 0, none⟩ = some (.int .i64 d0) ∧ W.cell? ⟨B, 1, none⟩ = some (.int .i64 d1) ∧ W.cell? ⟨B, 2, none⟩ = some (.int .i64 d2) ∧ W.cell? ⟨g2, 0, none⟩ = some v) (hc : Chg F F' W w') (hB : B ∉ F) (hg : g2 ∉ F) :
    w'.cell? ⟨B, 0, none⟩ = some (.int .i64 d0) ∧ w'.cell? ⟨B, 1, none⟩ = some (.int .i64 d1) ∧ w'.cell? ⟨B, 2, none⟩ = some (.int .i64 d2) ∧ w'.cell? ⟨g2, 0, none⟩ = some v :=
  ⟨hc.cell h.1 hB, hc.cell h.2.1 hB, hc.cell h.2.2.1 hB, hc.cell h.2.2.2 hg⟩

set_option maxRecDepth 100000 in
set_option maxHeartbeats 8000000 in
theorem rooms_law (ao : Option Addr) (len cap : Nat) (z : Nat → Nat → Int) (d0 d1 d2 : Int) (w : World) (hlc : len ≤ cap) (hcm : cap ≤ maxLen) (hA : Acts w ao len z) : Calls Try.prog 3 #[.slice ao len cap, .agg #[.int .i64 d0, .int .i64 d1, .int .i64 d2]] w fun e w' => e = .returned (.bool true) ∧ Below w.heap.size w w' := by
  obtain ⟨w0, hw0⟩ : ∃ w0, w0 = w.alloc (.cells #[.int .i64 d0, .int .i64 d1, .int .i64 d2] 24) := ⟨_, rfl⟩
  have hb0 : Below w.heap.size w w0 := by rw [hw0]; exact (Below.refl _ w).alloc (Nat.le_refl _) _
  have hh : w0.heap[w.heap.size]? = some (.cells #[.int .i64 d0, .int .i64 d1, .int .i64 d2] 24 (0, 0)) := by rw [hw0]; exact heap_alloc_new w _
  have k0 : w0.cell? ⟨w.heap.size, 0, none⟩ = some (.int .i64 d0) := cell_of_row w0 w.heap.size 0 _ 24 _ hh
  have k1 : w0.cell? ⟨w.heap.size, 1, none⟩ = some (.int .i64 d1) := cell_of_row w0 w.heap.size 1 _ 24 _ hh
  have k2 : w0.cell? ⟨w.heap.size, 2, none⟩ = some (.int .i64 d2) := cell_of_row w0 w.heap.size 2 _ 24 _ hh
  have HB0 := Lib.hid hb0
  have hlt0 := lt_of_block hh
  have HM0 := Lib.hid (made_any ao len cap z w0 hlc hcm (hA.below hb0))
  clear hA hb0 hh
  go_enter Try.func3, Try.ntmps3
  go_upto_region 1 with fail
  rw [← hw0]
  clear hw0
  go_wp2_with fail
  refine HM0.out.mono ?_
  rintro e w1 ⟨g, g2, F1, F2, L, rfl, hm1, hb1⟩
  replace k0 := cell_keep hb1 k0
  replace k1 := cell_keep hb1 k1
  replace k2 := cell_keep hb1 k2
  have hK : ∀ b, b ∈ F1 ++ F2 → w.heap.size ≤ b ∧ w.heap.size ≠ b := fun b hb => by
    have := hm1.2 b hb
    have h2 := HB0.out.size
    have h3 := hlt0
    omega
  have HK := Lib.hid hK
  have HB1 := Lib.hid (HB0.out.trans (hb1.mono HB0.out.size))
  have HM1 := Lib.hid hm1.1
  clear hm1 hb1 hK HB0 HM0 hlt0
  go_wp2_with fail
  refine (awake_any w1).mono ?_
  rintro e w2 ⟨rfl, hb2⟩
  replace k0 := cell_keep hb2 k0
  replace k1 := cell_keep hb2 k1
  replace k2 := cell_keep hb2 k2
  have HM2 := Lib.hid (HM1.out.below hb2)
  have HB2 := Lib.hid (HB1.out.trans (hb2.mono HB1.out.size))
  have HRG := Lib.hid HM2.out.1.rg
  have HLN := Lib.hid (show L.length ≤ 5000 from by have := HM2.out.len; omega)
  clear hb2 HM1 HB1
  go_wp2_with fail
  refine (Room_any d0 d1 d2 g F1 L w2 HM2.out.1).mono ?_
  rintro e w3 ⟨rfl, hb3⟩
  replace k0 := cell_keep hb3 k0
  replace k1 := cell_keep hb3 k1
  replace k2 := cell_keep hb3 k2
  have HM3 := Lib.hid (HM2.out.below hb3)
  have HB3 := Lib.hid (HB2.out.trans (hb3.mono HB2.out.size))
  clear hb3 HM2 HB2
  go_wp2_with fail
  refine (RRoom_any d0 d1 d2 g2 F2 L w3 HM3.out.2.1 HLN.out HRG.out).mono ?_
  rintro e w4 ⟨rfl, hb4⟩
  have HB4 := Lib.hid (HB3.out.trans (hb4.mono HB3.out.size))
  clear hb4 HM3 HB3
  generalize roomV d0 d1 d2 L = rr at *
  go_wp2_with fail
  go_ret
  exact ⟨rfl, HB4.out⟩
set_option maxRecDepth 100000 in
set_option maxHeartbeats 8000000 in
theorem puts_law (ao : Option Addr) (len cap : Nat) (z : Nat → Nat → Int) (d0 d1 d2 : Int) (w : World) (hlc : len ≤ cap) (hcm : cap ≤ maxLen) (hA : Acts w ao len z) : Calls Try.prog 4 #[.slice ao len cap, .agg #[.int .i64 d0, .int .i64 d1, .int .i64 d2]] w fun e w' => e = .returned (.bool true) ∧ Below w.heap.size w w' := by
  obtain ⟨w0, hw0⟩ : ∃ w0, w0 = w.alloc (.cells #[.int .i64 d0, .int .i64 d1, .int .i64 d2] 24) := ⟨_, rfl⟩
  have hb0 : Below w.heap.size w w0 := by rw [hw0]; exact (Below.refl _ w).alloc (Nat.le_refl _) _
  have hh : w0.heap[w.heap.size]? = some (.cells #[.int .i64 d0, .int .i64 d1, .int .i64 d2] 24 (0, 0)) := by rw [hw0]; exact heap_alloc_new w _
  have k0 : w0.cell? ⟨w.heap.size, 0, none⟩ = some (.int .i64 d0) := cell_of_row w0 w.heap.size 0 _ 24 _ hh
  have k1 : w0.cell? ⟨w.heap.size, 1, none⟩ = some (.int .i64 d1) := cell_of_row w0 w.heap.size 1 _ 24 _ hh
  have k2 : w0.cell? ⟨w.heap.size, 2, none⟩ = some (.int .i64 d2) := cell_of_row w0 w.heap.size 2 _ 24 _ hh
  have HB0 := Lib.hid hb0
  have hlt0 := lt_of_block hh
  have HM0 := Lib.hid (made_any ao len cap z w0 hlc hcm (hA.below hb0))
  clear hA hb0 hh
  go_enter Try.func4, Try.ntmps4
  go_upto_region 1 with fail
  rw [← hw0]
  clear hw0
  go_wp2_with fail
  refine HM0.out.mono ?_
  rintro e w1 ⟨g, g2, F1, F2, L, rfl, hm1, hb1⟩
  replace k0 := cell_keep hb1 k0
  replace k1 := cell_keep hb1 k1
  replace k2 := cell_keep hb1 k2
  have hK : ∀ b, b ∈ F1 ++ F2 → w.heap.size ≤ b ∧ w.heap.size ≠ b := fun b hb => by
    have := hm1.2 b hb
    have h2 := HB0.out.size
    have h3 := hlt0
    omega
  have HK := Lib.hid hK
  have HB1 := Lib.hid (HB0.out.trans (hb1.mono HB0.out.size))
  have HM1 := Lib.hid hm1.1
  clear hm1 hb1 hK HB0 HM0 hlt0
  go_wp2_with fail
  refine (awake_any w1).mono ?_
  rintro e w2 ⟨rfl, hb2⟩
  replace k0 := cell_keep hb2 k0
  replace k1 := cell_keep hb2 k1
  replace k2 := cell_keep hb2 k2
  have HM2 := Lib.hid (HM1.out.below hb2)
  have HB2 := Lib.hid (HB1.out.trans (hb2.mono HB1.out.size))
  have HRG := Lib.hid HM2.out.1.rg
  have HLN := Lib.hid (show L.length ≤ 5000 from by have := HM2.out.len; omega)
  clear hb2 HM1 HB1
  go_wp2_with fail
  refine (Room_any d0 d1 d2 g F1 L w2 HM2.out.1).mono ?_
  rintro e w3 ⟨rfl, hb3⟩
  replace k0 := cell_keep hb3 k0
  replace k1 := cell_keep hb3 k1
  replace k2 := cell_keep hb3 k2
  have HM3 := Lib.hid (HM2.out.below hb3)
  have HB3 := Lib.hid (HB2.out.trans (hb3.mono HB2.out.size))
  clear hb3 HM2 HB2
  by_cases hr : (roomV d0 d1 d2 L).2 = 0
  · obtain ⟨r1, r2, r3, r4, r5, r6, r7, r8⟩ := roomV_ok HRG.out hr
    rw [hr]
    generalize (roomV d0 d1 d2 L).1 = p at *
    have hwp : IntKind.i64.wrap (p + d1) = p + d1 := by rw [IntKind.wrap_i64]; omega
    have HFR := Lib.hid (And.intro r7 (And.intro r5 r8))
    clear r5 r7 r8 hr
    go_wp2_with fail
    refine (RTaken_any g2 F2 L w3 HM3.out.2.1 HLN.out HRG.out).mono ?_
    rintro e w4 ⟨rfl, hrow, hb4⟩
    replace k0 := cell_keep hb4 k0
    replace k1 := cell_keep hb4 k1
    replace k2 := cell_keep hb4 k2
    have HM4 := Lib.hid (HM3.out.below hb4)
    have HB4 := Lib.hid (HB3.out.trans (hb4.mono HB3.out.size))
    have HROW := Lib.hid hrow
    clear hb4 HM3 HB3 hrow
    go_wp2_with fail
    go_loopw [11] (fun s wr => ∃ q : Nat, p ≤ (q : Int) ∧ (q : Int) ≤ p + d1 ∧ s = .int .i64 (q : Nat) ∧ wr = w4) (fun s _ => (p + d1 - intOf s).toNat)
    case atStart => exact ⟨p.toNat, by omega, by omega, by rw [Int.toNat_of_nonneg (by omega)], rfl⟩
    case round =>
      obtain ⟨q, hq1, hq2, rfl, rfl⟩ := hrel
      by_cases hq : (q : Int) < p + d1
      · have c1 := HROW.out.cell (i := q) (by omega)
        have ht : tkn L q = false := tkn_false.2 ⟨by omega, HFR.out.1 _ hq1 hq⟩
        rw [ht] at c1
        have hq3 : (q : Int) < 4096 := by omega
        clear ht
        go_wp2_with fail
        exact ⟨⟨q + 1, by omega, by omega, by simp, (by first | rfl | trivial)⟩, by simp [intOf]; omega⟩
      · obtain ⟨aL, cL, kL, _⟩ := HM4.out.2.1.cells
        have HEV := Lib.hid (show G.evn p d2 = true from by unfold G.evn G.ord; rw [HFR.out.2.1, decide_eq_true (show 0 ≤ d2 ∧ d2 ≤ 8 by omega)]; rfl)
        have HLP := Lib.hid (show (((putL p (p + d1) L).length : Nat) : Int) = (L.length : Nat) + 1 from by rw [show putL p (p + d1) L = ins p (p + d1) L from if_pos HFR.out.2.2, ins_length]; rfl)
        have hwl : IntKind.i64.wrap (((L.length : Nat) : Int) + 1) = ((L.length : Nat) : Int) + 1 := by have := HLN.out; rw [IntKind.wrap_i64]; omega
        have HN1 := Lib.hid (show w.heap.size ∉ F1 from fun h => (HK.out _ (List.mem_append_left _ h)).2 rfl)
        have HN2 := Lib.hid (show g2 ∉ F1 from fun h => HM4.out.2.2 g2 h (by obtain ⟨v, _, _, e, _⟩ := HM4.out.2.1; rw [e]; simp))
        have HFN := Lib.hid (fun b hb => (HK.out b (List.mem_append_left _ hb)).1)
        go_upto_region 13 with fail
        go_region_held3 (fun w' => (w'.cell? ⟨w.heap.size, 0, none⟩ = some (.int .i64 d0) ∧ w'.cell? ⟨w.heap.size, 1, none⟩ = some (.int .i64 d1) ∧ w'.cell? ⟨w.heap.size, 2, none⟩ = some (.int .i64 d2) ∧ w'.cell? ⟨g2, 0, none⟩ = some (.slice aL L.length cL))) (first | exact ask_chg (by assumption) hca HN1.out HN2.out | go_keep) (first
          | (go_at_call 15; refine (G.reven_any p d2 _ (by omega) (by omega)).mono ?_; rintro e _ ⟨rfl, rfl⟩; rw [HEV.out])
          | (go_at_call 16; refine (Put_any p (p + d1) g F1 L _ HM4.out.1.drew).mono ?_; rintro e wa ⟨rfl, F1', hca, hka⟩; rw [HFR.out.2.2])
          | (go_at_call 17; refine (Len_any g F1' _ _ hka).mono ?_; rintro e _ ⟨rfl, rfl⟩; rw [HLP.out]))
        go_wp2_with fail
        go_ret
        exact ⟨rfl, HB4.out.trans (hca.drew'.below HFN.out HB4.out.size)⟩
  · have hbad := roomV_bad hr
    have hr2 : ((roomV d0 d1 d2 L).2 != 0) = true := by rw [bne_iff_ne]; exact hr
    rw [hbad]
    generalize (roomV d0 d1 d2 L).2 = q at *
    go_wp2_with fail
    go_ret
    exact ⟨rfl, HB3.out⟩

end Go.Proofs.Ytkaglggljomgdaa

/- Parts of the proofs of layer 18 (gap): contracts of its functions, and the laws' walks. -/
import Derived.Test.YtkaglggljomgdaaProg
import Derived.WalkKit
import Derived.WalkSpells
import Derived.WalkLawsBesides
import Derived.BigQuiet
import Derived.Deep.QuietTactic
import Derived.Lib.Hide
import Derived.Deep.RegionHeld3
import Derived.Deep.DeepCutAuto
import Derived.KernelRfl
import Derived.Deep.OwnRows
import Derived.Laws.CopyOwn
import Derived.Laws.CopyRow
import Derived.StillTailTactics
import Derived.Deep.RegionLaw
import Derived.Test.YtkaglggljomgdaaK5
import Derived.Test.YtkaglggljomgdaaH20
import Derived.OwnWalk
namespace Go.Proofs.Ytkaglggljomgdaa
open Go.RowKit
set_option linter.unusedVariables false
set_option linter.unusedSimpArgs false

/-- Both trees, apart from each other, with the same stretches. -/
def Two (w : World) (g : Nat) (F1 : List Nat) (g2 : Nat) (F2 : List Nat) (L : List (Int × Int)) : Prop := Gt w g F1 L ∧ Rt w g2 F2 L ∧ Sep F1 F2
theorem Gt.drew {w : World} {g : Nat} {F : List Nat} {L : List (Int × Int)} (h : Gt w g F L) : Gt w.drew g F L := h.of_blocks fun _ _ => rfl
theorem Two.drew {w : World} {g g2 : Nat} {F1 F2 : List Nat} {L : List (Int × Int)} (t : Two w g F1 g2 F2 L) : Two w.drew g F1 g2 F2 L := ⟨t.1.drew, t.2.1, t.2.2⟩
theorem Two.below {w w' : World} {g g2 : Nat} {F1 F2 : List Nat} {L : List (Int × Int)} (t : Two w g F1 g2 F2 L) (hb : Below w.heap.size w w') : Two w' g F1 g2 F2 L := ⟨t.1.below hb, t.2.1.below hb, t.2.2⟩
theorem Two.lt {w : World} {g g2 : Nat} {F1 F2 : List Nat} {L : List (Int × Int)} (t : Two w g F1 g2 F2 L) : ∀ b, b ∈ F1 ++ F2 → b < w.heap.size := fun b hb => by
  rcases List.mem_append.1 hb with hb | hb
  · exact t.1.lt b hb
  · exact t.2.1.lt b hb
theorem Two.step {w w1 : World} {g g2 : Nat} {F1 F2 F1' : List Nat} {L L' : List (Int × Int)} (t : Two w g F1 g2 F2 L) (hc : Chg F1 F1' w w1) (hk : Gt w1 g F1' L') : Rt w1 g2 F2 L ∧ Sep F1' F2 :=
  ⟨t.2.1.chg hc t.2.2.symm, hc.sep t.2.2 t.2.1.lt⟩
theorem Two.len {w : World} {g g2 : Nat} {F1 F2 : List Nat} {L : List (Int × Int)} (t : Two w g F1 g2 F2 L) : L.length ≤ 4095 := by
  have := t.1.rg.length
  omega
theorem Chg.both {F1 F1' F2 F2' : List Nat} {w w1 w2 : World} (h : Chg F1 F1' w w1) (k : Chg F2 F2' w1 w2) : Chg (F1 ++ F2) (F1' ++ F2') w w2 := by
  obtain ⟨h1, h2, h3, h4, h5, h6⟩ := h
  obtain ⟨k1, k2, k3, k4, k5, k6⟩ := k
  refine ⟨k1.trans h1, k2.trans h2, k3.trans h3, Nat.le_trans h4 k4, fun x hx hf => ?_, fun x hx => ?_⟩
  · exact (k5 x (Nat.lt_of_lt_of_le hx h4) fun hm => hf (by simp [hm])).trans (h5 x hx fun hm => hf (by simp [hm]))
  · rcases List.mem_append.1 hx with hx | hx
    · exact (h6 x hx).imp (fun q => by simp [q]) id
    · rcases k6 x hx with hx | hx
      · exact .inl (by simp [hx])
      · exact .inr (Nat.le_trans h4 hx)
theorem act_chg {B : Nat} {k0 c1 c2 c3 : Int} {W w' : World} {F F' : List Nat} (h : (W.cell? ⟨B, 0, none⟩ = some (.int .i64 k0) ∧ W.cell? ⟨B, 1, none⟩ = some (.int .i64 c1) ∧ W.cell? ⟨B, 2, none⟩ = some (.int .i64 c2) ∧ W.cell? ⟨B, 3, none⟩ = some (.int .i64 c3))) (hc : Chg F F' W w') (hB : B ∉ F) : (w'.cell? ⟨B, 0, none⟩ = some (.int .i64 k0) ∧ w'.cell? ⟨B, 1, none⟩ = some (.int .i64 c1) ∧ w'.cell? ⟨B, 2, none⟩ = some (.int .i64 c2) ∧ w'.cell? ⟨B, 3, none⟩ = some (.int .i64 c3)) :=
  ⟨hc.cell h.1 hB, hc.cell h.2.1 hB, hc.cell h.2.2.1 hB, hc.cell h.2.2.2 hB⟩
theorem act2_chg {B : Nat} {s0 s1 : Int} {W w' : World} {F F' : List Nat} (h : W.cell? ⟨B, 0, none⟩ = some (.int .i64 s0) ∧ W.cell? ⟨B, 1, none⟩ = some (.int .i64 s1)) (hc : Chg F F' W w') (hB : B ∉ F) : w'.cell? ⟨B, 0, none⟩ = some (.int .i64 s0) ∧ w'.cell? ⟨B, 1, none⟩ = some (.int .i64 s1) :=
  ⟨hc.cell h.1 hB, hc.cell h.2 hB⟩
theorem below_drew {B : Nat} {a w : World} (h : Below B a w) : Below B a w.drew := ⟨h.os, h.tape, h.output, h.size, h.block⟩
set_option maxRecDepth 100000 in
set_option maxHeartbeats 8000000 in
theorem do_any (g : Nat) (F1 : List Nat) (g2 : Nat) (F2 : List Nat) (L : List (Int × Int)) (k0 c1 c2 c3 : Int) (w : World) (t : Two w g F1 g2 F2 L) :
    Calls Try.prog 28 #[.pointer (some ⟨g, 0, none⟩), .pointer (some ⟨g2, 0, none⟩), .agg #[.int .i64 k0, .int .i64 c1, .int .i64 c2, .int .i64 c3]] w fun e w' => e = .returned (.bool true) ∧ ∃ F1' F2' L', Two w' g F1' g2 F2' L' ∧ Chg (F1 ++ F2) (F1' ++ F2') w w' := by
  have hbx : Below w.heap.size w (w.alloc (.cells #[.int .i64 k0, .int .i64 c1, .int .i64 c2, .int .i64 c3] 54)) := (Below.refl _ w).alloc (Nat.le_refl _) _
  have hh := heap_alloc_new w (.cells #[.int .i64 k0, .int .i64 c1, .int .i64 c2, .int .i64 c3] 54)
  have HB1 := Lib.hid (show w.heap.size ∉ F1 from fun hb => Nat.lt_irrefl _ (t.1.lt _ hb))
  have HB2 := Lib.hid (show w.heap.size ∉ F2 from fun hb => Nat.lt_irrefl _ (t.2.1.lt _ hb))
  have HLN := Lib.hid (show L.length ≤ 5000 from by have := t.len; omega)
  have HRG := Lib.hid t.1.rg
  have HBX : RowKit.Hid (∀ {F' : List Nat} {w' : World}, Chg (F1 ++ F2) F' (w.alloc (.cells #[.int .i64 k0, .int .i64 c1, .int .i64 c2, .int .i64 c3] 54)) w' → Chg (F1 ++ F2) F' w w') := Lib.hid fun h => (Chg.of_below hbx).trans h
  have HT := Lib.hid (t.below hbx)
  generalize hw0 : w.alloc (.cells #[.int .i64 k0, .int .i64 c1, .int .i64 c2, .int .i64 c3] 54) = w0 at *
  have j0 : w0.cell? ⟨w.heap.size, 0, none⟩ = some (.int .i64 k0) := cell_of_row w0 w.heap.size 0 _ 54 _ hh
  have j1 : w0.cell? ⟨w.heap.size, 1, none⟩ = some (.int .i64 c1) := cell_of_row w0 w.heap.size 1 _ 54 _ hh
  have j2 : w0.cell? ⟨w.heap.size, 2, none⟩ = some (.int .i64 c2) := cell_of_row w0 w.heap.size 2 _ 54 _ hh
  have j3 : w0.cell? ⟨w.heap.size, 3, none⟩ = some (.int .i64 c3) := cell_of_row w0 w.heap.size 3 _ 54 _ hh
  clear hbx hh t
  go_enter Try.func28, Try.ntmps28
  go_upto_region 1 with fail
  try rw [hw0]
  clear hw0
  by_cases h012 : k0 = 0 ∨ k0 = 1 ∨ k0 = 2
  · rcases h012 with rfl | rfl | rfl
    · go_upto_region 5 with fail
      go_region_held3 (fun w' => (w'.cell? ⟨w.heap.size, 0, none⟩ = some (.int .i64 0) ∧ w'.cell? ⟨w.heap.size, 1, none⟩ = some (.int .i64 c1) ∧ w'.cell? ⟨w.heap.size, 2, none⟩ = some (.int .i64 c2) ∧ w'.cell? ⟨w.heap.size, 3, none⟩ = some (.int .i64 c3))) (first | exact act_chg (by assumption) hca HB1.out | exact act_chg (by assumption) hcb HB2.out | go_keep) (first
        | (go_at_call 16; refine (Put_any c1 c2 g F1 L _ HT.out.1.drew).mono ?_; rintro e wa ⟨rfl, F1', hca, hka⟩)
        | (go_at_call 40; refine (RPut_any c1 c2 g2 F2 L _ (HT.out.drew.step hca hka).1 HLN.out).mono ?_; rintro e wb ⟨rfl, F2', hcb, hkb⟩))
      go_wp2_with fail
      go_ret
      exact ⟨by first | rfl | simp, F1', F2', _, ⟨hka.chg hcb (HT.out.drew.step hca hka).2, hkb, (hcb.sep (HT.out.drew.step hca hka).2.symm hka.lt).symm⟩, HBX.out (Chg.both hca hcb)⟩
    · go_upto_region 5 with fail
      go_region_held3 (fun w' => (w'.cell? ⟨w.heap.size, 0, none⟩ = some (.int .i64 1) ∧ w'.cell? ⟨w.heap.size, 1, none⟩ = some (.int .i64 c1) ∧ w'.cell? ⟨w.heap.size, 2, none⟩ = some (.int .i64 c2) ∧ w'.cell? ⟨w.heap.size, 3, none⟩ = some (.int .i64 c3))) (first | exact act_chg (by assumption) hca HB1.out | exact act_chg (by assumption) hcb HB2.out | go_keep) (first
        | (go_at_call 16; refine (Put_any c1 c2 g F1 L _ HT.out.1.drew).mono ?_; rintro e wa ⟨rfl, F1', hca, hka⟩)
        | (go_at_call 40; refine (RPut_any c1 c2 g2 F2 L _ (HT.out.drew.step hca hka).1 HLN.out).mono ?_; rintro e wb ⟨rfl, F2', hcb, hkb⟩))
      go_wp2_with fail
      go_ret
      exact ⟨by first | rfl | simp, F1', F2', _, ⟨hka.chg hcb (HT.out.drew.step hca hka).2, hkb, (hcb.sep (HT.out.drew.step hca hka).2.symm hka.lt).symm⟩, HBX.out (Chg.both hca hcb)⟩
    · go_upto_region 5 with fail
      go_region_held3 (fun w' => (w'.cell? ⟨w.heap.size, 0, none⟩ = some (.int .i64 2) ∧ w'.cell? ⟨w.heap.size, 1, none⟩ = some (.int .i64 c1) ∧ w'.cell? ⟨w.heap.size, 2, none⟩ = some (.int .i64 c2) ∧ w'.cell? ⟨w.heap.size, 3, none⟩ = some (.int .i64 c3))) (first | exact act_chg (by assumption) hca HB1.out | exact act_chg (by assumption) hcb HB2.out | go_keep) (first
        | (go_at_call 16; refine (Put_any c1 c2 g F1 L _ HT.out.1.drew).mono ?_; rintro e wa ⟨rfl, F1', hca, hka⟩)
        | (go_at_call 40; refine (RPut_any c1 c2 g2 F2 L _ (HT.out.drew.step hca hka).1 HLN.out).mono ?_; rintro e wb ⟨rfl, F2', hcb, hkb⟩))
      go_wp2_with fail
      go_ret
      exact ⟨by first | rfl | simp, F1', F2', _, ⟨hka.chg hcb (HT.out.drew.step hca hka).2, hkb, (hcb.sep (HT.out.drew.step hca hka).2.symm hka.lt).symm⟩, HBX.out (Chg.both hca hcb)⟩
  · have d0 : (k0 == 0) = false := by rw [beq_eq_false_iff_ne]; omega
    have d1 : (k0 == 1) = false := by rw [beq_eq_false_iff_ne]; omega
    have d2 : (k0 == 2) = false := by rw [beq_eq_false_iff_ne]; omega
    by_cases h3 : k0 = 3
    · subst h3
      go_upto_region 7 with fail
      go_region_held3 (fun w' => (w'.cell? ⟨w.heap.size, 0, none⟩ = some (.int .i64 3) ∧ w'.cell? ⟨w.heap.size, 1, none⟩ = some (.int .i64 c1) ∧ w'.cell? ⟨w.heap.size, 2, none⟩ = some (.int .i64 c2) ∧ w'.cell? ⟨w.heap.size, 3, none⟩ = some (.int .i64 c3))) (first | exact act_chg (by assumption) hca HB1.out | exact act_chg (by assumption) hcb HB2.out | go_keep) (first
        | (go_at_call 26; refine (Del_any c1 c2 g F1 L _ HT.out.1.drew).mono ?_; rintro e wa ⟨rfl, F1', hca, hka⟩)
        | (go_at_call 41; refine (RDel_any c1 c2 g2 F2 L _ (HT.out.drew.step hca hka).1 HLN.out HRG.out).mono ?_; rintro e wb ⟨rfl, F2', hcb, hkb⟩))
      go_wp2_with fail
      go_ret
      exact ⟨by first | rfl | simp, F1', F2', _, ⟨hka.chg hcb (HT.out.drew.step hca hka).2, hkb, (hcb.sep (HT.out.drew.step hca hka).2.symm hka.lt).symm⟩, HBX.out (Chg.both hca hcb)⟩
    · have d3 : (k0 == 3) = false := by rw [beq_eq_false_iff_ne]; omega
      by_cases h4 : k0 = 4
      · subst h4
        go_upto_region 9 with fail
        go_region_held3 (fun w' => (w'.cell? ⟨w.heap.size, 0, none⟩ = some (.int .i64 4) ∧ w'.cell? ⟨w.heap.size, 1, none⟩ = some (.int .i64 c1) ∧ w'.cell? ⟨w.heap.size, 2, none⟩ = some (.int .i64 c2) ∧ w'.cell? ⟨w.heap.size, 3, none⟩ = some (.int .i64 c3))) (first | exact act_chg (by assumption) hca HB1.out | exact act_chg (by assumption) hcb HB2.out | go_keep) (first
          | (go_at_call 27; refine (Cut_any c1 c2 g F1 L _ HT.out.1.drew).mono ?_; rintro e wa ⟨rfl, F1', hca, hka⟩)
          | (go_at_call 42; refine (RCut_any c1 c2 g2 F2 L _ (HT.out.drew.step hca hka).1 HLN.out).mono ?_; rintro e wb ⟨rfl, F2', hcb, hkb⟩))
        go_wp2_with fail
        go_ret
        exact ⟨by first | rfl | simp, F1', F2', _, ⟨hka.chg hcb (HT.out.drew.step hca hka).2, hkb, (hcb.sep (HT.out.drew.step hca hka).2.symm hka.lt).symm⟩, HBX.out (Chg.both hca hcb)⟩
      · have d4 : (k0 == 4) = false := by rw [beq_eq_false_iff_ne]; omega
        by_cases h5 : k0 = 5
        · subst h5
          obtain ⟨al, cl, c0, hT⟩ := HT.out.2.1.cells
          have HTL := Lib.hid hT
          clear hT
          go_upto_region 11 with fail
          by_cases n0 : c3 < 0
          · go_quiet (fail)
            go_wp2_with fail
            go_ret
            first | exact ⟨rfl, F1, F2, L, HT.out.below (below_drewN (Below.refl _ _) _), HBX.out (Chg.of_below (below_drewN (Below.refl _ _) _))⟩ | exact ⟨rfl, F1, F2, ⟨L, HT.out.below (below_drewN (Below.refl _ _) _)⟩, HBX.out (Chg.of_below (below_drewN (Below.refl _ _) _))⟩
          · by_cases n1 : (L.length : Int) ≤ c3
            · go_quiet (fail)
              go_wp2_with fail
              go_ret
              first | exact ⟨rfl, F1, F2, L, HT.out.below (below_drewN (Below.refl _ _) _), HBX.out (Chg.of_below (below_drewN (Below.refl _ _) _))⟩ | exact ⟨rfl, F1, F2, ⟨L, HT.out.below (below_drewN (Below.refl _ _) _)⟩, HBX.out (Chg.of_below (below_drewN (Below.refl _ _) _))⟩
            · obtain ⟨i, rfl⟩ := Int.eq_ofNat_of_zero_le (show 0 ≤ c3 by omega)
              have hil : i < L.length := by omega
              obtain ⟨bl, cl2, hv, hbl, hcell⟩ := HTL.out.read (ne_nil_of_lt hil)
              cases hv
              have hk := List.getElem?_eq_getElem hil
              generalize L[i] = k at hk
              obtain ⟨s0, s1⟩ := k
              obtain ⟨e0, e1⟩ := hcell i _ hk
              dsimp only at e0 e1
              have hiI : ((i : Nat) : Int) < ((L.length : Nat) : Int) := by omega
              clear hcell hk hbl
              go_quiet (fail)
              have HT2 : RowKit.Hid (Two (w0.drewN nq) g F1 g2 F2 L) := Lib.hid (HT.out.below (below_drewN (Below.refl _ _) _))
              have HX2 : RowKit.Hid (∀ {F' : List Nat} {w' : World}, Chg (F1 ++ F2) F' (w0.drewN nq) w' → Chg (F1 ++ F2) F' w w') := Lib.hid fun h => HBX.out ((Chg.of_below (below_drewN (Below.refl _ _) _)).trans h)
              go_upto_region 13 with fail
              clear HT HBX HTL
              replace j3 : (w0.drewN nq).cell? ⟨w.heap.size, 3, none⟩ = some (.int .i64 (i : Nat)) := j3
              replace c0 : (w0.drewN nq).cell? ⟨g2, 0, none⟩ = some (.slice (some ⟨bl, 0, none⟩) L.length cl) := c0
              replace e0 : (w0.drewN nq).cell? ⟨bl, i * 2, none⟩ = some (.int .i64 s0) := e0
              replace e1 : (w0.drewN nq).cell? ⟨bl, i * 2 + 1, none⟩ = some (.int .i64 s1) := e1
              clear j0 j1 j2
              have hws : w0.heap.size = (w0.drewN nq).heap.size := rfl
              generalize w0.drewN nq = w2 at *
              have hA : Below w2.heap.size w2 (w2.alloc (.cells #[.int .i64 0, .int .i64 0] 44)) := (Below.refl _ _).alloc (Nat.le_refl _) _
              have hzz := heap_alloc_new w2 (.cells #[.int .i64 0, .int .i64 0] 44)
              have z0 : (w2.alloc (.cells #[.int .i64 0, .int .i64 0] 44)).cell? ⟨w2.heap.size, 0, none⟩ = some (.int .i64 0) := cell_of_row _ w2.heap.size 0 _ 44 _ hzz
              have z1 : (w2.alloc (.cells #[.int .i64 0, .int .i64 0] 44)).cell? ⟨w2.heap.size, 1, none⟩ = some (.int .i64 0) := cell_of_row _ w2.heap.size 1 _ 44 _ hzz
              have zf : ∀ j, (w2.alloc (.cells #[.int .i64 0, .int .i64 0] 44)).frozen? ⟨w2.heap.size, j, none⟩ = false := fun j => frozen_of_row _ w2.heap.size j _ 44 hzz
              have j3A := cell_keep hA j3
              have c0A := cell_keep hA c0
              have e0A := cell_keep hA e0
              have e1A := cell_keep hA e1
              clear hA hzz
              go_region
              have hb4 : Below w2.heap.size w2 (w2.alloc (.cells #[.int .i64 s0, .int .i64 s1] 44)).drew := below_drew ((Below.refl _ _).alloc (Nat.le_refl _) _)
              have hx4 := heap_alloc_new w2 (.cells #[.int .i64 s0, .int .i64 s1] 44)
              have HT4 := Lib.hid (HT2.out.below hb4)
              have HC4 : RowKit.Hid (∀ {F' : List Nat} {w' : World}, Chg (F1 ++ F2) F' (w2.alloc (.cells #[.int .i64 s0, .int .i64 s1] 44)).drew w' → Chg (F1 ++ F2) F' w w') := Lib.hid fun h => HX2.out ((Chg.of_below hb4).trans h)
              have HB41 := Lib.hid (show w2.heap.size ∉ F1 from fun hb => Nat.lt_irrefl _ (HT2.out.1.lt _ hb))
              have HB42 := Lib.hid (show w2.heap.size ∉ F2 from fun hb => Nat.lt_irrefl _ (HT2.out.2.1.lt _ hb))
              have x0 : (w2.alloc (.cells #[.int .i64 s0, .int .i64 s1] 44)).drew.cell? ⟨w2.heap.size, 0, none⟩ = some (.int .i64 s0) := cell_of_row _ w2.heap.size 0 _ 44 _ hx4
              have x1 : (w2.alloc (.cells #[.int .i64 s0, .int .i64 s1] 44)).drew.cell? ⟨w2.heap.size, 1, none⟩ = some (.int .i64 s1) := cell_of_row _ w2.heap.size 1 _ 44 _ hx4
              clear hb4 hx4 z0 z1 zf j3 c0 e0 e1 j3A c0A e0A e1A hws HT2 HX2 d0 d1 d2 d3 d4 h3 h4 h012
              generalize (w2.alloc (.cells #[.int .i64 s0, .int .i64 s1] 44)).drew = w4 at *
              generalize w2.heap.size = B4 at *
              go_upto_region 14 with fail
              go_region_held3 (fun w' => (w'.cell? ⟨B4, 0, none⟩ = some (.int .i64 s0) ∧ w'.cell? ⟨B4, 1, none⟩ = some (.int .i64 s1))) (first | exact act2_chg (by assumption) hca HB41.out | exact act2_chg (by assumption) hcb HB42.out | go_keep) (first
                | (go_at_call 26; refine (Del_any s0 s1 g F1 L _ HT4.out.1.drew).mono ?_; rintro e wa ⟨rfl, F1', hca, hka⟩)
                | (go_at_call 41; refine (RDel_any s0 s1 g2 F2 L _ (HT4.out.drew.step hca hka).1 HLN.out HRG.out).mono ?_; rintro e wb ⟨rfl, F2', hcb, hkb⟩))
              go_wp2_with fail
              go_ret
              exact ⟨by first | rfl | simp, F1', F2', _, ⟨hka.chg hcb (HT4.out.drew.step hca hka).2, hkb, (hcb.sep (HT4.out.drew.step hca hka).2.symm hka.lt).symm⟩, HC4.out (Chg.both hca hcb)⟩
        · have d5 : (k0 == 5) = false := by rw [beq_eq_false_iff_ne]; exact h5
          go_wp2_with fail
          refine (Room_any c1 c3 0 g F1 L w0 HT.out.1).mono ?_
          rintro ex w2 ⟨rfl, hb2⟩
          have hbx2 := hb2
          replace j1 := cell_keep hb2 j1
          replace j3 := cell_keep hb2 j3
          have HT2 := Lib.hid (HT.out.below hb2)
          have HX2 : RowKit.Hid (∀ {F' : List Nat} {w' : World}, Chg (F1 ++ F2) F' w2 w' → Chg (F1 ++ F2) F' w w') := Lib.hid fun h => HBX.out ((Chg.of_below hbx2).trans h)
          clear hb2 j0 j2
          go_wp2_with fail
          refine (RRoom_any c1 c3 0 g2 F2 L w2 HT2.out.2.1 HLN.out HRG.out).mono ?_
          rintro ex w3 ⟨rfl, hb3⟩
          replace j1 := cell_keep hb3 j1
          replace j3 := cell_keep hb3 j3
          have HT3 := Lib.hid (HT2.out.below hb3)
          have hbx3 := hb3
          have HX3 : RowKit.Hid (∀ {F' : List Nat} {w' : World}, Chg (F1 ++ F2) F' w3 w' → Chg (F1 ++ F2) F' w w') := Lib.hid fun h => HX2.out ((Chg.of_below hbx3).trans h)
          clear hb3 HT2 HX2 HT HBX
          by_cases hr : (roomV c1 c3 0 L).2 = 0
          · obtain ⟨r1, r2, r3, r4, r5, r6, r7, r8⟩ := roomV_ok HRG.out hr
            rw [hr]
            generalize (roomV c1 c3 0 L).1 = p at *
            have hwp : IntKind.i64.wrap (p + c3) = p + c3 := by rw [IntKind.wrap_i64]; omega
            have HPE := Lib.hid r8
            clear r2 r5 r7 r8 hr
            go_wp2_with fail
            refine (Put_any p (p + c3) g F1 L w3 HT3.out.1).mono ?_
            rintro ex wa ⟨rfl, F1', hca, hka⟩
            rw [HPE.out]
            replace j3 := hca.cell j3 HB1.out
            have HKA := Lib.hid (And.intro hca hka)
            clear hca hka j1
            go_wp2_with fail
            refine (RPut_any p (p + c3) g2 F2 L wa (HT3.out.step HKA.out.1 HKA.out.2).1 HLN.out).mono ?_
            rintro ex wb ⟨rfl, F2', hcb, hkb⟩
            rw [HPE.out]
            have HKB := Lib.hid (And.intro hcb hkb)
            clear hcb hkb j3
            go_wp2_with fail
            go_ret
            exact ⟨rfl, F1', F2', _, ⟨HKA.out.2.chg HKB.out.1 (HT3.out.step HKA.out.1 HKA.out.2).2, HKB.out.2, (HKB.out.1.sep (HT3.out.step HKA.out.1 HKA.out.2).2.symm HKA.out.2.lt).symm⟩, HX3.out (Chg.both HKA.out.1 HKB.out.1)⟩
          · have hr2 : ((roomV c1 c3 0 L).2 != 0) = true := by rw [bne_iff_ne]; exact hr
            generalize (roomV c1 c3 0 L).1 = p at *
            generalize (roomV c1 c3 0 L).2 = q at *
            go_wp2_with fail
            go_ret
            first | exact ⟨rfl, F1, F2, L, HT3.out, HX3.out (Chg.refl _ _)⟩ | exact ⟨rfl, F1, F2, ⟨L, HT3.out⟩, HX3.out (Chg.refl _ _)⟩

end Go.Proofs.Ytkaglggljomgdaa

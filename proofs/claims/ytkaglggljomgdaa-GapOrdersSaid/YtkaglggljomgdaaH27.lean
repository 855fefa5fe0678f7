/- Parts of the proofs of layer 18 (gap): contracts of its functions, and the laws' walks. -/
import Derived.Test.YtkaglggljomgdaaProg
import Derived.WalkKit
import Derived.WalkSpells
import Derived.WalkLawsBesides
import Derived.BigQuiet
import Derived.Deep.QuietTactic
import Derived.Lib.Hide
import Derived.Deep.RegionHeld3
import Derived.Deep.DeepCutAuto
import Derived.KernelRfl
import Derived.Deep.OwnRows
import Derived.Laws.CopyOwn
import Derived.Laws.CopyRow
import Derived.StillTailTactics
import Derived.Deep.RegionLaw
import Derived.Test.YtkaglggljomgdaaK6
import Derived.OwnWalk
namespace Go.Proofs.Ytkaglggljomgdaa
open Go.RowKit
set_option linter.unusedVariables false
set_option linter.unusedSimpArgs false

theorem dec_self (L : List (Int × Int)) : decide (L = L) = true := decide_eq_true rfl
theorem Rt.told {w : World} {g : Nat} {F : List Nat} {L : List (Int × Int)} (h : Rt w g F L) {v : Value} (hv : w.cell? ⟨g, 0, none⟩ = some v) : Told w v L := by
  obtain ⟨u, hg, ht, _, _⟩ := h
  have := cell_of_one hg
  rw [hv] at this
  cases this
  exact ht
theorem below_undrew {B : Nat} {w w' : World} (h : Below B w.drew w') : Below B w w' := ⟨h.os, h.tape, h.output, h.size, h.block⟩
theorem Rt.drew {w : World} {g : Nat} {F : List Nat} {L : List (Int × Int)} (h : Rt w g F L) : Rt w.drew g F L := h
set_option maxRecDepth 100000 in
set_option maxHeartbeats 8000000 in
theorem does_law (ao : Option Addr) (len cap : Nat) (z : Nat → Nat → Int) (p : Int) (w : World) (hlc : len ≤ cap) (hcm : cap ≤ maxLen) (hA : Acts w ao len z) : Calls Try.prog 7 #[.slice ao len cap, .int .i64 p] w fun e w' => e = .returned (.bool true) ∧ Below w.heap.size w w' := by
  have HM0 := Lib.hid (made_any ao len cap z w hlc hcm hA)
  clear hA
  go_enter Try.func7, Try.ntmps7
  go_wp2_with fail
  refine HM0.out.mono ?_
  rintro e w1 ⟨g, g2, F1, F2, L, rfl, hm1, hb1⟩
  have HK := Lib.hid hm1.2
  have HB1 := Lib.hid hb1
  have HM1 := Lib.hid hm1.1
  clear hm1 hb1 HM0
  go_wp2_with fail
  refine (awake_any w1).mono ?_
  rintro e w2 ⟨rfl, hb2⟩
  have HM2 := Lib.hid (HM1.out.below hb2)
  have HB2 := Lib.hid (HB1.out.trans (hb2.mono HB1.out.size))
  have HRG := Lib.hid HM2.out.1.rg
  have HLN := Lib.hid (show L.length ≤ 5000 from by have := HM2.out.len; omega)
  clear hb2 HM1 HB1
  go_wp2_with fail
  refine (Find_any p g F1 L w2 HM2.out.1).mono ?_
  rintro e w3 ⟨rfl, hb3⟩
  have HM3 := Lib.hid (HM2.out.below hb3)
  have HB3 := Lib.hid (HB2.out.trans (hb3.mono HB2.out.size))
  clear hb3 HM2 HB2
  go_wp2_with fail
  refine (RAt_any p g2 F2 L w3 HM3.out.2.1 HLN.out).mono ?_
  rintro e w4 ⟨v, rfl, hat, rfl⟩
  obtain ⟨aL, cL, kL, hT⟩ := HM3.out.2.1.cells
  have HTT := Lib.hid hT
  have hfin : ∀ wx : World, wx = wx := fun _ => rfl
  rcases find_at HRG.out hat with ⟨hf, rfl⟩ | ⟨i, e, rfl, hi, hf⟩
  · rw [hf]
    clear hat hf hT hfin
    go_wp2_with fail
    go_upto_region 8 with fail
    go_region_held3 (fun w' => w'.cell? ⟨g2, 0, none⟩ = some (.slice aL L.length cL)) (first | exact cell_keep hba (by assumption) | exact cell_keep hbg (by assumption) | exact cell_keep hbr (by assumption) | go_keep) (first
      | (go_at_call 22; refine (All_any g F1 L _ HM3.out.1.drew).mono ?_; rintro e wa ⟨v1, rfl, hv1, hca⟩; have hba := hca.below (C := w3.drew.heap.size) (fun b hb => by simp at hb) (Nat.le_refl _))
      | (go_at_call 21; refine (Same_any v1 _ L L _ hv1 (Told.below (show Told w3.drew _ L from HTT.out) hba) HLN.out).mono ?_; rintro e _ ⟨rfl, kk, rfl⟩; rw [dec_self])
      | (go_at_call 17; refine (Len_any g F1 L _ ((HM3.out.1.drew.below hba).drewN kk)).mono ?_; rintro e _ ⟨rfl, rfl⟩)
      | (go_at_call 23; refine (Greatest_any g F1 L _ ((HM3.out.1.drew.below hba).drewN kk)).mono ?_; rintro e wg ⟨rfl, hbg⟩)
      | (go_at_call 25; refine (RGreatest_any g2 F2 L _ (Rt.below ((HM3.out.drew.2.1.below hba).drewN kk) hbg) HLN.out HRG.out).mono ?_; rintro e wr ⟨rfl, hbr⟩))
    go_wp2_with fail
    go_ret
    exact ⟨by first | rfl | simp, HB3.out.trans ((((below_undrew hba).trans ((below_drewN (Below.refl _ wa) kk).mono hba.size)).trans ((hbg.mono (by have := hba.size; exact this)).trans (hbr.mono (Nat.le_trans hba.size hbg.size)))).mono HB3.out.size)⟩
  
  · rw [hf]
    have hil : i < L.length := (List.getElem?_eq_some_iff.1 hi).1
    obtain ⟨bl, cl2, hv, hbl, hcell⟩ := hT.read (ne_nil_of_lt hil)
    cases hv
    obtain ⟨e0, e1⟩ := hcell i _ hi
    have hiI : ((i : Nat) : Int) < ((L.length : Nat) : Int) := by omega
    clear hat hf hT hcell hbl hi hfin
    go_wp2_with fail
    go_upto_region 8 with fail
    go_region_held3 (fun w' => w'.cell? ⟨g2, 0, none⟩ = some (.slice (some ⟨bl, 0, none⟩) L.length cL)) (first | exact cell_keep hba (by assumption) | exact cell_keep hbg (by assumption) | exact cell_keep hbr (by assumption) | go_keep) (first
      | (go_at_call 22; refine (All_any g F1 L _ HM3.out.1.drew).mono ?_; rintro e wa ⟨v1, rfl, hv1, hca⟩; have hba := hca.below (C := w3.drew.heap.size) (fun b hb => by simp at hb) (Nat.le_refl _))
      | (go_at_call 21; refine (Same_any v1 _ L L _ hv1 (Told.below (show Told w3.drew _ L from HTT.out) hba) HLN.out).mono ?_; rintro e _ ⟨rfl, kk, rfl⟩; rw [dec_self])
      | (go_at_call 17; refine (Len_any g F1 L _ ((HM3.out.1.drew.below hba).drewN kk)).mono ?_; rintro e _ ⟨rfl, rfl⟩)
      | (go_at_call 23; refine (Greatest_any g F1 L _ ((HM3.out.1.drew.below hba).drewN kk)).mono ?_; rintro e wg ⟨rfl, hbg⟩)
      | (go_at_call 25; refine (RGreatest_any g2 F2 L _ (Rt.below ((HM3.out.drew.2.1.below hba).drewN kk) hbg) HLN.out HRG.out).mono ?_; rintro e wr ⟨rfl, hbr⟩))
    go_wp2_with fail
    go_ret
    exact ⟨by first | rfl | simp, HB3.out.trans ((((below_undrew hba).trans ((below_drewN (Below.refl _ wa) kk).mono hba.size)).trans ((hbg.mono (by have := hba.size; exact this)).trans (hbr.mono (Nat.le_trans hba.size hbg.size)))).mono HB3.out.size)⟩

end Go.Proofs.Ytkaglggljomgdaa

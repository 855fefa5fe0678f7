/- Parts of the proofs of layer 18 (gap): contracts of its functions, and the laws' walks. -/
import Derived.Test.YtkaglggljomgdaaProg
import Derived.WalkKit
import Derived.WalkSpells
import Derived.WalkLawsBesides
import Derived.BigQuiet
import Derived.Deep.QuietTactic
import Derived.Lib.Hide
import Derived.Deep.RegionHeld3
import Derived.Deep.DeepCutAuto
import Derived.KernelRfl
import Derived.Deep.OwnRows
import Derived.Laws.CopyOwn
import Derived.Laws.CopyRow
import Derived.StillTailTactics
import Derived.Deep.RegionLaw
import Derived.Test.YtkaglggljomgdaaH2
namespace Go.Proofs.Ytkaglggljomgdaa
open Go.RowKit
set_option linter.unusedVariables false
set_option linter.unusedSimpArgs false

theorem Chg.frame {F F' G G' : List Nat} {w w' : World} (h : Chg G G' w w') (hF : ∀ b, b ∈ G → b ∈ F) (hF' : ∀ b, b ∈ F' → b ∈ G' ∨ b ∈ F) : Chg F F' w w' :=
  ⟨h.1, h.2.1, h.2.2.1, h.2.2.2.1, fun b hb hm => h.2.2.2.2.1 b hb fun q => hm (hF b q), fun b hb => by
    rcases hF' b hb with h1 | h1
    · exact (h.2.2.2.2.2 b h1).imp (hF b) id
    · exact .inl h1⟩
theorem nc_setp {w : World} {n : Nat} {a b : Int} {vl vr : Option Addr} {h f l g m : Int} (hn : w.heap[n]? = some (nc a b vl vr h f l g m)) (x : Option Addr) :
    (w.setCell ⟨n, 2, none⟩ (.pointer x)).heap[n]? = some (nc a b x vr h f l g m) ∧ (w.setCell ⟨n, 3, none⟩ (.pointer x)).heap[n]? = some (nc a b vl x h f l g m) := by
  have hl := lt_of_block hn
  refine ⟨?_, ?_⟩ <;> (unfold nc at *; (exact (heap_setCell_same w n _ _ 60 _ hn).trans rfl))
/-- A node whose sides lie there; what it says of them may be old. -/
def Pn (w : World) (n : Nat) (a b : Int) (tl tr : Tr) (F : List Nat) : Prop :=
  ∃ h f l g m vl vr Fl Fr, w.heap[n]? = some (nc a b vl vr h f l g m) ∧ Nd w tl vl Fl ∧ Nd w tr vr Fr ∧ F = n :: (Fl ++ Fr) ∧ n ∉ Fl ∧ n ∉ Fr ∧ Sep Fl Fr
theorem Nd.pn {w : World} {a b : Int} {tl tr : Tr} {v : Option Addr} {F : List Nat} (h : Nd w (.nd a b tl tr) v F) : ∃ n, v = some ⟨n, 0, none⟩ ∧ Pn w n a b tl tr F := by
  obtain ⟨n, vl, vr, Fl, Fr, rfl, hn, hl, hr, rfl, h1, h2, h3⟩ := h
  exact ⟨n, rfl, _, _, _, _, _, vl, vr, Fl, Fr, hn, hl, hr, rfl, h1, h2, h3⟩
theorem Nd.other {w : World} {t : Tr} {v : Option Addr} {F : List Nat} (h : Nd w t v F) {n : Nat} (hn : n ∉ F) (j : Nat) (u : Value) : Nd (w.setCell ⟨n, j, none⟩ u) t v F :=
  h.of_blocks fun b hb => Below.heap_setCell _ _ _ _ (show b ≠ n from fun e => hn (e ▸ hb))
theorem row_other {w : World} {n k : Nat} {o : Obj} (h : w.heap[k]? = some o) (hk : k ≠ n) (j : Nat) (u : Value) : (w.setCell ⟨n, j, none⟩ u).heap[k]? = some o := (Below.heap_setCell _ _ _ _ hk).trans h
theorem renew_pn (n : Nat) (a b : Int) (tl tr : Tr) (F : List Nat) (w : World) (h : Pn w n a b tl tr F) (hv : Vals (.nd a b tl tr)) (hc : cnt (.nd a b tl tr) ≤ 5000) :
    Calls Try.prog 44 #[.pointer (some ⟨n, 0, none⟩)] w fun e w' => e = .returned (.pointer (some ⟨n, 0, none⟩)) ∧ Chg F F w w' ∧ Nd w' (.nd a b tl tr) (some ⟨n, 0, none⟩) F := by
  obtain ⟨h', f, l, g, m, vl, vr, Fl, Fr, hn, hl, hr, rfl, h1, h2, h3⟩ := h
  have hc1 := cnt_nonneg tl
  have hc2 := cnt_nonneg tr
  rw [cnt] at hc
  refine (renew_any n a b vl vr h' f l g m tl tr Fl Fr w hn hl hr h1 h2 hv (by omega) (by omega)).mono ?_
  rintro e w' ⟨rfl, hc, hn'⟩
  exact ⟨rfl, hc.frame (by grind) (by grind), n, vl, vr, Fl, Fr, rfl, hn', hl.chg hc (by unfold Sep; grind), hr.chg hc (by unfold Sep; grind), rfl, h1, h2, h3⟩
set_option maxHeartbeats 2000000 in
theorem rightward_any (n : Nat) (a b c d : Int) (l1 l2 r : Tr) (F : List Nat) (w : World) (h : Pn w n a b (.nd c d l1 l2) r F) (hv : Vals (.nd a b (.nd c d l1 l2) r)) (hc : cnt (.nd a b (.nd c d l1 l2) r) ≤ 5000) :
    Calls Try.prog 50 #[.pointer (some ⟨n, 0, none⟩)] w fun e w' => ∃ v F', e = .returned (.pointer (some v)) ∧ Chg F F' w w' ∧ Nd w' (.nd c d l1 (.nd a b l2 r)) (some v) F' := by
  obtain ⟨h', f, l, g, m, vl, vr, Fl, Fr, hn, hl, hr, rfl, h1, h2, h3⟩ := h
  obtain ⟨ln, v1, v2, F1, F2, rfl, hln, hl1, hl2, rfl, g1, g2, g3⟩ := hl
  obtain ⟨hv0, ⟨hv1, hvl1, hvl2⟩, hvr⟩ := hv
  have hV1 : Vals (.nd a b l2 r) := ⟨hv0, hvl2, hvr⟩
  have hV2 : Vals (.nd c d l1 (.nd a b l2 r)) := ⟨hv1, hvl1, hV1⟩
  have hC1 : cnt (.nd a b l2 r) ≤ 5000 := by have := cnt_nonneg l1; simp only [cnt] at *; omega
  have hC2 : cnt (.nd c d l1 (.nd a b l2 r)) ≤ 5000 := by simp only [cnt] at *; omega
  clear hv0 hv1 hvl1 hvl2 hvr hc
  have hne : n ≠ ln := by grind
  unfold Sep at *
  have row1 := row_other (nc_setp hn v2).1 hne 3 (.pointer (some ⟨n, 0, none⟩))
  have row2 := (nc_setp (row_other hln hne.symm 2 (.pointer v2)) (some ⟨n, 0, none⟩)).2
  have t1 := (hl1.other (n := n) (by grind) 2 (.pointer v2)).other (n := ln) (by grind) 3 (.pointer (some ⟨n, 0, none⟩))
  have t2 := (hl2.other (n := n) (by grind) 2 (.pointer v2)).other (n := ln) (by grind) 3 (.pointer (some ⟨n, 0, none⟩))
  have t3 := (hr.other (n := n) (by grind) 2 (.pointer v2)).other (n := ln) (by grind) 3 (.pointer (some ⟨n, 0, none⟩))
  have hc0 : Chg (n :: (ln :: (F1 ++ F2) ++ Fr)) (n :: (ln :: (F1 ++ F2) ++ Fr)) w ((w.setCell ⟨n, 2, none⟩ (.pointer v2)).setCell ⟨ln, 3, none⟩ (.pointer (some ⟨n, 0, none⟩))) := ((Chg.refl _ w).setCell _ _ _ (by simp)).setCell _ _ _ (by simp)
  have HP := Lib.hid (⟨_, _, _, _, _, v2, vr, F2, Fr, row1, t2, t3, rfl, by grind, by grind, by unfold Sep; grind⟩ : Pn _ n a b l2 r (n :: (F2 ++ Fr)))
  have HL := Lib.hid (And.intro row2 t1)
  have HC0 := Lib.hid hc0
  have HS := Lib.hid (show ln ∉ n :: (F2 ++ Fr) ∧ ln ∉ F1 ∧ Sep F1 (n :: (F2 ++ Fr)) from ⟨by grind, g1, by unfold Sep; grind⟩)
  obtain ⟨c0, c1, c2, c3, c4, c5, c6, c7, c8⟩ := nc_cells hn
  obtain ⟨d0, d1, d2, d3, d4, d5, d6, d7, d8⟩ := nc_cells hln
  have fz := fun j => frozen_of_row w n j _ 60 hn
  have gz := fun j => frozen_of_row w ln j _ 60 hln
  clear c0 c1 c3 c4 c5 c6 c7 c8 d0 d1 d2 d4 d5 d6 d7 d8 row1 row2 t1 t2 t3 hc0 hn hln hl1 hl2 hr
  go_enter Try.func50, Try.ntmps50
  go_upto_region 3 with fail
  generalize ((w.setCell ⟨n, 2, none⟩ (.pointer v2)).setCell ⟨ln, 3, none⟩ (.pointer (some ⟨n, 0, none⟩))) = w1 at *
  clear c2 d3 fz gz
  have HH := Lib.hid (renew_pn n a b l2 r _ w1 HP.out hV1 hC1)
  go_wp2_with fail
  refine HH.out.mono ?_
  rintro e w2 ⟨rfl, hc2, hn2⟩
  have HP2 := Lib.hid (⟨_, _, _, _, _, v1, some ⟨n, 0, none⟩, F1, _, (hc2.block (lt_of_block HL.out.1) HS.out.1).trans HL.out.1, HL.out.2.chg hc2 HS.out.2.2, hn2, rfl, HS.out.2.1, HS.out.1, HS.out.2.2⟩ : Pn w2 ln c d l1 (.nd a b l2 r) (ln :: (F1 ++ (n :: (F2 ++ Fr)))))
  have HC2 := Lib.hid (HC0.out.trans (hc2.frame (F := n :: (ln :: (F1 ++ F2) ++ Fr)) (F' := n :: (ln :: (F1 ++ F2) ++ Fr)) (by grind) (by grind)))
  clear hc2 hn2 HH HP HL HC0
  have HH := Lib.hid (renew_pn ln c d l1 (.nd a b l2 r) _ w2 HP2.out hV2 hC2)
  go_wp2_with fail
  refine HH.out.mono ?_
  rintro e w3 ⟨rfl, hc3, hn3⟩
  go_wp2_with fail
  go_ret
  exact ⟨_, _, rfl, HC2.out.trans (hc3.frame (by grind) (by grind)), hn3⟩
set_option maxHeartbeats 2000000 in
theorem leftward_any (n : Nat) (a b c d : Int) (l r1 r2 : Tr) (F : List Nat) (w : World) (h : Pn w n a b l (.nd c d r1 r2) F) (hv : Vals (.nd a b l (.nd c d r1 r2))) (hc : cnt (.nd a b l (.nd c d r1 r2)) ≤ 5000) :
    Calls Try.prog 49 #[.pointer (some ⟨n, 0, none⟩)] w fun e w' => ∃ v F', e = .returned (.pointer (some v)) ∧ Chg F F' w w' ∧ Nd w' (.nd c d (.nd a b l r1) r2) (some v) F' := by
  obtain ⟨h', f, l0, g, m, vl, vr, Fl, Fr, hn, hl, hr, rfl, h1, h2, h3⟩ := h
  obtain ⟨ln, v1, v2, F1, F2, rfl, hln, hr1, hr2, rfl, g1, g2, g3⟩ := hr
  obtain ⟨hv0, hvl, ⟨hv1, hvr1, hvr2⟩⟩ := hv
  have hV1 : Vals (.nd a b l r1) := ⟨hv0, hvl, hvr1⟩
  have hV2 : Vals (.nd c d (.nd a b l r1) r2) := ⟨hv1, hV1, hvr2⟩
  have hC1 : cnt (.nd a b l r1) ≤ 5000 := by have := cnt_nonneg r2; simp only [cnt] at *; omega
  have hC2 : cnt (.nd c d (.nd a b l r1) r2) ≤ 5000 := by simp only [cnt] at *; omega
  clear hv0 hv1 hvr1 hvr2 hvl hc
  have hne : n ≠ ln := by grind
  unfold Sep at *
  have row1 := row_other (nc_setp hn v1).2 hne 2 (.pointer (some ⟨n, 0, none⟩))
  have row2 := (nc_setp (row_other hln hne.symm 3 (.pointer v1)) (some ⟨n, 0, none⟩)).1
  have t1 := (hr1.other (n := n) (by grind) 3 (.pointer v1)).other (n := ln) (by grind) 2 (.pointer (some ⟨n, 0, none⟩))
  have t2 := (hr2.other (n := n) (by grind) 3 (.pointer v1)).other (n := ln) (by grind) 2 (.pointer (some ⟨n, 0, none⟩))
  have t3 := (hl.other (n := n) (by grind) 3 (.pointer v1)).other (n := ln) (by grind) 2 (.pointer (some ⟨n, 0, none⟩))
  have hc0 : Chg (n :: (Fl ++ ln :: (F1 ++ F2))) (n :: (Fl ++ ln :: (F1 ++ F2))) w ((w.setCell ⟨n, 3, none⟩ (.pointer v1)).setCell ⟨ln, 2, none⟩ (.pointer (some ⟨n, 0, none⟩))) := ((Chg.refl _ w).setCell _ _ _ (by simp)).setCell _ _ _ (by simp)
  have HP := Lib.hid (⟨_, _, _, _, _, vl, v1, Fl, F1, row1, t3, t1, rfl, by grind, by grind, by unfold Sep; grind⟩ : Pn _ n a b l r1 (n :: (Fl ++ F1)))
  have HL := Lib.hid (And.intro row2 t2)
  have HC0 := Lib.hid hc0
  have HS := Lib.hid (show ln ∉ n :: (Fl ++ F1) ∧ ln ∉ F2 ∧ Sep F2 (n :: (Fl ++ F1)) ∧ Sep (n :: (Fl ++ F1)) F2 from ⟨by grind, g2, by unfold Sep; grind, by unfold Sep; grind⟩)
  obtain ⟨c0, c1, c2, c3, c4, c5, c6, c7, c8⟩ := nc_cells hn
  obtain ⟨d0, d1, d2, d3, d4, d5, d6, d7, d8⟩ := nc_cells hln
  have fz := fun j => frozen_of_row w n j _ 60 hn
  have gz := fun j => frozen_of_row w ln j _ 60 hln
  clear c0 c1 c2 c4 c5 c6 c7 c8 d0 d1 d3 d4 d5 d6 d7 d8 row1 row2 t1 t2 t3 hc0 hn hln hr1 hr2 hl
  go_enter Try.func49, Try.ntmps49
  go_upto_region 3 with fail
  generalize ((w.setCell ⟨n, 3, none⟩ (.pointer v1)).setCell ⟨ln, 2, none⟩ (.pointer (some ⟨n, 0, none⟩))) = w1 at *
  clear c3 d2 fz gz
  have HH := Lib.hid (renew_pn n a b l r1 _ w1 HP.out hV1 hC1)
  go_wp2_with fail
  refine HH.out.mono ?_
  rintro e w2 ⟨rfl, hc2, hn2⟩
  have HP2 := Lib.hid (⟨_, _, _, _, _, some ⟨n, 0, none⟩, v2, _, F2, (hc2.block (lt_of_block HL.out.1) HS.out.1).trans HL.out.1, hn2, HL.out.2.chg hc2 HS.out.2.2.1, rfl, HS.out.1, HS.out.2.1, HS.out.2.2.2⟩ : Pn w2 ln c d (.nd a b l r1) r2 (ln :: ((n :: (Fl ++ F1)) ++ F2)))
  have HC2 := Lib.hid (HC0.out.trans (hc2.frame (F := n :: (Fl ++ ln :: (F1 ++ F2))) (F' := n :: (Fl ++ ln :: (F1 ++ F2))) (by grind) (by grind)))
  clear hc2 hn2 HH HP HL HC0
  have HH := Lib.hid (renew_pn ln c d (.nd a b l r1) r2 _ w2 HP2.out hV2 hC2)
  go_wp2_with fail
  refine HH.out.mono ?_
  rintro e w3 ⟨rfl, hc3, hn3⟩
  go_wp2_with fail
  go_ret
  exact ⟨_, _, rfl, HC2.out.trans (hc3.frame (by grind) (by grind)), hn3⟩
theorem Pn.drewN {w : World} {n : Nat} {a b : Int} {tl tr : Tr} {F : List Nat} (h : Pn w n a b tl tr F) (k : Nat) : Pn (w.drewN k) n a b tl tr F := by
  obtain ⟨h', f, l, g, m, vl, vr, Fl, Fr, hn, hl, hr, r⟩ := h
  exact ⟨h', f, l, g, m, vl, vr, Fl, Fr, hn, hl.drewN k, hr.drewN k, r⟩
theorem vals_of_list {t t' : Tr} (h : Vals t) (e : tlist t' = tlist t) : Vals t' := (vals_iff _).2 (by rw [e]; exact (vals_iff _).1 h)
theorem cnt_of_list {t t' : Tr} (e : tlist t' = tlist t) : cnt t' = cnt t := by rw [cnt_length, cnt_length, e]

end Go.Proofs.Ytkaglggljomgdaa

/- Parts of the proofs of layer 18 (gap): contracts of its functions, and the laws' walks. -/
import Derived.Test.YtkaglggljomgdaaProg
import Derived.WalkKit
import Derived.WalkSpells
import Derived.WalkLawsBesides
import Derived.BigQuiet
import Derived.Deep.QuietTactic
import Derived.Lib.Hide
import Derived.Deep.RegionHeld3
import Derived.Deep.DeepCutAuto
import Derived.KernelRfl
import Derived.Deep.OwnRows
import Derived.Laws.CopyOwn
import Derived.Laws.CopyRow
import Derived.StillTailTactics
import Derived.Deep.RegionLaw
import Derived.Test.YtkaglggljomgdaaH3
namespace Go.Proofs.Ytkaglggljomgdaa
open Go.RowKit
set_option linter.unusedVariables false
set_option linter.unusedSimpArgs false

set_option maxHeartbeats 4000000 in
theorem balance_any (n : Nat) (a b : Int) (tl tr : Tr) (F : List Nat) (w : World) (h : Pn w n a b tl tr F) (hv : Vals (.nd a b tl tr)) (hc : cnt (.nd a b tl tr) ≤ 5000) :
    Calls Try.prog 45 #[.pointer (some ⟨n, 0, none⟩)] w fun e w' => ∃ v F', e = .returned (.pointer (some v)) ∧ Chg F F' w w' ∧ Nd w' (balT a b tl tr) (some v) F' := by
  have hwd : IntKind.i64.wrap (ht tl - ht tr) = ht tl - ht tr := by
    have h1 := ht_nonneg tl
    have h2 := ht_nonneg tr
    have h3 := ht_le_cnt tl
    have h4 := ht_le_cnt tr
    have h5 := cnt_nonneg tl
    have h6 := cnt_nonneg tr
    simp only [cnt] at hc
    rw [IntKind.wrap_i64]; omega
  have HH := Lib.hid (renew_pn n a b tl tr F w h hv hc)
  clear h
  go_enter Try.func45, Try.ntmps45
  go_wp2_with fail
  refine HH.out.mono ?_
  rintro e w1 ⟨rfl, hc1, hn1⟩
  have HC1 := Lib.hid hc1
  have HN1 := Lib.hid hn1
  clear hc1 HH
  obtain ⟨n', vl, vr, Fl, Fr, e1, hn, hl, hr, rfl, h1, h2, h3⟩ := hn1
  cases e1
  obtain ⟨c0, c1, c2, c3, c4, c5, c6, c7, c8⟩ := nc_cells hn
  have fz := fun j => frozen_of_row w1 n j _ 60 hn
  clear c0 c1 c4 c5 c6 c7 c8
  have HA := Lib.hid (fun k => (height_any tl vl Fl (w1.drewN k) (hl.drewN k)).mono fun _ _ h => (⟨h.1, h.2.symm⟩ : _ ∧ _))
  have HB := Lib.hid (fun k => (height_any tr vr Fr (w1.drewN k) (hr.drewN k)).mono fun _ _ h => (⟨h.1, h.2.symm⟩ : _ ∧ _))
  go_upto_region 2 with fail
  go_quiet (first | (go_at_call 37; exact Calls.quiet_of_same (HA.out _)) | (go_at_call 37; exact Calls.quiet_of_same (HB.out _)))
  clear HA HB c2 c3 fz hn hl hr h1 h2 h3
  have HN2 := Lib.hid (HN1.out.drewN nq)
  have HC2 := Lib.hid (HC1.out.drewN nq)
  clear HN1 HC1
  generalize w1.drewN nq = w2 at *
  have hn1 := HN2.out
  obtain ⟨n', vl', vr', Fl', Fr', e1, hn, hl, hr, e2, h1, h2, h3⟩ := hn1
  cases e1
  rw [e2] at HC2
  obtain ⟨c0, c1, c2, c3, c4, c5, c6, c7, c8⟩ := nc_cells hn
  have fz := fun j => frozen_of_row w2 n j _ 60 hn
  clear c0 c1 c4 c5 c6 c7 c8
  by_cases hd : 1 < ht tl - ht tr
  · skip
    cases HB : tl with
    | nil => subst HB; exact absurd hd (by have := ht_nonneg tr; simp only [ht]; omega)
    | nd c d l1 l2 =>
      subst HB
      obtain ⟨ln, v1, v2, F1, F2, rfl, hln, hl1, hl2, rfl, g1, g2, g3⟩ := id hl
      obtain ⟨d0, d1, d2, d3, d4, d5, d6, d7, d8⟩ := nc_cells hln
      clear d0 d1 d4 d5 d6 d7 d8 hln
      have HA := Lib.hid (fun k => (height_any l1 v1 F1 (w2.drewN k) (hl1.drewN k)).mono fun _ _ h => (⟨h.1, h.2.symm⟩ : _ ∧ _))
      have HB := Lib.hid (fun k => (height_any l2 v2 F2 (w2.drewN k) (hl2.drewN k)).mono fun _ _ h => (⟨h.1, h.2.symm⟩ : _ ∧ _))
      clear hl1 hl2
      go_upto_region 4 with fail
      by_cases hf : ht l1 < ht l2
      · cases l2 with
        | nil => exact absurd hf (by have := ht_nonneg l1; simp only [ht]; omega)
        | nd e f m1 m2 =>
          have HBT := Lib.hid (show balT a b (.nd c d l1 (.nd e f m1 m2)) tr = .nd e f (.nd c d l1 m1) (.nd a b m2 tr) from by rw [balT, if_pos hd]; rw [fixl, if_pos (show ht (lf (.nd c d l1 (.nd e f m1 m2))) < ht (rt (.nd c d l1 (.nd e f m1 m2))) from hf)]; rfl)
          have HV1 := Lib.hid (And.intro (show Vals (.nd c d l1 (.nd e f m1 m2)) from hv.2.1) (show cnt (.nd c d l1 (.nd e f m1 m2)) ≤ 5000 from by simp only [cnt] at *; have := cnt_nonneg tr; omega))
          have HV2 := Lib.hid (show Vals (.nd a b (.nd e f (.nd c d l1 m1) m2) tr) ∧ cnt (.nd a b (.nd e f (.nd c d l1 m1) m2) tr) ≤ 5000 from ⟨vals_of_list hv (by simp [tlist]), by simp only [cnt] at *; omega⟩)
          go_quiet (first | (go_at_call 37; exact Calls.quiet_of_same (HA.out _)) | (go_at_call 37; exact Calls.quiet_of_same (HB.out _)))
          go_wp2_with fail
          have hn3 : (w2.drewN nq).heap[n]? = some _ := hn
          obtain ⟨ln', e5, hp3⟩ := (hl.drewN nq).pn
          cases e5
          have hr3 := hr.drewN nq
          have HC3 := Lib.hid (HC2.out.drewN nq)
          clear HN2 HC2 HA HB c2 c3 d2 d3 fz hn hl hr hv hc hwd
          generalize w2.drewN nq = w3 at *
          refine (leftward_any ln c d e f l1 m1 m2 _ w3 hp3 HV1.out.1 HV1.out.2).mono ?_
          rintro ex w4 ⟨v, F', rfl, hc4, hn4⟩
          have row4 := (hc4.block (lt_of_block hn3) h1).trans hn3
          have hr4 := hr3.chg hc4 (h3).symm
          have hnF : n ∉ F' := fun hm => by
            rcases hc4.2.2.2.2.2 n hm with h | h
            · exact h1 h
            · have := lt_of_block hn3; omega
          have hSep : Sep F' Fr' := hc4.sep (h3) hr3.lt
          have HP5 := Lib.hid (⟨_, _, _, _, _, some v, vr', F', Fr', (nc_setp row4 (some v)).1, hn4.other hnF _ _, hr4.other h2 _ _, rfl, hnF, h2, hSep⟩ : Pn (w4.setCell ⟨n, 2, none⟩ (.pointer (some v))) n a b (.nd e f (.nd c d l1 m1) m2) tr (n :: (F' ++ Fr')))
          have HC5 := Lib.hid ((HC3.out.trans (hc4.frame (F := n :: (ln :: (F1 ++ F2) ++ Fr')) (F' := n :: (F' ++ Fr')) (by grind) (by grind))).setCell n 2 (.pointer (some v)) (by simp))
          obtain ⟨c0, c1, c2, c3, c4, c5, c6, c7, c8⟩ := nc_cells row4
          have fz := fun j => frozen_of_row w4 n j _ 60 row4
          clear c0 c1 c4 c5 c6 c7 c8 row4 hr4 hSep hc4 hn4 hn3 hp3 hr3 HC3
          go_wp2_with fail
          refine (rightward_any n a b e f (.nd c d l1 m1) m2 tr _ _ HP5.out HV2.out.1 HV2.out.2).mono ?_
          rintro ex w6 ⟨v6, F6, rfl, hc6, hn6⟩
          go_wp2_with fail
          go_ret
          exact ⟨v6, F6, rfl, by rw [e2]; exact HC5.out.trans hc6, by rw [HBT.out]; exact hn6⟩
      · have HBT := Lib.hid (show balT a b (.nd c d l1 l2) tr = .nd c d l1 (.nd a b l2 tr) from by rw [balT, if_pos hd]; rw [fixl, if_neg (show ¬ ht (lf (.nd c d l1 l2)) < ht (rt (.nd c d l1 l2)) from hf)]; rfl)
        go_quiet (first | (go_at_call 37; exact Calls.quiet_of_same (HA.out _)) | (go_at_call 37; exact Calls.quiet_of_same (HB.out _)))
        go_wp2_with fail
        obtain ⟨n', e5, hp3⟩ := (HN2.out.drewN nq).pn
        cases e5
        have HC3 := Lib.hid (HC2.out.drewN nq)
        rw [e2] at hp3
        clear HN2 HC2 HA HB c2 c3 d2 d3 fz hn hl hr
        generalize w2.drewN nq = w3 at *
        refine (rightward_any n a b c d l1 l2 tr _ w3 hp3 hv hc).mono ?_
        rintro ex w6 ⟨v6, F6, rfl, hc6, hn6⟩
        go_wp2_with fail
        go_ret
        exact ⟨v6, F6, rfl, by rw [e2]; exact HC3.out.trans hc6, by rw [HBT.out]; exact hn6⟩
  · have hd0 := hd
    by_cases hd : ht tl - ht tr < -1
    · skip
      cases HB : tr with
      | nil => subst HB; exact absurd hd (by have := ht_nonneg tl; simp only [ht]; omega)
      | nd c d l1 l2 =>
        subst HB
        obtain ⟨ln, v1, v2, F1, F2, rfl, hln, hl1, hl2, rfl, g1, g2, g3⟩ := id hr
        obtain ⟨d0, d1, d2, d3, d4, d5, d6, d7, d8⟩ := nc_cells hln
        clear d0 d1 d4 d5 d6 d7 d8 hln
        have HA := Lib.hid (fun k => (height_any l1 v1 F1 (w2.drewN k) (hl1.drewN k)).mono fun _ _ h => (⟨h.1, h.2.symm⟩ : _ ∧ _))
        have HB := Lib.hid (fun k => (height_any l2 v2 F2 (w2.drewN k) (hl2.drewN k)).mono fun _ _ h => (⟨h.1, h.2.symm⟩ : _ ∧ _))
        clear hl1 hl2
        go_upto_region 8 with fail
        by_cases hf : ht l2 < ht l1
        · cases l1 with
          | nil => exact absurd hf (by have := ht_nonneg l2; simp only [ht]; omega)
          | nd e f m1 m2 =>
            have HBT := Lib.hid (show balT a b tl (.nd c d (.nd e f m1 m2) l2) = .nd e f (.nd a b tl m1) (.nd c d m2 l2) from by rw [balT, if_neg hd0, if_pos hd]; rw [fixr, if_pos (show ht (rt (.nd c d (.nd e f m1 m2) l2)) < ht (lf (.nd c d (.nd e f m1 m2) l2)) from hf)]; rfl)
            have HV1 := Lib.hid (And.intro (show Vals (.nd c d (.nd e f m1 m2) l2) from hv.2.2) (show cnt (.nd c d (.nd e f m1 m2) l2) ≤ 5000 from by simp only [cnt] at *; have := cnt_nonneg tl; omega))
            have HV2 := Lib.hid (show Vals (.nd a b tl (.nd e f m1 (.nd c d m2 l2))) ∧ cnt (.nd a b tl (.nd e f m1 (.nd c d m2 l2))) ≤ 5000 from ⟨vals_of_list hv (by simp [tlist]), by simp only [cnt] at *; omega⟩)
            go_quiet (first | (go_at_call 37; exact Calls.quiet_of_same (HA.out _)) | (go_at_call 37; exact Calls.quiet_of_same (HB.out _)))
            go_wp2_with fail
            have hn3 : (w2.drewN nq).heap[n]? = some _ := hn
            obtain ⟨ln', e5, hp3⟩ := (hr.drewN nq).pn
            cases e5
            have hr3 := hl.drewN nq
            have HC3 := Lib.hid (HC2.out.drewN nq)
            clear HN2 HC2 HA HB c2 c3 d2 d3 fz hn hl hr hv hc hwd
            generalize w2.drewN nq = w3 at *
            refine (rightward_any ln c d e f m1 m2 l2 _ w3 hp3 HV1.out.1 HV1.out.2).mono ?_
            rintro ex w4 ⟨v, F', rfl, hc4, hn4⟩
            have row4 := (hc4.block (lt_of_block hn3) h2).trans hn3
            have hr4 := hr3.chg hc4 (h3.symm).symm
            have hnF : n ∉ F' := fun hm => by
              rcases hc4.2.2.2.2.2 n hm with h | h
              · exact h2 h
              · have := lt_of_block hn3; omega
            have hSep : Sep F' Fl' := hc4.sep (h3.symm) hr3.lt
            have HP5 := Lib.hid (⟨_, _, _, _, _, vl', some v, Fl', F', (nc_setp row4 (some v)).2, hr4.other h1 _ _, hn4.other hnF _ _, rfl, h1, hnF, hSep.symm⟩ : Pn (w4.setCell ⟨n, 3, none⟩ (.pointer (some v))) n a b tl (.nd e f m1 (.nd c d m2 l2)) (n :: (Fl' ++ F')))
            have HC5 := Lib.hid ((HC3.out.trans (hc4.frame (F := n :: (Fl' ++ ln :: (F1 ++ F2))) (F' := n :: (Fl' ++ F')) (by grind) (by grind))).setCell n 3 (.pointer (some v)) (by simp))
            obtain ⟨c0, c1, c2, c3, c4, c5, c6, c7, c8⟩ := nc_cells row4
            have fz := fun j => frozen_of_row w4 n j _ 60 row4
            clear c0 c1 c4 c5 c6 c7 c8 row4 hr4 hSep hc4 hn4 hn3 hp3 hr3 HC3
            go_wp2_with fail
            refine (leftward_any n a b e f tl m1 (.nd c d m2 l2) _ _ HP5.out HV2.out.1 HV2.out.2).mono ?_
            rintro ex w6 ⟨v6, F6, rfl, hc6, hn6⟩
            go_wp2_with fail
            go_ret
            exact ⟨v6, F6, rfl, by rw [e2]; exact HC5.out.trans hc6, by rw [HBT.out]; exact hn6⟩
        · have HBT := Lib.hid (show balT a b tl (.nd c d l1 l2) = .nd c d (.nd a b tl l1) l2 from by rw [balT, if_neg hd0, if_pos hd]; rw [fixr, if_neg (show ¬ ht (rt (.nd c d l1 l2)) < ht (lf (.nd c d l1 l2)) from hf)]; rfl)
          go_quiet (first | (go_at_call 37; exact Calls.quiet_of_same (HA.out _)) | (go_at_call 37; exact Calls.quiet_of_same (HB.out _)))
          go_wp2_with fail
          obtain ⟨n', e5, hp3⟩ := (HN2.out.drewN nq).pn
          cases e5
          have HC3 := Lib.hid (HC2.out.drewN nq)
          rw [e2] at hp3
          clear HN2 HC2 HA HB c2 c3 d2 d3 fz hn hl hr
          generalize w2.drewN nq = w3 at *
          refine (leftward_any n a b c d tl l1 l2 _ w3 hp3 hv hc).mono ?_
          rintro ex w6 ⟨v6, F6, rfl, hc6, hn6⟩
          go_wp2_with fail
          go_ret
          exact ⟨v6, F6, rfl, by rw [e2]; exact HC3.out.trans hc6, by rw [HBT.out]; exact hn6⟩
    · have HBT := Lib.hid (show balT a b tl tr = .nd a b tl tr from by rw [balT, if_neg hd0, if_neg hd])
      go_wp2_with fail
      go_ret
      rw [HBT.out]
      try rw [e2]
      rw [e2] at HN2
      exact ⟨_, rfl, _, HC2.out, HN2.out⟩

end Go.Proofs.Ytkaglggljomgdaa

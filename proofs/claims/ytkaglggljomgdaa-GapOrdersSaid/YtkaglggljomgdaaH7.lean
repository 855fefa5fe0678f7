/- Parts of the proofs of layer 18 (gap): contracts of its functions, and the laws' walks. -/
import Derived.Test.YtkaglggljomgdaaProg
import Derived.WalkKit
import Derived.WalkSpells
import Derived.WalkLawsBesides
import Derived.BigQuiet
import Derived.Deep.QuietTactic
import Derived.Lib.Hide
import Derived.Deep.RegionHeld3
import Derived.Deep.DeepCutAuto
import Derived.KernelRfl
import Derived.Deep.OwnRows
import Derived.Laws.CopyOwn
import Derived.Laws.CopyRow
import Derived.StillTailTactics
import Derived.Deep.RegionLaw
import Derived.Test.YtkaglggljomgdaaH6
namespace Go.Proofs.Ytkaglggljomgdaa
open Go.RowKit
set_option linter.unusedVariables false
set_option linter.unusedSimpArgs false

theorem sub_join (l r : Tr) : tlist (joinT l r) = tlist l ++ tlist r := tlist_joinT l r
theorem cnt_del (t : Tr) (x : Int) : cnt (delT t x) ≤ cnt t := by
  induction t with
  | nil => exact Int.le_refl _
  | nd a b l r ihl ihr =>
    rw [delT]
    split
    · rw [cnt_of_list (t := .nd a b (delT l x) r) (by rw [tlist_balT, tlist]), cnt, cnt]; omega
    · split
      · rw [cnt_of_list (t := .nd a b l (delT r x)) (by rw [tlist_balT, tlist]), cnt, cnt]; omega
      · rw [cnt_length, tlist_joinT, List.length_append, cnt, cnt_length, cnt_length]; omega
theorem vals_del (t : Tr) (x : Int) (h : Vals t) : Vals (delT t x) := by
  induction t with
  | nil => exact h
  | nd a b l r ihl ihr =>
    obtain ⟨h1, h2, h3⟩ := h
    rw [delT]
    split
    · exact vals_of_list (t := .nd a b (delT l x) r) ⟨h1, ihl h2, h3⟩ (by rw [tlist_balT, tlist])
    · split
      · exact vals_of_list (t := .nd a b l (delT r x)) ⟨h1, h2, ihr h3⟩ (by rw [tlist_balT, tlist])
      · rw [vals_iff, tlist_joinT]
        intro e he
        rcases List.mem_append.1 he with he | he
        · exact (vals_iff _).1 h2 e he
        · exact (vals_iff _).1 h3 e he
set_option maxHeartbeats 2000000 in
theorem del_any (x : Int) (t : Tr) : ∀ (v : Option Addr) (F : List Nat) (w : World), Nd w t v F → Vals t → cnt t ≤ 5000 → Fnd t x →
    Calls Try.prog 39 #[.pointer v, .int .i64 x] w fun e w' => ∃ v' F', e = .returned (.pointer v') ∧ Chg F F' w w' ∧ Nd w' (delT t x) v' F' := by
  induction t with
  | nil => intro v F w h hv hc hfnd; exact hfnd.elim
  | nd a b l r ihl ihr =>
    intro v F w h hv hc hfnd
    obtain ⟨n, vl, vr, Fl, Fr, rfl, hn, hl, hr, rfl, h1, h2, h3⟩ := h
    obtain ⟨hv0, hvl, hvr⟩ := hv
    have hcl := cnt_nonneg l
    have hcr := cnt_nonneg r
    have hc' := hc
    rw [cnt] at hc'
    rw [Fnd] at hfnd
    obtain ⟨c0, c1, c2, c3, c4, c5, c6, c7, c8⟩ := nc_cells hn
    have fz := fun j => frozen_of_row w n j _ 60 hn
    clear c1 c4 c5 c6 c7 c8
    by_cases hxa : x < a
    · rw [if_pos hxa] at hfnd
      have HT := Lib.hid (show delT (.nd a b l r) x = balT a b (delT l x) r from by rw [delT, if_pos hxa])
      have HH := Lib.hid (ihl vl Fl w hl hvl (by omega) (by first | exact hfnd))
      have HB := Lib.hid (fun (w5 : World) F5 (hp : Pn w5 n a b (delT l x) r F5) => balance_any n a b (delT l x) r F5 w5 hp ⟨hv0, vals_del l x hvl, hvr⟩ (by have := cnt_del l x; rw [cnt]; omega))
      clear hcl hcr hc hc' hv0 hvl hvr
      go_enter Try.func39, Try.ntmps39
      go_wp2_with fail
      refine HH.out.mono ?_
      rintro e w4 ⟨v', F', rfl, hc4, hn4⟩
      obtain ⟨hp, hc5, row⟩ := Pn.left hn hr h1 h2 h3 hc4 hn4
      have HP := Lib.hid hp
      have HC := Lib.hid hc5
      obtain ⟨d0, d1, d2, d3, d4, d5, d6, d7, d8⟩ := nc_cells row
      have gz := fun j => frozen_of_row w4 n j _ 60 row
      clear c0 c2 c3 fz d0 d1 d4 d5 d6 d7 d8 hp hc5 row hc4 hn4 hn hl hr HH
      go_wp2_with fail
      refine (HB.out _ _ HP.out).mono ?_
      rintro e w6 ⟨v6, F6, rfl, hc6, hn6⟩
      go_wp2_with fail
      go_ret
      exact ⟨some v6, F6, rfl, HC.out.trans hc6, by rw [HT.out]; exact hn6⟩
    · by_cases hax : a < x
      · rw [if_neg hxa, if_pos hax] at hfnd
        have HT := Lib.hid (show delT (.nd a b l r) x = balT a b l (delT r x) from by rw [delT, if_neg hxa, if_pos hax])
        have HH := Lib.hid (ihr vr Fr w hr hvr (by omega) (by first | exact hfnd))
        have HB := Lib.hid (fun (w5 : World) F5 (hp : Pn w5 n a b l (delT r x) F5) => balance_any n a b l (delT r x) F5 w5 hp ⟨hv0, hvl, vals_del r x hvr⟩ (by have := cnt_del r x; rw [cnt]; omega))
        clear hcl hcr hc hc' hv0 hvl hvr
        go_enter Try.func39, Try.ntmps39
        go_wp2_with fail
        refine HH.out.mono ?_
        rintro e w4 ⟨v', F', rfl, hc4, hn4⟩
        obtain ⟨hp, hc5, row⟩ := Pn.right hn hl h1 h2 h3 hc4 hn4
        have HP := Lib.hid hp
        have HC := Lib.hid hc5
        obtain ⟨d0, d1, d2, d3, d4, d5, d6, d7, d8⟩ := nc_cells row
        have gz := fun j => frozen_of_row w4 n j _ 60 row
        clear c0 c2 c3 fz d0 d1 d4 d5 d6 d7 d8 hp hc5 row hc4 hn4 hn hl hr HH
        go_wp2_with fail
        refine (HB.out _ _ HP.out).mono ?_
        rintro e w6 ⟨v6, F6, rfl, hc6, hn6⟩
        go_wp2_with fail
        go_ret
        exact ⟨some v6, F6, rfl, HC.out.trans hc6, by rw [HT.out]; exact hn6⟩
      · have HT := Lib.hid (show delT (.nd a b l r) x = joinT l r from by rw [delT, if_neg hxa, if_neg hax])
        cases l with
        | nil =>
          obtain ⟨rfl, rfl⟩ := hl
          go_enter Try.func39, Try.ntmps39
          go_wp2_with fail
          go_ret
          exact ⟨vr, rfl, Fr, (Chg.refl _ w).sub (by grind), by rw [HT.out]; exact hr⟩
        | nd la lb ll lr =>
          obtain ⟨lk, rfl, _⟩ := hl.pn
          cases r with
          | nil =>
            obtain ⟨rfl, rfl⟩ := hr
            go_enter Try.func39, Try.ntmps39
            go_wp2_with fail
            go_ret
            exact ⟨_, rfl, Fl, (Chg.refl _ w).sub (by grind), by rw [HT.out]; exact hl⟩
          | nd ra rb rl rr =>
            obtain ⟨rk, rfl, _⟩ := hr.pn
            have HVL := Lib.hid (vals_least ra rb rl rr hvr)
            have hcl := cnt_least ra rb rl rr
            have HB := Lib.hid (fun (w5 : World) k F5 (hp : Pn w5 k (leastT ra rb rl rr).1.1 (leastT ra rb rl rr).1.2 (.nd la lb ll lr) (leastT ra rb rl rr).2 F5) => balance_any k _ _ _ _ F5 w5 hp ⟨HVL.out.1, hvl, HVL.out.2⟩ (by rw [cnt]; omega))
            have HH := Lib.hid (least_any rl ra rb rr rk Fr w hr hvr (by omega))
            have HT2 := Lib.hid (show delT (.nd a b (.nd la lb ll lr) (.nd ra rb rl rr)) x = balT (leastT ra rb rl rr).1.1 (leastT ra rb rl rr).1.2 (.nd la lb ll lr) (leastT ra rb rl rr).2 from HT.out.trans rfl)
            clear hcl hcr hc hc' hv0 hvl hvr HVL hr HT ihl ihr
            generalize (leastT ra rb rl rr).1 = p at *
            generalize (leastT ra rb rl rr).2 = rest at *
            generalize (Tr.nd ra rb rl rr) = TR at *
            go_enter Try.func39, Try.ntmps39
            go_upto_region 1 with fail
            go_wp2_with fail
            refine HH.out.mono ?_
            rintro e w4 ⟨k, ul, ur, q1, q2, q3, q4, q5, v', F', rfl, hc4, hk4, hkF, hn4⟩
            have hkG : k ≠ n ∧ k ∉ Fl := by
              have := lt_of_block hn
              have hll := hl.lt
              unfold Sep at h3
              rcases hc4.2.2.2.2.2 k (by simp) with h | h
              · exact ⟨fun e => h2 (e ▸ h), fun hm => h3 k hm h⟩
              · exact ⟨by omega, fun hm => by have := hll k hm; omega⟩
            have row4 := (hc4.block (lt_of_block hn) h2).trans hn
            have hl4 := hl.chg hc4 h3
            have hsep : Sep Fl F' := fun b hb hm => (hc4.sep (fun x hx hm => h3 x hm hx) hl.lt) b (by simp [hm]) hb
            have HP := Lib.hid (⟨_, _, _, _, _, _, _, Fl, F', (nc_setp (nc_setp hk4 (some ⟨lk, 0, none⟩)).1 v').2, (hl4.other hkG.2 _ _).other hkG.2 _ _, (hn4.other hkF _ _).other hkF _ _, rfl, hkG.2, hkF, hsep⟩ : Pn ((w4.setCell ⟨k, 2, none⟩ (.pointer (some ⟨lk, 0, none⟩))).setCell ⟨k, 3, none⟩ (.pointer v')) k p.1 p.2 (.nd la lb ll lr) rest (k :: (Fl ++ F')))
            have HC := Lib.hid (((hc4.frame (F := n :: (Fl ++ Fr)) (F' := k :: (Fl ++ F')) (by grind) (by grind)).setCell k 2 (.pointer (some ⟨lk, 0, none⟩)) (by simp)).setCell k 3 (.pointer v') (by simp))
            obtain ⟨d0, d1, d2, d3, d4, d5, d6, d7, d8⟩ := nc_cells row4
            obtain ⟨e0, e1, e2, e3, e4, e5, e6, e7, e8⟩ := nc_cells hk4
            have gz := fun j => frozen_of_row w4 k j _ 60 hk4
            clear c0 c2 c3 fz d0 d1 d3 d4 d5 d6 d7 d8 e0 e1 e4 e5 e6 e7 e8 row4 hl4 hc4 hn4 hn hl HH hk4 hkF hsep
            have hkn := hkG.1
            go_wp2_with fail
            refine (HB.out _ _ _ HP.out).mono ?_
            rintro e w6 ⟨v6, F6, rfl, hc6, hn6⟩
            go_wp2_with fail
            go_ret
            exact ⟨some v6, F6, rfl, HC.out.trans hc6, by rw [HT2.out]; exact hn6⟩

end Go.Proofs.Ytkaglggljomgdaa

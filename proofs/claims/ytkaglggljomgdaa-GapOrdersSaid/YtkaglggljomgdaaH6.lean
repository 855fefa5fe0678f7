/- Parts of the proofs of layer 18 (gap): contracts of its functions, and the laws' walks. -/
import Derived.Test.YtkaglggljomgdaaProg
import Derived.WalkKit
import Derived.WalkSpells
import Derived.WalkLawsBesides
import Derived.BigQuiet
import Derived.Deep.QuietTactic
import Derived.Lib.Hide
import Derived.Deep.RegionHeld3
import Derived.Deep.DeepCutAuto
import Derived.KernelRfl
import Derived.Deep.OwnRows
import Derived.Laws.CopyOwn
import Derived.Laws.CopyRow
import Derived.StillTailTactics
import Derived.Deep.RegionLaw
import Derived.Test.YtkaglggljomgdaaH5
import Derived.OwnWalk
namespace Go.Proofs.Ytkaglggljomgdaa
open Go.RowKit
set_option linter.unusedVariables false
set_option linter.unusedSimpArgs false

theorem vals_least (a b : Int) (l r : Tr) (h : Vals (.nd a b l r)) : (0 ≤ (leastT a b l r).1.1 ∧ (leastT a b l r).1.1 ≤ 5000 ∧ 0 ≤ (leastT a b l r).1.2 ∧ (leastT a b l r).1.2 ≤ 5000) ∧ Vals (leastT a b l r).2 := by
  rw [vals_iff, leastT_list] at h
  exact ⟨h _ (by simp), (vals_iff _).2 fun e he => h e (by simp [he])⟩
theorem cnt_least (a b : Int) (l r : Tr) : cnt (leastT a b l r).2 + 1 = cnt (.nd a b l r) := by
  rw [cnt_length, cnt_length, leastT_list, List.length_cons]; omega
set_option maxHeartbeats 2000000 in
theorem least_any (l : Tr) : ∀ (a b : Int) (r : Tr) (n : Nat) (F : List Nat) (w : World), Nd w (.nd a b l r) (some ⟨n, 0, none⟩) F → Vals (.nd a b l r) → cnt (.nd a b l r) ≤ 5000 →
    Calls Try.prog 46 #[.pointer (some ⟨n, 0, none⟩)] w fun e w' => ∃ k vl' vr' h f l0 g m v' F', e = .returned (.tuple #[.pointer (some ⟨k, 0, none⟩), .pointer v']) ∧ Chg F (k :: F') w w' ∧ w'.heap[k]? = some (nc (leastT a b l r).1.1 (leastT a b l r).1.2 vl' vr' h f l0 g m) ∧ k ∉ F' ∧ Nd w' (leastT a b l r).2 v' F' := by
  induction l with
  | nil =>
    intro a b r n F w h hv hc
    obtain ⟨n', vl, vr, Fl, Fr, e1, hn, hl, hr, rfl, h1, h2, h3⟩ := h
    cases e1
    obtain ⟨rfl, rfl⟩ := hl
    obtain ⟨c0, c1, c2, c3, c4, c5, c6, c7, c8⟩ := nc_cells hn
    have fz := fun j => frozen_of_row w n j _ 60 hn
    clear c0 c1 c4 c5 c6 c7 c8
    go_enter Try.func46, Try.ntmps46
    go_upto_region 2 with fail
    go_quiet (fail)
    go_wp2_with fail
    have HC : Chg (n :: ([] ++ Fr)) (n :: Fr) w (w.drewN nq) := (Chg.refl _ w).drewN nq
    have HR := hr.drewN nq
    have hn' : (w.drewN nq).heap[n]? = some _ := hn
    generalize w.drewN nq = w2 at *
    go_ret2
    exact ⟨n, none, vr, _, _, _, _, _, vr, Fr, rfl, HC, hn', h2, HR⟩
  | nd c d l1 l2 ih1 ih2 =>
    intro a b r n F w h hv hc
    obtain ⟨n', vl, vr, Fl, Fr, e1, hn, hl, hr, rfl, h1, h2, h3⟩ := h
    cases e1
    obtain ⟨k1, rfl, _⟩ := hl.pn
    obtain ⟨hv0, hvl, hvr⟩ := hv
    have HVL := Lib.hid (vals_least c d l1 l2 hvl)
    have hcl := cnt_least c d l1 l2
    have hcr := cnt_nonneg r
    have hc' := hc
    rw [cnt] at hc'
    have HB := Lib.hid (fun (w5 : World) F5 (hp : Pn w5 n a b (leastT c d l1 l2).2 r F5) => balance_any n a b _ r F5 w5 hp ⟨hv0, HVL.out.2, hvr⟩ (by rw [cnt]; omega))
    have HH := Lib.hid (ih1 c d l2 k1 Fl w hl hvl (by omega))
    obtain ⟨c0, c1, c2, c3, c4, c5, c6, c7, c8⟩ := nc_cells hn
    have fz := fun j => frozen_of_row w n j _ 60 hn
    have e1 : (leastT a b (.nd c d l1 l2) r).1 = (leastT c d l1 l2).1 := by rw [leastT]
    have e2 : (leastT a b (.nd c d l1 l2) r).2 = balT a b (leastT c d l1 l2).2 r := by rw [leastT]
    rw [e1, e2]
    clear c0 c1 c3 c4 c5 c6 c7 c8 e1 e2 hcl hcr hc hc' hv0 hvl hvr HVL hl
    generalize (leastT c d l1 l2).1 = p at *
    generalize (leastT c d l1 l2).2 = rest at *
    go_enter Try.func46, Try.ntmps46
    go_upto_region 3 with fail
    go_wp2_with fail
    refine HH.out.mono ?_
    rintro e w4 ⟨k, ul, ur, q1, q2, q3, q4, q5, v', F', rfl, hc4, hk4, hkF, hn4⟩
    obtain ⟨hp, hc5, row⟩ := Pn.left hn hr h1 h2 h3 (hc4.sub (G := F') (by grind)) hn4
    have hkG : k ≠ n ∧ k ∉ Fr := by
      have := lt_of_block hn
      have hlr := hr.lt
      unfold Sep at h3
      rcases hc4.2.2.2.2.2 k (by simp) with h | h
      · exact ⟨fun e => h1 (e ▸ h), h3 k h⟩
      · exact ⟨by omega, fun hm => by have := hlr k hm; omega⟩
    have HP := Lib.hid hp
    have hcW : Chg (n :: (Fl ++ Fr)) (k :: n :: (F' ++ Fr)) w (w4.setCell ⟨n, 2, none⟩ (.pointer v')) := (hc4.frame (F := n :: (Fl ++ Fr)) (F' := k :: n :: (F' ++ Fr)) (by grind) (by grind)).setCell _ _ _ (by simp)
    have HC := Lib.hid hcW
    have HK := Lib.hid (row_other hk4 hkG.1 2 (.pointer v'))
    have HS := Lib.hid (show k ∉ n :: (F' ++ Fr) from by grind)
    obtain ⟨d0, d1, d2, d3, d4, d5, d6, d7, d8⟩ := nc_cells row
    have gz := fun j => frozen_of_row w4 n j _ 60 row
    clear c2 fz d0 d1 d3 d4 d5 d6 d7 d8 hp hc5 row hc4 hn4 hn hr HH hkG hcW hk4 hkF
    go_wp2_with fail
    refine (HB.out _ _ HP.out).mono ?_
    rintro e w6 ⟨v6, F6, rfl, hc6, hn6⟩
    have hk6 := (hc6.block (lt_of_block HK.out) HS.out).trans HK.out
    have hkF6 : k ∉ F6 := fun hm => by
      rcases hc6.2.2.2.2.2 k hm with h | h
      · exact HS.out h
      · have := lt_of_block HK.out; omega
    have HC7 := Lib.hid (HC.out.trans (hc6.cons k))
    clear HP HC HK HS HB hc6
    go_wp2_with fail
    go_ret2
    exact ⟨k, ul, ur, _, _, _, _, _, some v6, F6, rfl, HC7.out, hk6, hkF6, hn6⟩

end Go.Proofs.Ytkaglggljomgdaa

/- Parts of the proofs of layer 18 (gap): contracts of its functions, and the laws' walks. -/
import Derived.Test.YtkaglggljomgdaaProg
import Derived.WalkKit
import Derived.WalkSpells
import Derived.WalkLawsBesides
import Derived.BigQuiet
import Derived.Deep.QuietTactic
import Derived.Lib.Hide
import Derived.Deep.RegionHeld3
import Derived.Deep.DeepCutAuto
import Derived.KernelRfl
import Derived.Deep.OwnRows
import Derived.Laws.CopyOwn
import Derived.Laws.CopyRow
import Derived.StillTailTactics
import Derived.Deep.RegionLaw
import Derived.Test.YtkaglggljomgdaaH10
import Derived.OwnWalk
import Derived.Deep.LoopGhost
namespace Go.Proofs.Ytkaglggljomgdaa
open Go.RowKit
set_option linter.unusedVariables false
set_option linter.unusedSimpArgs false

def cutL (x y : Int) (L : List (Int × Int)) : List (Int × Int) := if wrg x y = 0 then cuts x y L else L
set_option maxHeartbeats 4000000 in
theorem Cut_any (x y : Int) (g : Nat) (F : List Nat) (L : List (Int × Int)) (w : World) (h : Gt w g F L) :
    Calls Try.prog 27 #[.pointer (some ⟨g, 0, none⟩), .int .i64 x, .int .i64 y] w fun e w' => e = .returned (.int .i64 (wrg x y)) ∧ ∃ F', Chg F F' w w' ∧ Gt w' g F' (cutL x y L) := by
  obtain ⟨t, ht, hgd, rfl⟩ := h
  have HW := Lib.hid (wrong_any ⟨g, 0, none⟩ x y w)
  by_cases hw : wrg x y = 0
  · have HX := Lib.hid (wrg_ok.1 hw)
    have HW0 := Lib.hid hw
    have HG := Lib.hid hgd
    have HT := Lib.hid ht
    have HK := Lib.hid (show cutL x y (tlist t) = cuts x y (tlist t) from if_pos hw)
    obtain ⟨v, F', hg, hn, hF, h1⟩ := ht
    have HH := Lib.hid (meets_any g x y t v F' w hg hn)
    rw [meetT_find t x y HX.out.2.1 _ _ hgd.1] at HH
    rw [hw] at HW
    clear hw hgd hg hn hF h1
    go_enter Try.func27, Try.ntmps27
    go_wp2_with fail
    refine HW.out.mono ?_
    rintro ex w1 ⟨rfl, rfl⟩
    go_wp2_with fail
    refine HH.out.mono ?_
    rintro ex w1 ⟨u, rfl, rfl, hu⟩
    have HU0 := Lib.hid hu
    clear hu HH HW
    go_wp2_with fail
    go_loopg [8, 9, 10] (cm x y (tlist t)) (fun k n a b wr => ∃ (t' : Tr) (F' : List Nat) (u : Option Addr), n = .pointer u ∧ RowKit.Hid (Tg wr g F' t' ∧ Good t' ∧ Res wr (fm x y (tlist t')) u ∧ cuts x y (tlist t') = cuts x y (tlist t) ∧ Chg F F' w wr ∧ k = cm x y (tlist t')))
    case atStart => exact ⟨t, F, u, rfl, Lib.hid ⟨HT.out, HG.out, HU0.out, rfl, Chg.refl _ _, rfl⟩⟩
    case round =>
      obtain ⟨t', F1, u1, rfl, HI⟩ := hrel
      cases hf : fm x y (tlist t') with
      | none =>
        have hu1 := HI.out.2.2.1
        rw [hf] at hu1
        obtain rfl : u1 = none := hu1
        have HF := Lib.hid (cuts_self (fm_none_iff.1 hf))
        clear hf
        go_wp2_with fail
        go_ret
        rw [HW0.out, HK.out]
        exact ⟨rfl, F1, HI.out.2.2.2.2.1, t', HI.out.1, HI.out.2.1, by rw [← HI.out.2.2.2.1, HF.out]⟩
      | some e =>
        have hu1 := HI.out.2.2.1
        rw [hf] at hu1
        obtain ⟨k, _, _, _, _, _, _, _, rfl, hk⟩ := hu1
        have hst := cut_step HI.out.2.1.1 HX.out.1 HX.out.2.1 HX.out.2.2 hf
        have HS := Lib.hid hst
        have HD := Lib.hid (del_good (x := e.1) HI.out.2.1)
        have HE := Lib.hid (show 1 ≤ e.1 ∧ e.1 ≤ 4096 ∧ 1 ≤ e.2 ∧ e.2 ≤ 4096 ∧ Fnd t' e.1 from by
          have := HI.out.2.1.1.mem e hst.2.2.2.2.2.2
          exact ⟨by omega, by omega, by omega, by omega, fnd_of t' e.1 e.2 _ _ HI.out.2.1.1 hst.2.2.2.2.2.2⟩)
        obtain ⟨k0, k1, k2, k3, k4, k5, k6, k7, k8⟩ := nc_cells hk
        clear k2 k3 k4 k5 k6 k7 k8 hk hst hf
        go_upto_region 7 with fail
        go_quiet (fail)
        have HT : RowKit.Hid (Tg (wr.drewN nq) g F1 t') := Lib.hid (HI.out.1.of_blocks fun _ _ => rfl)
        have HC : RowKit.Hid (Chg F F1 w (wr.drewN nq)) := Lib.hid HI.out.2.2.2.2.1
        clear k0 k1
        generalize wr.drewN nq = y0 at *
        obtain ⟨v1, G1, hg, hn, hF, hq⟩ := HT.out
        rw [hF] at HC
        clear hF
        have c0 := cell_of_one hg
        have fz := fun j => frozen_of_row y0 g j _ 64 hg
        have HU := Lib.hid (del_any e.1 t' v1 G1 y0 hn HI.out.2.1.vals (by have := HI.out.2.1.cnt; omega) HE.out.2.2.2.2)
        clear hn HT
        go_wp2_with fail
        refine HU.out.mono ?_
        rintro ex w1 ⟨x1, F1, rfl, hc2, hn2⟩
        obtain ⟨ht2, hc3, hg2⟩ := tg_store hg hq hc2 hn2
        have c0' := cell_of_one hg2
        have fz' := fun j => frozen_of_row w1 g j _ 64 hg2
        have HT := Lib.hid ht2
        have HC := Lib.hid (HC.out.trans hc3)
        clear hg hg2 hc2 hn2 ht2 hc3 c0 fz HU hq
        go_upto_region 9 with fail
        clear c0' fz'
        generalize w1.setCell ⟨g, 0, none⟩ _ = y1 at *
        by_cases ha : e.1 < x
        · have HP1 := Lib.hid (put_good (x := e.1) (y := x) HD.out.1 (by have := HE.out; omega) ha (by have := HX.out; omega) (by rw [HD.out.2]; exact HS.out.2.2.1 ha))
          obtain ⟨v2, G2, hg, hn, hF, hq⟩ := HT.out
          rw [hF] at HC
          clear hF
          have c0 := cell_of_one hg
          have fz := fun j => frozen_of_row y1 g j _ 64 hg
          have HU := Lib.hid (put_any e.1 x (by have := HX.out; have := HE.out; omega) (delT t' e.1) v2 G2 y1 hn (HD.out.1).vals (by have := (HD.out.1).cnt; omega))
          clear hn HT
          go_wp2_with fail
          refine HU.out.mono ?_
          rintro ex w2 ⟨x2, F2, rfl, hc2, hn2⟩
          obtain ⟨ht2, hc3, hg2⟩ := tg_store hg hq hc2 hn2
          have c0' := cell_of_one hg2
          have fz' := fun j => frozen_of_row w2 g j _ 64 hg2
          have HT := Lib.hid ht2
          have HC := Lib.hid (HC.out.trans hc3)
          clear hg hg2 hc2 hn2 ht2 hc3 c0 fz HU hq
          go_upto_region 11 with fail
          clear c0' fz'
          generalize w2.setCell ⟨g, 0, none⟩ _ = y2 at *
          by_cases hb : y < e.2
          · have HP2 := Lib.hid (put_good (x := y) (y := e.2) HP1.out.1 (by have := HX.out; omega) hb (by have := HE.out; omega) (by rw [HP1.out.2, HD.out.2]; have := HS.out.2.2.2.1 hb; rw [if_pos ha] at this; exact this))
            have HLE := Lib.hid (show tlist (putT (putT (delT t' e.1) e.1 x) y e.2) = stepL x y e (tlist t') from by rw [HP2.out.2, HP1.out.2, HD.out.2]; unfold stepL; simp only; rw [if_pos ha, if_pos hb])
            obtain ⟨v3, G3, hg, hn, hF, hq⟩ := HT.out
            rw [hF] at HC
            clear hF
            have c0 := cell_of_one hg
            have fz := fun j => frozen_of_row y2 g j _ 64 hg
            have HU := Lib.hid (put_any y e.2 (by have := HX.out; have := HE.out; omega) (putT (delT t' e.1) e.1 x) v3 G3 y2 hn (HP1.out.1).vals (by have := (HP1.out.1).cnt; omega))
            clear hn HT
            go_wp2_with fail
            refine HU.out.mono ?_
            rintro ex w3 ⟨x3, F3, rfl, hc2, hn2⟩
            obtain ⟨ht2, hc3, hg2⟩ := tg_store hg hq hc2 hn2
            have c0' := cell_of_one hg2
            have fz' := fun j => frozen_of_row w3 g j _ 64 hg2
            have HT := Lib.hid ht2
            have HC := Lib.hid (HC.out.trans hc3)
            clear hg hg2 hc2 hn2 ht2 hc3 c0 fz HU hq
            go_upto_region 6 with fail
            clear c0' fz'
            generalize w3.setCell ⟨g, 0, none⟩ _ = y3 at *
            obtain ⟨v9, G9, hg, hn, hF, hq⟩ := HT.out
            have HH := Lib.hid (meets_any g x y (putT (putT (delT t' e.1) e.1 x) y e.2) v9 G9 y3 hg hn)
            rw [meetT_find _ x y HX.out.2.1 _ _ (HP2.out.1).1, HLE.out] at HH
            clear hg hn hF hq
            go_wp2_with fail
            refine HH.out.mono ?_
            rintro ex w9 ⟨u9, rfl, rfl, hu9⟩
            have HU9 := Lib.hid hu9
            clear hu9 HH
            go_wp2_with fail
            go_roundg (cm x y (stepL x y e (tlist t')))
            case measure => have := HI.out.2.2.2.2.2; have := HS.out.2.1; omega
            case rel => exact ⟨_, _, u9, rfl, Lib.hid ⟨HT.out, HP2.out.1, by rw [HLE.out]; exact HU9.out, by rw [HLE.out, HS.out.1]; exact HI.out.2.2.2.1, HC.out, by rw [HLE.out]⟩⟩
          · have HLE := Lib.hid (show tlist (putT (delT t' e.1) e.1 x) = stepL x y e (tlist t') from by rw [HP1.out.2, HD.out.2]; unfold stepL; simp only; rw [if_pos ha, if_neg hb])
            go_upto_region 6 with fail
            obtain ⟨v9, G9, hg, hn, hF, hq⟩ := HT.out
            have HH := Lib.hid (meets_any g x y (putT (delT t' e.1) e.1 x) v9 G9 y2 hg hn)
            rw [meetT_find _ x y HX.out.2.1 _ _ (HP1.out.1).1, HLE.out] at HH
            clear hg hn hF hq
            go_wp2_with fail
            refine HH.out.mono ?_
            rintro ex w9 ⟨u9, rfl, rfl, hu9⟩
            have HU9 := Lib.hid hu9
            clear hu9 HH
            go_wp2_with fail
            go_roundg (cm x y (stepL x y e (tlist t')))
            case measure => have := HI.out.2.2.2.2.2; have := HS.out.2.1; omega
            case rel => exact ⟨_, _, u9, rfl, Lib.hid ⟨HT.out, HP1.out.1, by rw [HLE.out]; exact HU9.out, by rw [HLE.out, HS.out.1]; exact HI.out.2.2.2.1, HC.out, by rw [HLE.out]⟩⟩
        · by_cases hb : y < e.2
          · have HP2 := Lib.hid (put_good (x := y) (y := e.2) HD.out.1 (by have := HX.out; omega) hb (by have := HE.out; omega) (by rw [HD.out.2]; have := HS.out.2.2.2.1 hb; rw [if_neg ha] at this; exact this))
            have HLE := Lib.hid (show tlist (putT (delT t' e.1) y e.2) = stepL x y e (tlist t') from by rw [HP2.out.2, HD.out.2]; unfold stepL; simp only; rw [if_neg ha, if_pos hb])
            go_upto_region 11 with fail
            obtain ⟨v3, G3, hg, hn, hF, hq⟩ := HT.out
            rw [hF] at HC
            clear hF
            have c0 := cell_of_one hg
            have fz := fun j => frozen_of_row y1 g j _ 64 hg
            have HU := Lib.hid (put_any y e.2 (by have := HX.out; have := HE.out; omega) (delT t' e.1) v3 G3 y1 hn (HD.out.1).vals (by have := (HD.out.1).cnt; omega))
            clear hn HT
            go_wp2_with fail
            refine HU.out.mono ?_
            rintro ex w3 ⟨x3, F3, rfl, hc2, hn2⟩
            obtain ⟨ht2, hc3, hg2⟩ := tg_store hg hq hc2 hn2
            have c0' := cell_of_one hg2
            have fz' := fun j => frozen_of_row w3 g j _ 64 hg2
            have HT := Lib.hid ht2
            have HC := Lib.hid (HC.out.trans hc3)
            clear hg hg2 hc2 hn2 ht2 hc3 c0 fz HU hq
            go_upto_region 6 with fail
            clear c0' fz'
            generalize w3.setCell ⟨g, 0, none⟩ _ = y3 at *
            obtain ⟨v9, G9, hg, hn, hF, hq⟩ := HT.out
            have HH := Lib.hid (meets_any g x y (putT (delT t' e.1) y e.2) v9 G9 y3 hg hn)
            rw [meetT_find _ x y HX.out.2.1 _ _ (HP2.out.1).1, HLE.out] at HH
            clear hg hn hF hq
            go_wp2_with fail
            refine HH.out.mono ?_
            rintro ex w9 ⟨u9, rfl, rfl, hu9⟩
            have HU9 := Lib.hid hu9
            clear hu9 HH
            go_wp2_with fail
            go_roundg (cm x y (stepL x y e (tlist t')))
            case measure => have := HI.out.2.2.2.2.2; have := HS.out.2.1; omega
            case rel => exact ⟨_, _, u9, rfl, Lib.hid ⟨HT.out, HP2.out.1, by rw [HLE.out]; exact HU9.out, by rw [HLE.out, HS.out.1]; exact HI.out.2.2.2.1, HC.out, by rw [HLE.out]⟩⟩
          · have HLE := Lib.hid (show tlist (delT t' e.1) = stepL x y e (tlist t') from by rw [HD.out.2]; unfold stepL; simp only; rw [if_neg ha, if_neg hb])
            go_upto_region 11 with fail
            go_upto_region 6 with fail
            obtain ⟨v9, G9, hg, hn, hF, hq⟩ := HT.out
            have HH := Lib.hid (meets_any g x y (delT t' e.1) v9 G9 y1 hg hn)
            rw [meetT_find _ x y HX.out.2.1 _ _ (HD.out.1).1, HLE.out] at HH
            clear hg hn hF hq
            go_wp2_with fail
            refine HH.out.mono ?_
            rintro ex w9 ⟨u9, rfl, rfl, hu9⟩
            have HU9 := Lib.hid hu9
            clear hu9 HH
            go_wp2_with fail
            go_roundg (cm x y (stepL x y e (tlist t')))
            case measure => have := HI.out.2.2.2.2.2; have := HS.out.2.1; omega
            case rel => exact ⟨_, _, u9, rfl, Lib.hid ⟨HT.out, HD.out.1, by rw [HLE.out]; exact HU9.out, by rw [HLE.out, HS.out.1]; exact HI.out.2.2.2.1, HC.out, by rw [HLE.out]⟩⟩
  · have HE := Lib.hid (show cutL x y (tlist t) = tlist t from if_neg hw)
    have HG := Lib.hid (And.intro hgd ht)
    have hw2 : (wrg x y != 0) = true := by rw [bne_iff_ne]; exact hw
    clear hgd ht
    generalize wrg x y = q at *
    go_enter Try.func27, Try.ntmps27
    go_wp2_with fail
    refine HW.out.mono ?_
    rintro ex w1 ⟨rfl, rfl⟩
    go_wp2_with fail
    go_ret
    rw [HE.out]
    exact ⟨rfl, _, Chg.refl _ _, t, HG.out.2, HG.out.1, rfl⟩
theorem Cut_nil (x y : Int) (w : World) : Calls Try.prog 27 #[.pointer none, .int .i64 x, .int .i64 y] w fun e w' => e = .returned (.int .i64 1) ∧ w = w' := by
  go_enter Try.func27, Try.ntmps27
  go_wp2_with fail
  refine (wrong_nil x y w).mono ?_
  rintro ex w1 ⟨rfl, rfl⟩
  go_wp2_with fail
  go_ret
  exact ⟨rfl, rfl⟩

end Go.Proofs.Ytkaglggljomgdaa

/- Parts of the proofs of layer 18 (gap): contracts of its functions, and the laws' walks. -/
import Derived.Test.YtkaglggljomgdaaProg
import Derived.WalkKit
import Derived.WalkSpells
import Derived.WalkLawsBesides
import Derived.BigQuiet
import Derived.Deep.QuietTactic
import Derived.Lib.Hide
import Derived.Deep.RegionHeld3
import Derived.Deep.DeepCutAuto
import Derived.KernelRfl
import Derived.Deep.OwnRows
import Derived.Laws.CopyOwn
import Derived.Laws.CopyRow
import Derived.StillTailTactics
import Derived.Deep.RegionLaw
import Derived.Test.YtkaglggljomgdaaH9
import Derived.OwnWalk
namespace Go.Proofs.Ytkaglggljomgdaa
open Go.RowKit
set_option linter.unusedVariables false
set_option linter.unusedSimpArgs false

theorem below_drewN {B : Nat} {w w' : World} (h : Below B w w') (k : Nat) : Below B w (w'.drewN k) := ⟨h.os, h.tape, h.output, h.size, h.block⟩
set_option maxHeartbeats 1000000 in
theorem Del_any (x y : Int) (g : Nat) (F : List Nat) (L : List (Int × Int)) (w : World) (h : Gt w g F L) :
    Calls Try.prog 26 #[.pointer (some ⟨g, 0, none⟩), .int .i64 x, .int .i64 y] w fun e w' => e = .returned (.int .i64 (delE x y L)) ∧ ∃ F', Chg F F' w w' ∧ Gt w' g F' (delL x y L) := by
  obtain ⟨t, ht, hgd, rfl⟩ := h
  have HW := Lib.hid (wrong_any ⟨g, 0, none⟩ x y w)
  have HG := Lib.hid (And.intro hgd ht)
  by_cases hw : wrg x y = 0
  · obtain ⟨hx, hxy, hy⟩ := wrg_ok.1 hw
    have hmt := meetT_find t x y hxy _ _ hgd.1
    obtain ⟨v, F', hg, hn, rfl, h1⟩ := ht
    by_cases hin : (x, y) ∈ tlist t
    · have hf := fm_self hxy hgd.1 hin
      have hE : delE x y (tlist t) = 0 := by unfold delE; rw [if_neg (by simp [hw]), if_pos hin]
      have HE := Lib.hid (And.intro hE (show delL x y (tlist t) = rem x (tlist t) from if_pos hE))
      have HP := Lib.hid (del_good (x := x) hgd)
      have HH := Lib.hid (meets_any g x y t v F' w hg hn)
      have HU := Lib.hid (del_any x t v F' w hn hgd.vals (by have := hgd.cnt; omega) (fnd_of t x y _ _ hgd.1 hin))
      rw [hf] at hmt
      rw [hmt] at HH
      rw [hw] at HW
      clear hmt hf hE hw hn hgd hin
      go_enter Try.func26, Try.ntmps26
      go_wp2_with fail
      refine HW.out.mono ?_
      rintro ex w1 ⟨rfl, rfl⟩
      go_wp2_with fail
      refine HH.out.mono ?_
      rintro ex w1 ⟨u, rfl, rfl, k, _, _, _, _, _, _, _, rfl, hk⟩
      obtain ⟨k0, k1, k2, k3, k4, k5, k6, k7, k8⟩ := nc_cells hk
      have c0 := cell_of_one hg
      clear k2 k3 k4 k5 k6 k7 k8 hk
      go_wp2_with fail
      refine HU.out.mono ?_
      rintro ex w2 ⟨v2, F2, rfl, hc2, hn2⟩
      obtain ⟨ht2, hc3, hg2⟩ := tg_store hg h1 hc2 hn2
      have HT := Lib.hid (And.intro ht2 hc3)
      have c0 := cell_of_one hg2
      have fz := fun j => frozen_of_row w2 g j _ 64 hg2
      clear hg hg2 hc2 hn2 ht2 hc3 k0 k1
      go_wp2_with fail
      go_ret
      rw [HE.out.1, HE.out.2]
      exact ⟨rfl, _, HT.out.2, _, HT.out.1, HP.out.1, HP.out.2⟩
    · have hE : delE x y (tlist t) = 6 := by unfold delE; rw [if_neg (by simp [hw]), if_neg hin]
      have HE := Lib.hid (And.intro hE (show delL x y (tlist t) = tlist t from if_neg (by rw [hE]; omega)))
      have HH := Lib.hid (meets_any g x y t v F' w hg hn)
      rw [hmt] at HH
      rw [hw] at HW
      cases hf : fm x y (tlist t) with
      | none =>
        rw [hf] at HH
        clear hmt hE hw hn hgd hin hg hf
        go_enter Try.func26, Try.ntmps26
        go_wp2_with fail
        refine HW.out.mono ?_
        rintro ex w1 ⟨rfl, rfl⟩
        go_wp2_with fail
        refine HH.out.mono ?_
        rintro ex w1 ⟨u, rfl, rfl, hu⟩
        obtain rfl : u = none := hu
        go_wp2_with fail
        go_ret
        rw [HE.out.1, HE.out.2]
        exact ⟨rfl, _, Chg.refl _ _, t, HG.out.2, HG.out.1, rfl⟩
      | some e =>
        have hem := (fm_mem hf).1
        obtain ⟨p, q⟩ := e
        rw [hf] at HH
        by_cases hp : p = x
        · have hq : ¬ q = y := fun hq => hin (by rw [← hp, ← hq]; exact hem)
          subst hp
          clear hmt hE hw hn hgd hin hg hf hem
          go_enter Try.func26, Try.ntmps26
          go_wp2_with fail
          refine HW.out.mono ?_
          rintro ex w1 ⟨rfl, rfl⟩
          go_wp2_with fail
          refine HH.out.mono ?_
          rintro ex w1 ⟨u, rfl, rfl, k, _, _, _, _, _, _, _, rfl, hk⟩
          obtain ⟨k0, k1, k2, k3, k4, k5, k6, k7, k8⟩ := nc_cells hk
          clear k2 k3 k4 k5 k6 k7 k8 hk
          go_wp2_with fail
          go_ret
          rw [HE.out.1, HE.out.2]
          exact ⟨rfl, _, Chg.refl _ _, t, HG.out.2, HG.out.1, rfl⟩
        · clear hmt hE hw hn hgd hin hg hf hem
          go_enter Try.func26, Try.ntmps26
          go_wp2_with fail
          refine HW.out.mono ?_
          rintro ex w1 ⟨rfl, rfl⟩
          go_wp2_with fail
          refine HH.out.mono ?_
          rintro ex w1 ⟨u, rfl, rfl, k, _, _, _, _, _, _, _, rfl, hk⟩
          obtain ⟨k0, k1, k2, k3, k4, k5, k6, k7, k8⟩ := nc_cells hk
          clear k2 k3 k4 k5 k6 k7 k8 hk
          go_wp2_with fail
          go_ret
          rw [HE.out.1, HE.out.2]
          exact ⟨rfl, _, Chg.refl _ _, t, HG.out.2, HG.out.1, rfl⟩
  · have hE : delE x y (tlist t) = wrg x y := by unfold delE; rw [if_pos hw]
    have HE := Lib.hid (And.intro hE (show delL x y (tlist t) = tlist t from if_neg (by rw [hE]; exact hw)))
    have hw2 : (wrg x y != 0) = true := by rw [bne_iff_ne]; exact hw
    clear hE hgd ht
    generalize wrg x y = q at *
    go_enter Try.func26, Try.ntmps26
    go_wp2_with fail
    refine HW.out.mono ?_
    rintro ex w1 ⟨rfl, rfl⟩
    go_wp2_with fail
    go_ret
    rw [HE.out.1, HE.out.2]
    exact ⟨rfl, _, Chg.refl _ _, t, HG.out.2, HG.out.1, rfl⟩
theorem Del_nil (x y : Int) (w : World) : Calls Try.prog 26 #[.pointer none, .int .i64 x, .int .i64 y] w fun e w' => e = .returned (.int .i64 1) ∧ w = w' := by
  go_enter Try.func26, Try.ntmps26
  go_wp2_with fail
  refine (wrong_nil x y w).mono ?_
  rintro ex w1 ⟨rfl, rfl⟩
  go_wp2_with fail
  go_ret
  exact ⟨rfl, rfl⟩
def findV (p : Int) (L : List (Int × Int)) : Int × Int × Bool := if p < 1 ∨ 4096 ≤ p then (0, 0, false) else match fm p (p + 1) L with
  | some e => (e.1, e.2, true)
  | none => (0, 0, false)
theorem Find_nil (p : Int) (w : World) : Calls Try.prog 24 #[.pointer none, .int .i64 p] w fun e w' => e = .returned (.tuple #[.int .i64 0, .int .i64 0, .bool false]) ∧ w = w' := by
  go_enter Try.func24, Try.ntmps24
  go_wp2_with fail
  refine bodyPost_ret (v := .tuple #[.int .i64 0, .int .i64 0, .bool false]) (by simp [results, Try.results24, go_sem]) rfl ⟨rfl, rfl⟩
theorem Find_any (p : Int) (g : Nat) (F : List Nat) (L : List (Int × Int)) (w : World) (h : Gt w g F L) :
    Calls Try.prog 24 #[.pointer (some ⟨g, 0, none⟩), .int .i64 p] w fun e w' => e = .returned (.tuple #[.int .i64 (findV p L).1, .int .i64 (findV p L).2.1, .bool (findV p L).2.2]) ∧ Below w.heap.size w w' := by
  by_cases h1 : p < 1
  · have hE : findV p L = (0, 0, false) := if_pos (.inl h1)
    rw [hE]
    clear hE h
    go_enter Try.func24, Try.ntmps24
    go_wp2_with fail
    refine bodyPost_ret (v := .tuple #[.int .i64 0, .int .i64 0, .bool false]) (by simp [results, Try.results24, go_sem]) rfl ⟨rfl, Below.refl _ _⟩
  · by_cases h2 : 4096 ≤ p
    · have hE : findV p L = (0, 0, false) := if_pos (.inr h2)
      rw [hE]
      clear hE h
      go_enter Try.func24, Try.ntmps24
      go_wp2_with fail
      refine bodyPost_ret (v := .tuple #[.int .i64 0, .int .i64 0, .bool false]) (by simp [results, Try.results24, go_sem]) rfl ⟨rfl, Below.refl _ _⟩
    · obtain ⟨t, ht, hgd, rfl⟩ := h
      have hwp : IntKind.i64.wrap (p + 1) = p + 1 := by rw [IntKind.wrap_i64]; omega
      have hmt := meetT_find t p (p + 1) (by omega) _ _ hgd.1
      obtain ⟨v, F', hg, hn, rfl, h3⟩ := ht
      have HH := Lib.hid (meets_any g p (p + 1) t v F' w hg hn)
      rw [hmt] at HH
      have hE : findV p (tlist t) = match fm p (p + 1) (tlist t) with
        | some e => (e.1, e.2, true)
        | none => (0, 0, false) := if_neg (by omega)
      rw [hE]
      clear hg hn hgd hmt hE
      cases hf : fm p (p + 1) (tlist t) with
      | none =>
        rw [hf] at HH
        clear hf
        go_enter Try.func24, Try.ntmps24
        go_wp2_with fail
        refine HH.out.mono ?_
        rintro ex w1 ⟨u, rfl, rfl, hu⟩
        obtain rfl : u = none := hu
        go_wp2_with fail
        refine bodyPost_ret (v := .tuple #[.int .i64 0, .int .i64 0, .bool false]) (by simp [results, Try.results24, go_sem]) rfl ⟨rfl, Below.refl _ _⟩
      | some e =>
        rw [hf] at HH
        clear hf
        go_enter Try.func24, Try.ntmps24
        go_wp2_with fail
        refine HH.out.mono ?_
        rintro ex w1 ⟨u, rfl, rfl, k, _, _, _, _, _, _, _, rfl, hk⟩
        obtain ⟨k0, k1, k2, k3, k4, k5, k6, k7, k8⟩ := nc_cells hk
        clear k2 k3 k4 k5 k6 k7 k8 hk
        go_upto_region 6 with fail
        go_quiet (fail)
        go_wp2_with fail
        refine bodyPost_ret (v := .tuple #[.int .i64 e.1, .int .i64 e.2, .bool true]) (by simp [results, Try.results24, go_sem]) rfl ⟨rfl, ?_⟩
        exact below_drewN (Below.refl _ _) _
theorem Len_nil (w : World) : Calls Try.prog 17 #[.pointer none] w fun e w' => e = .returned (.int .i64 0) ∧ w = w' := by
  go_enter Try.func17, Try.ntmps17
  go_wp2_with fail
  go_ret
  exact ⟨rfl, rfl⟩
theorem Len_any (g : Nat) (F : List Nat) (L : List (Int × Int)) (w : World) (h : Gt w g F L) : Calls Try.prog 17 #[.pointer (some ⟨g, 0, none⟩)] w fun e w' => e = .returned (.int .i64 (L.length : Nat)) ∧ w = w' := by
  obtain ⟨t, ht, hgd, rfl⟩ := h
  obtain ⟨v, F', hg, hn, rfl, h3⟩ := ht
  have HH := Lib.hid (many_any t v F' w hn)
  have c0 := cell_of_one hg
  rw [← cnt_length]
  clear hg hn hgd
  go_enter Try.func17, Try.ntmps17
  go_wp2_with fail
  refine HH.out.mono ?_
  rintro ex w1 ⟨rfl, rfl⟩
  go_wp2_with fail
  go_ret
  exact ⟨rfl, rfl⟩
theorem Height_nil (w : World) : Calls Try.prog 18 #[.pointer none] w fun e w' => e = .returned (.int .i64 0) ∧ w = w' := by
  go_enter Try.func18, Try.ntmps18
  go_wp2_with fail
  go_ret
  exact ⟨rfl, rfl⟩
theorem Height_any (g : Nat) (F : List Nat) (L : List (Int × Int)) (w : World) (h : Gt w g F L) : Calls Try.prog 18 #[.pointer (some ⟨g, 0, none⟩)] w fun e w' => ∃ t, Avl t ∧ tlist t = L ∧ e = .returned (.int .i64 (ht t)) ∧ w = w' := by
  obtain ⟨t, htg, hgd, rfl⟩ := h
  obtain ⟨v, F', hg, hn, rfl, h3⟩ := htg
  have HH := Lib.hid (height_any t v F' w hn)
  have c0 := cell_of_one hg
  have HA := Lib.hid hgd.2
  clear hg hn hgd
  go_enter Try.func18, Try.ntmps18
  go_wp2_with fail
  refine HH.out.mono ?_
  rintro ex w1 ⟨rfl, rfl⟩
  go_wp2_with fail
  go_ret
  exact ⟨t, HA.out, rfl, rfl, rfl⟩
theorem Greatest_nil (w : World) : Calls Try.prog 23 #[.pointer none] w fun e w' => e = .returned (.int .i64 0) ∧ w = w' := by
  go_enter Try.func23, Try.ntmps23
  go_wp2_with fail
  go_ret
  exact ⟨rfl, rfl⟩
theorem Greatest_any (g : Nat) (F : List Nat) (L : List (Int × Int)) (w : World) (h : Gt w g F L) : Calls Try.prog 23 #[.pointer (some ⟨g, 0, none⟩)] w fun e w' => e = .returned (.int .i64 (gTot 1 L)) ∧ Below w.heap.size w w' := by
  obtain ⟨t, htg, hgd, rfl⟩ := h
  obtain ⟨v, F', hg, hn, rfl, h3⟩ := htg
  have c0 := cell_of_one hg
  cases t with
  | nil =>
    obtain ⟨rfl, rfl⟩ := hn
    clear hg hgd
    go_enter Try.func23, Try.ntmps23
    go_wp2_with fail
    go_ret
    exact ⟨rfl, Below.refl _ _⟩
  | nd a b l r =>
    have hv := hgd.vals
    have f0 := vals_fst _ hv
    have l0 := vals_lst _ hv
    have g0 := vals_gp _ hv
    have hgt := gTot_eq _ _ hgd.1
    rw [← gp_spec _ _ _ _ _ _ _ rfl hgd.1, ← lst_spec _ _ _ _ _ 1 rfl] at hgt
    obtain ⟨n, vl, vr, Fl, Fr, rfl, hn, hl, hr, rfl, h1, h2, _⟩ := hn
    obtain ⟨k0, k1, k2, k3, k4, k5, k6, k7, k8⟩ := nc_cells hn
    rw [hgt]
    clear k0 k1 k2 k3 k4 k8 hn hl hr hgd hv hgt hg
    generalize fst (.nd a b l r) = f at *
    generalize lst (.nd a b l r) = z at *
    generalize gp (.nd a b l r) = p at *
    have w1 : IntKind.i64.wrap (f - 1) = f - 1 := by rw [IntKind.wrap_i64]; omega
    have w2 : IntKind.i64.wrap (4096 - z) = 4096 - z := by rw [IntKind.wrap_i64]; omega
    have hmx : (if (if p < f - 1 then f - 1 else p) < 4096 - z then 4096 - z else if p < f - 1 then f - 1 else p) = max (max p (f - 1)) (4096 - z) := by split <;> split <;> omega
    rw [← hmx]
    clear hmx
    go_enter Try.func23, Try.ntmps23
    go_upto_region 5 with fail
    go_quiet (fail)
    go_wp2_with fail
    all_goals (try go_ret)
    all_goals exact ⟨rfl, below_drewN (Below.refl _ _) _⟩

end Go.Proofs.Ytkaglggljomgdaa

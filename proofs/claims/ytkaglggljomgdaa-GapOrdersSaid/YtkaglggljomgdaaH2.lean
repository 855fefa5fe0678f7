/- Parts of the proofs of layer 18 (gap): contracts of its functions, and the laws' walks. -/
import Derived.Test.YtkaglggljomgdaaProg
import Derived.WalkKit
import Derived.WalkSpells
import Derived.WalkLawsBesides
import Derived.BigQuiet
import Derived.Deep.QuietTactic
import Derived.Lib.Hide
import Derived.Deep.RegionHeld3
import Derived.Deep.DeepCutAuto
import Derived.KernelRfl
import Derived.Deep.OwnRows
import Derived.Laws.CopyOwn
import Derived.Laws.CopyRow
import Derived.StillTailTactics
import Derived.Deep.RegionLaw
import Derived.Test.YtkaglggljomgdaaH1
import Derived.Test.YtkaglggljomgdaaK2
namespace Go.Proofs.Ytkaglggljomgdaa
open Go.RowKit
set_option linter.unusedVariables false
set_option linter.unusedSimpArgs false

theorem nc_set {w : World} {n : Nat} {a b : Int} {vl vr : Option Addr} {h f l g m : Int} (hn : w.heap[n]? = some (nc a b vl vr h f l g m)) (x : Int) :
    (w.setCell ⟨n, 4, none⟩ (.int .i64 x)).heap[n]? = some (nc a b vl vr x f l g m) ∧ (w.setCell ⟨n, 5, none⟩ (.int .i64 x)).heap[n]? = some (nc a b vl vr h x l g m) ∧ (w.setCell ⟨n, 6, none⟩ (.int .i64 x)).heap[n]? = some (nc a b vl vr h f x g m) ∧ (w.setCell ⟨n, 7, none⟩ (.int .i64 x)).heap[n]? = some (nc a b vl vr h f l x m) ∧ (w.setCell ⟨n, 8, none⟩ (.int .i64 x)).heap[n]? = some (nc a b vl vr h f l g x) := by
  have hl := lt_of_block hn
  refine ⟨?_, ?_, ?_, ?_, ?_⟩ <;> (unfold nc at *; (exact (heap_setCell_same w n _ _ 60 _ hn).trans rfl))
set_option maxRecDepth 100000 in
set_option maxHeartbeats 2000000 in
theorem renew_any (n : Nat) (a b : Int) (vl vr : Option Addr) (h f l g m : Int) (tl tr : Tr) (Fl Fr : List Nat) (w : World) (hn : w.heap[n]? = some (nc a b vl vr h f l g m)) (hl : Nd w tl vl Fl) (hr : Nd w tr vr Fr) (h1 : n ∉ Fl) (h2 : n ∉ Fr)
    (hv : Vals (.nd a b tl tr)) (hc1 : cnt tl ≤ 5000) (hc2 : cnt tr ≤ 5000) :
    Calls Try.prog 44 #[.pointer (some ⟨n, 0, none⟩)] w fun e w' => e = .returned (.pointer (some ⟨n, 0, none⟩)) ∧ Chg [n] [n] w w' ∧
      w'.heap[n]? = some (nc a b vl vr (ht (.nd a b tl tr)) (fst (.nd a b tl tr)) (lst (.nd a b tl tr)) (gp (.nd a b tl tr)) (cnt (.nd a b tl tr))) := by
  obtain ⟨hv0, hvl, hvr⟩ := hv
  have hb : 0 ≤ ht tl ∧ ht tl ≤ 100000 ∧ 0 ≤ ht tr ∧ ht tr ≤ 100000 ∧ 0 ≤ cnt tl ∧ 0 ≤ cnt tr := by
    have := ht_nonneg tl
    have := ht_nonneg tr
    have := ht_le_cnt tl
    have := ht_le_cnt tr
    have := cnt_nonneg tl
    have := cnt_nonneg tr
    omega
  have HV := Lib.hid (And.intro (And.intro (vals_fst _ hvl) (And.intro (vals_lst _ hvl) (vals_gp _ hvl))) (And.intro (vals_fst _ hvr) (And.intro (vals_lst _ hvr) (vals_gp _ hvr))))
  obtain ⟨c0, c1, c2, c3, c4, c5, c6, c7, c8⟩ := nc_cells hn
  have fz := fun j => frozen_of_row w n j _ 60 hn
  have hw1 : IntKind.i64.wrap (1 + max (ht tl) (ht tr)) = 1 + max (ht tl) (ht tr) := by rw [IntKind.wrap_i64]; omega
  have hw2 : IntKind.i64.wrap (1 + cnt tl) = 1 + cnt tl := by rw [IntKind.wrap_i64]; omega
  have hw3 : IntKind.i64.wrap (1 + cnt tl + cnt tr) = 1 + cnt tl + cnt tr := by rw [IntKind.wrap_i64]; omega
  have HHA := Lib.hid ((height_any tl vl Fl w.drew hl.drew).mono fun _ _ h => (⟨h.1, h.2.symm⟩ : _ ∧ _))
  have HHB := Lib.hid ((height_any tr vr Fr w.drew hr.drew).mono fun _ _ h => (⟨h.1, h.2.symm⟩ : _ ∧ _))
  have HC := Lib.hid (Chg.refl [n] w)
  go_enter Try.func44, Try.ntmps44
  go_upto_region 1 with fail
  go_still_tail 15, (by kernel_rfl)
  still_call (HHA.out)
  repeat still_step
  still_call (HHB.out)
  repeat still_step
  refine wpStill_nil ?_
  change wpList _ _ _ _ _ (World.drew _)
  go_upto_region 2 with fail
  have hn1 : (w.setCell ⟨n, 4, none⟩ (.int .i64 (1 + if ht tl < ht tr then ht tr else ht tl))).drew.heap[n]? = some _ := (nc_set hn _).1
  have hl1 : Nd (w.setCell ⟨n, 4, none⟩ (.int .i64 (1 + if ht tl < ht tr then ht tr else ht tl))).drew tl vl Fl := hl.of_blocks fun b hb => Below.heap_setCell _ _ _ _ (show b ≠ n from fun e => h1 (e ▸ hb))
  have hr1 : Nd (w.setCell ⟨n, 4, none⟩ (.int .i64 (1 + if ht tl < ht tr then ht tr else ht tl))).drew tr vr Fr := hr.of_blocks fun b hb => Below.heap_setCell _ _ _ _ (show b ≠ n from fun e => h2 (e ▸ hb))
  have HC1 := Lib.hid (Chg.drew (HC.out.setCell n _ _ (by simp)) : Chg [n] [n] w (w.setCell ⟨n, 4, none⟩ (.int .i64 (1 + if ht tl < ht tr then ht tr else ht tl))).drew)
  clear c0 c1 c2 c3 c4 c5 c6 c7 c8 fz hn hl hr HC HHA HHB
  generalize (w.setCell ⟨n, 4, none⟩ (.int .i64 (1 + if ht tl < ht tr then ht tr else ht tl))).drew = w1 at *
  have hn := hn1
  have hl := hl1
  have hr := hr1
  have HC := HC1
  clear hn1 hl1 hr1 HC1
  obtain ⟨c0, c1, c2, c3, c4, c5, c6, c7, c8⟩ := nc_cells hn
  have fz := fun j => frozen_of_row w1 n j _ 60 hn
  have HHA := Lib.hid ((many_any tl vl Fl w1.drew hl.drew).mono fun _ _ h => (⟨h.1, h.2.symm⟩ : _ ∧ _))
  have HHB := Lib.hid ((many_any tr vr Fr w1.drew hr.drew).mono fun _ _ h => (⟨h.1, h.2.symm⟩ : _ ∧ _))
  go_upto_region 2 with fail
  go_still_tail 15, (by kernel_rfl)
  still_call (HHA.out)
  repeat still_step
  still_call (HHB.out)
  repeat still_step
  refine wpStill_nil ?_
  change wpList _ _ _ _ _ (World.drew _)
  go_upto_region 3 with fail
  have hn1 : (w1.setCell ⟨n, 8, none⟩ (.int .i64 (1 + cnt tl + cnt tr))).drew.heap[n]? = some _ := (nc_set hn _).2.2.2.2
  have hl1 : Nd (w1.setCell ⟨n, 8, none⟩ (.int .i64 (1 + cnt tl + cnt tr))).drew tl vl Fl := hl.of_blocks fun b hb => Below.heap_setCell _ _ _ _ (show b ≠ n from fun e => h1 (e ▸ hb))
  have hr1 : Nd (w1.setCell ⟨n, 8, none⟩ (.int .i64 (1 + cnt tl + cnt tr))).drew tr vr Fr := hr.of_blocks fun b hb => Below.heap_setCell _ _ _ _ (show b ≠ n from fun e => h2 (e ▸ hb))
  have HC1 := Lib.hid (Chg.drew (HC.out.setCell n _ _ (by simp)) : Chg [n] [n] w (w1.setCell ⟨n, 8, none⟩ (.int .i64 (1 + cnt tl + cnt tr))).drew)
  clear c0 c1 c2 c3 c4 c5 c6 c7 c8 fz hn hl hr HC HHA HHB
  generalize (w1.setCell ⟨n, 8, none⟩ (.int .i64 (1 + cnt tl + cnt tr))).drew = w2 at *
  have hn := hn1
  have hl := hl1
  have hr := hr1
  have HC := HC1
  clear hn1 hl1 hr1 HC1
  obtain ⟨c0, c1, c2, c3, c4, c5, c6, c7, c8⟩ := nc_cells hn
  have fz := fun j => frozen_of_row w2 n j _ 60 hn
  go_region
  go_upto_region 4 with fail
  have hn1 : (((w2.setCell ⟨n, 5, none⟩ (.int .i64 a)).setCell ⟨n, 6, none⟩ (.int .i64 b)).setCell ⟨n, 7, none⟩ (.int .i64 0)).drew.heap[n]? = some _ := (nc_set (nc_set (nc_set hn a).2.1 b).2.2.1 0).2.2.2.1
  have hl1 : Nd (((w2.setCell ⟨n, 5, none⟩ (.int .i64 a)).setCell ⟨n, 6, none⟩ (.int .i64 b)).setCell ⟨n, 7, none⟩ (.int .i64 0)).drew tl vl Fl := hl.of_blocks fun b hb => (Below.heap_setCell _ _ _ _ (show b ≠ n from fun e => h1 (e ▸ hb))).trans ((Below.heap_setCell _ _ _ _ (show b ≠ n from fun e => h1 (e ▸ hb))).trans (Below.heap_setCell _ _ _ _ (show b ≠ n from fun e => h1 (e ▸ hb))))
  have hr1 : Nd (((w2.setCell ⟨n, 5, none⟩ (.int .i64 a)).setCell ⟨n, 6, none⟩ (.int .i64 b)).setCell ⟨n, 7, none⟩ (.int .i64 0)).drew tr vr Fr := hr.of_blocks fun b hb => (Below.heap_setCell _ _ _ _ (show b ≠ n from fun e => h2 (e ▸ hb))).trans ((Below.heap_setCell _ _ _ _ (show b ≠ n from fun e => h2 (e ▸ hb))).trans (Below.heap_setCell _ _ _ _ (show b ≠ n from fun e => h2 (e ▸ hb))))
  have HC1 := Lib.hid (Chg.drew (((HC.out.setCell n _ _ (by simp)).setCell n _ _ (by simp)).setCell n _ _ (by simp)) : Chg [n] [n] w (((w2.setCell ⟨n, 5, none⟩ (.int .i64 a)).setCell ⟨n, 6, none⟩ (.int .i64 b)).setCell ⟨n, 7, none⟩ (.int .i64 0)).drew)
  clear c0 c1 c2 c3 c4 c5 c6 c7 c8 fz hn hl hr HC
  generalize (((w2.setCell ⟨n, 5, none⟩ (.int .i64 a)).setCell ⟨n, 6, none⟩ (.int .i64 b)).setCell ⟨n, 7, none⟩ (.int .i64 0)).drew = w3 at *
  have hn := hn1
  have hl := hl1
  have hr := hr1
  have HC := HC1
  clear hn1 hl1 hr1 HC1
  obtain ⟨c0, c1, c2, c3, c4, c5, c6, c7, c8⟩ := nc_cells hn
  have fz := fun j => frozen_of_row w3 n j _ 60 hn
  have hH : (1 + if ht tl < ht tr then ht tr else ht tl) = ht (.nd a b tl tr) := by rw [ht]; split <;> omega
  rw [hH] at hn
  have hM : (1 + cnt tl + cnt tr) = cnt (.nd a b tl tr) := rfl
  rw [hM] at hn
  clear hH hM c4 c8
  generalize (if ht tl < ht tr then ht tr else ht tl) = MX at *
  generalize hHH : ht (.nd a b tl tr) = HH at *
  generalize hMM : cnt (.nd a b tl tr) = MM at *
  have HHM := Lib.hid (And.intro hHH hMM)
  clear hHH hMM hw1 hw2 hw3 hb
  cases tl with
  | nil =>
    obtain ⟨rfl, rfl⟩ := hl
    go_upto_region 8 with fail
    obtain ⟨FF, hF⟩ : ∃ FF, fst (.nd a b .nil tr) = FF := ⟨_, rfl⟩
    obtain ⟨G, hG⟩ : ∃ G, gpl a .nil (gp .nil) = G := ⟨_, rfl⟩
    have hn1 : w3.heap[n]? = some (nc a b none vr HH FF b G MM) := by rw [← hF, ← hG]; exact hn
    have c7' : w3.cell? ⟨n, 7, none⟩ = some (.int .i64 G) := by rw [← hG]; exact c7
    have HFG : RowKit.Hid (fst (.nd a b .nil tr) = FF ∧ ∀ r, gp (.nd a b .nil r) = gpr b G r (gp r)) := Lib.hid ⟨hF, fun r => by rw [gp, hG]⟩
    clear hF hG hn c7 c5
    have hn := hn1
    have c7 := c7'
    clear hn1 c7'
    cases tr with
    | nil =>
      obtain ⟨rfl, rfl⟩ := hr
      go_wp2_with fail
      go_ret
      refine ⟨rfl, HC.out, hn.trans ?_⟩
      rw [HHM.out.1, HHM.out.2, HFG.out.1, HFG.out.2]
      rfl
    | nd ra rb rl rr =>
      obtain ⟨rn, _, _, _, _, rfl, hrn, _, _, rfl, _⟩ := hr
      have hne : rn ≠ n := fun e => h2 (by simp [e])
      have HV1 := HV.out.2
      obtain ⟨LL, hL⟩ : ∃ LL, lst (.nd a b .nil (.nd ra rb rl rr)) = LL := ⟨_, rfl⟩
      obtain ⟨PP, hP⟩ : ∃ PP, gp (.nd a b .nil (.nd ra rb rl rr)) = PP := ⟨_, rfl⟩
      have HE := Lib.hid (And.intro hL hP)
      replace hL : lst (.nd ra rb rl rr) = LL := hL
      rw [HFG.out.2] at hP
      replace hP : max (max G (gp (.nd ra rb rl rr))) (fst (.nd ra rb rl rr) - b) = PP := hP
      generalize fst (.nd ra rb rl rr) = f2 at *
      generalize lst (.nd ra rb rl rr) = l2 at *
      subst hL
      generalize gp (.nd ra rb rl rr) = g2 at *
      have hwr : IntKind.i64.wrap (f2 - b) = f2 - b := by rw [IntKind.wrap_i64]; omega
      obtain ⟨d0, d1, d2, d3, d4, d5, d6, d7, d8⟩ := nc_cells hrn
      clear d0 d1 d2 d3 d4 d8
      go_upto_region 11 with fail
      have hn1 : (w3.setCell ⟨n, 6, none⟩ (.int .i64 l2)).heap[n]? = some _ := (nc_set hn _).2.2.1
      have hln1 : (w3.setCell ⟨n, 6, none⟩ (.int .i64 l2)).heap[rn]? = some _ := (Below.heap_setCell _ _ _ _ hne).trans hrn
      have HC1 := Lib.hid (show Chg [n] [n] w (w3.setCell ⟨n, 6, none⟩ (.int .i64 l2)) from HC.out.setCell n _ _ (by simp))
      clear c0 c1 c2 c3 c6 c7 fz hn HC hrn d5 d6 d7
      generalize (w3.setCell ⟨n, 6, none⟩ (.int .i64 l2)) = w6 at *
      have hn := hn1
      have HC := HC1
      clear hn1 HC1
      have hrn := hln1
      clear hln1
      obtain ⟨c0, c1, c2, c3, c4, c5, c6, c7, c8⟩ := nc_cells hn
      have fz := fun j => frozen_of_row w6 n j _ 60 hn
      obtain ⟨d0, d1, d2, d3, d4, d5, d6, d7, d8⟩ := nc_cells hrn
      clear d0 d1 d2 d3 d4 d8
      go_still_tail 21, (by kernel_rfl)
      change wpList _ _ _ _ _ (World.drew _)
      go_upto_region 12 with fail
      have hP1 : (if (if G < g2 then g2 else G) < f2 - b then f2 - b else if G < g2 then g2 else G) = PP := by rw [← hP]; split <;> split <;> omega
      rw [hP1]
      have hn1 : (w6.setCell ⟨n, 7, none⟩ (.int .i64 PP)).drew.heap[n]? = some _ := (nc_set hn _).2.2.2.1
      have HC1 := Lib.hid (show Chg [n] [n] w (w6.setCell ⟨n, 7, none⟩ (.int .i64 PP)).drew from (HC.out.setCell n _ _ (by simp)).drew)
      clear c0 c1 c2 c3 c4 c5 c6 c7 c8 fz d5 d6 d7 hn hrn HC
      generalize (w6.setCell ⟨n, 7, none⟩ (.int .i64 PP)).drew = w7 at *
      go_wp2_with fail
      go_ret
      refine ⟨rfl, HC1.out, hn1.trans ?_⟩
      rw [HHM.out.1, HHM.out.2, HFG.out.1, HE.out.1, HE.out.2]
  | nd la lb ll lr =>
    obtain ⟨ln, _, _, _, _, rfl, hln, _, _, rfl, _⟩ := hl
    have hne : ln ≠ n := fun e => h1 (by simp [e])
    have HV1 := HV.out.1
    obtain ⟨FF, hF⟩ : ∃ FF, fst (.nd a b (.nd la lb ll lr) tr) = FF := ⟨_, rfl⟩
    obtain ⟨G, hG⟩ : ∃ G, gpl a (.nd la lb ll lr) (gp (.nd la lb ll lr)) = G := ⟨_, rfl⟩
    have HFG : RowKit.Hid (fst (.nd a b (.nd la lb ll lr) tr) = FF ∧ ∀ r, gp (.nd a b (.nd la lb ll lr) r) = gpr b G r (gp r)) := Lib.hid ⟨hF, fun r => by rw [gp, hG]⟩
    replace hF : fst (.nd la lb ll lr) = FF := hF
    rw [gpl] at hG
    generalize fst (.nd la lb ll lr) = f1 at *
    generalize lst (.nd la lb ll lr) = l1 at *
    generalize gp (.nd la lb ll lr) = g1 at *
    subst hF
    have hwl : IntKind.i64.wrap (a - l1) = a - l1 := by rw [IntKind.wrap_i64]; omega
    obtain ⟨d0, d1, d2, d3, d4, d5, d6, d7, d8⟩ := nc_cells hln
    clear d0 d1 d2 d3 d4 d8
    go_upto_region 7 with fail
    have hn1 : (w3.setCell ⟨n, 5, none⟩ (.int .i64 f1)).heap[n]? = some _ := (nc_set hn _).2.1
    have hln1 : (w3.setCell ⟨n, 5, none⟩ (.int .i64 f1)).heap[ln]? = some _ := (Below.heap_setCell _ _ _ _ hne).trans hln
    have hr1 : Nd (w3.setCell ⟨n, 5, none⟩ (.int .i64 f1)) tr vr Fr := hr.of_blocks fun b hb => Below.heap_setCell _ _ _ _ (show b ≠ n from fun e => h2 (e ▸ hb))
    have HC1 := Lib.hid (show Chg [n] [n] w (w3.setCell ⟨n, 5, none⟩ (.int .i64 f1)) from HC.out.setCell n _ _ (by simp))
    clear c0 c1 c2 c3 c5 c6 c7 fz hn hr HC  hln d5 d6 d7
    generalize (w3.setCell ⟨n, 5, none⟩ (.int .i64 f1)) = w4 at *
    have hn := hn1
    have hr := hr1
    have HC := HC1
    clear hn1 hr1 HC1
    have hln := hln1
    clear hln1
    obtain ⟨c0, c1, c2, c3, c4, c5, c6, c7, c8⟩ := nc_cells hn
    have fz := fun j => frozen_of_row w4 n j _ 60 hn
    obtain ⟨d0, d1, d2, d3, d4, d5, d6, d7, d8⟩ := nc_cells hln
    clear d0 d1 d2 d3 d4 d8
    go_still_tail 21, (by kernel_rfl)
    change wpList _ _ _ _ _ (World.drew _)
    go_upto_region 8 with fail
    have hG1 : (if (if 0 < g1 then g1 else 0) < a - l1 then a - l1 else if 0 < g1 then g1 else 0) = G := by rw [← hG]; split <;> split <;> omega
    rw [hG1]
    have hn1 : (w4.setCell ⟨n, 7, none⟩ (.int .i64 G)).drew.heap[n]? = some _ := (nc_set hn _).2.2.2.1
    have hln1 : (w4.setCell ⟨n, 7, none⟩ (.int .i64 G)).drew.heap[ln]? = some _ := (Below.heap_setCell _ _ _ _ hne).trans hln
    have hr1 : Nd (w4.setCell ⟨n, 7, none⟩ (.int .i64 G)).drew tr vr Fr := hr.of_blocks fun b hb => Below.heap_setCell _ _ _ _ (show b ≠ n from fun e => h2 (e ▸ hb))
    have HC1 := Lib.hid (show Chg [n] [n] w (w4.setCell ⟨n, 7, none⟩ (.int .i64 G)).drew from HC.out.setCell n _ _ (by simp))
    clear c0 c1 c2 c3 c4 c5 c6 c7 c8 fz hn hr HC  hln d5 d6 d7
    generalize (w4.setCell ⟨n, 7, none⟩ (.int .i64 G)).drew = w5 at *
    have hn := hn1
    have hr := hr1
    have HC := HC1
    clear hn1 hr1 HC1
    have hln := hln1
    clear hln1
    obtain ⟨c0, c1, c2, c3, c4, c5, c6, c7, c8⟩ := nc_cells hn
    have fz := fun j => frozen_of_row w5 n j _ 60 hn
    clear hln hG1 hG hwl HV1 hne
    cases tr with
    | nil =>
      obtain ⟨rfl, rfl⟩ := hr
      go_wp2_with fail
      go_ret
      refine ⟨rfl, HC.out, hn.trans ?_⟩
      rw [HHM.out.1, HHM.out.2, HFG.out.1, HFG.out.2]
      rfl
    | nd ra rb rl rr =>
      obtain ⟨rn, _, _, _, _, rfl, hrn, _, _, rfl, _⟩ := hr
      have hne : rn ≠ n := fun e => h2 (by simp [e])
      have HV1 := HV.out.2
      obtain ⟨LL, hL⟩ : ∃ LL, lst (.nd a b (.nd la lb ll lr) (.nd ra rb rl rr)) = LL := ⟨_, rfl⟩
      obtain ⟨PP, hP⟩ : ∃ PP, gp (.nd a b (.nd la lb ll lr) (.nd ra rb rl rr)) = PP := ⟨_, rfl⟩
      have HE := Lib.hid (And.intro hL hP)
      replace hL : lst (.nd ra rb rl rr) = LL := hL
      rw [HFG.out.2] at hP
      replace hP : max (max G (gp (.nd ra rb rl rr))) (fst (.nd ra rb rl rr) - b) = PP := hP
      generalize fst (.nd ra rb rl rr) = f2 at *
      generalize lst (.nd ra rb rl rr) = l2 at *
      subst hL
      generalize gp (.nd ra rb rl rr) = g2 at *
      have hwr : IntKind.i64.wrap (f2 - b) = f2 - b := by rw [IntKind.wrap_i64]; omega
      obtain ⟨d0, d1, d2, d3, d4, d5, d6, d7, d8⟩ := nc_cells hrn
      clear d0 d1 d2 d3 d4 d8
      go_upto_region 11 with fail
      have hn1 : (w5.setCell ⟨n, 6, none⟩ (.int .i64 l2)).heap[n]? = some _ := (nc_set hn _).2.2.1
      have hln1 : (w5.setCell ⟨n, 6, none⟩ (.int .i64 l2)).heap[rn]? = some _ := (Below.heap_setCell _ _ _ _ hne).trans hrn
      have HC1 := Lib.hid (show Chg [n] [n] w (w5.setCell ⟨n, 6, none⟩ (.int .i64 l2)) from HC.out.setCell n _ _ (by simp))
      clear c0 c1 c2 c3 c4 c5 c6 c7 c8 fz hn HC hrn d5 d6 d7
      generalize (w5.setCell ⟨n, 6, none⟩ (.int .i64 l2)) = w6 at *
      have hn := hn1
      have HC := HC1
      clear hn1 HC1
      have hrn := hln1
      clear hln1
      obtain ⟨c0, c1, c2, c3, c4, c5, c6, c7, c8⟩ := nc_cells hn
      have fz := fun j => frozen_of_row w6 n j _ 60 hn
      obtain ⟨d0, d1, d2, d3, d4, d5, d6, d7, d8⟩ := nc_cells hrn
      clear d0 d1 d2 d3 d4 d8
      go_still_tail 21, (by kernel_rfl)
      change wpList _ _ _ _ _ (World.drew _)
      go_upto_region 12 with fail
      have hP1 : (if (if G < g2 then g2 else G) < f2 - b then f2 - b else if G < g2 then g2 else G) = PP := by rw [← hP]; split <;> split <;> omega
      rw [hP1]
      have hn1 : (w6.setCell ⟨n, 7, none⟩ (.int .i64 PP)).drew.heap[n]? = some _ := (nc_set hn _).2.2.2.1
      have HC1 := Lib.hid (show Chg [n] [n] w (w6.setCell ⟨n, 7, none⟩ (.int .i64 PP)).drew from (HC.out.setCell n _ _ (by simp)).drew)
      clear c0 c1 c2 c3 c4 c5 c6 c7 c8 fz d5 d6 d7 hn hrn HC
      generalize (w6.setCell ⟨n, 7, none⟩ (.int .i64 PP)).drew = w7 at *
      go_wp2_with fail
      go_ret
      refine ⟨rfl, HC1.out, hn1.trans ?_⟩
      rw [HHM.out.1, HHM.out.2, HFG.out.1, HE.out.1, HE.out.2]

end Go.Proofs.Ytkaglggljomgdaa

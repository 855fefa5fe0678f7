/- Parts of the proofs of layer 20 (regions): contracts of its functions, and the laws' walks. -/
import Derived.Test.YtnakmjajpfilgaaProg
import Derived.WalkKit
import Derived.WalkSpells
import Derived.WalkLawsBesides
import Derived.BigQuiet
import Derived.Deep.QuietTactic
import Derived.Lib.Hide
import Derived.Deep.RegionHeld3
import Derived.Deep.DeepCutAuto
import Derived.KernelRfl
import Derived.Deep.OwnRows
import Derived.Laws.CopyOwn
import Derived.Laws.CopyRow
import Derived.StillTailTactics
import Derived.Deep.RegionLaw
import Derived.Test.YtnakmjajpfilgaaD14
namespace Go.Proofs.Ytnakmjajpfilgaa
open Go.RowKit
set_option linter.unusedVariables false
set_option linter.unusedSimpArgs false

theorem done_nil (a b : Int) (w : World) : Calls Try.prog 26 #[.pointer none, .int .i64 a, .int .i64 b] w fun e w' => e = .returned (.int .i64 1) ∧ w = w' := by
  go_enter Try.func26, Try.ntmps26
  go_wp2_with fail
  refine (wrong_nil a b w).mono ?_
  rintro e w1 ⟨rfl, rfl⟩
  go_wp2_with fail
  exact bodyPost_ret (results_tmp rfl _ _ _) rfl ⟨rfl, rfl⟩
theorem abort_nil (a b : Int) (w : World) : Calls Try.prog 16 #[.pointer none, .int .i64 a, .int .i64 b] w fun e w' => e = .returned (.int .i64 1) ∧ w = w' := by
  go_enter Try.func16, Try.ntmps16
  go_wp2_with fail
  refine (done_nil a b w).mono ?_
  rintro e w1 ⟨rfl, rfl⟩
  go_wp2_with fail
  exact bodyPost_ret (results_tmp rfl _ _ _) rfl ⟨rfl, rfl⟩
theorem ask_nil (a b : Int) (w : World) : Calls Try.prog 13 #[.pointer none, .int .i64 a, .int .i64 b] w fun e w' => e = .returned (.tuple #[.int .i64 0, .int .i64 1]) ∧ w = w' := by
  go_enter Try.func13, Try.ntmps13
  go_wp2_with fail
  refine (wrong_nil a b w).mono ?_
  rintro e w1 ⟨rfl, rfl⟩
  go_wp2_with fail
  exact bodyPost_ret (results_tmp2 rfl _ _ _) rfl ⟨rfl, rfl⟩
theorem add_nil (a b : Int) (w : World) : Calls Try.prog 21 #[.pointer none, .int .i64 a, .int .i64 b] w fun e w' => e = .returned (.tuple #[.int .i64 0, .int .i64 1]) ∧ w = w' := by
  go_enter Try.func21, Try.ntmps21
  go_wp2_with fail
  refine (done_nil a b w).mono ?_
  rintro e w1 ⟨rfl, rfl⟩
  go_wp2_with fail
  exact bodyPost_ret (results_tmp2 rfl _ _ _) rfl ⟨rfl, rfl⟩
theorem del_nil (a b : Int) (w : World) : Calls Try.prog 15 #[.pointer none, .int .i64 a, .int .i64 b] w fun e w' => e = .returned (.tuple #[.int .i64 0, .int .i64 1]) ∧ w = w' := by
  go_enter Try.func15, Try.ntmps15
  go_wp2_with fail
  refine (wrong_nil a b w).mono ?_
  rintro e w1 ⟨rfl, rfl⟩
  go_wp2_with fail
  exact bodyPost_ret (results_tmp2 rfl _ _ _) rfl ⟨rfl, rfl⟩

theorem count_nil (a b : Int) (w : World) : Calls Try.prog 11 #[.pointer none, .int .i64 a, .int .i64 b] w fun e w' => e = .returned (.int .i64 0) ∧ w = w' := by
  go_enter Try.func11, Try.ntmps11
  go_wp2_with fail
  exact bodyPost_ret (results_tmp rfl _ _ _) rfl ⟨rfl, rfl⟩
theorem asked_nil (w : World) : Calls Try.prog 22 #[.pointer none] w fun e w' => e = .returned (.int .i64 0) ∧ w = w' := by
  go_enter Try.func22, Try.ntmps22
  go_wp2_with fail
  exact bodyPost_ret (results_tmp rfl _ _ _) rfl ⟨rfl, rfl⟩
theorem all_nil (w : World) : Calls Try.prog 10 #[.pointer none] w fun e w' => e = .returned (.slice none 0 0) ∧ w = w' := by
  go_enter Try.func10, Try.ntmps10
  go_wp2_with fail
  exact bodyPost_ret (results_tmp rfl _ _ _) rfl ⟨rfl, rfl⟩
theorem has_nil (n : Int) (w : World) : Calls Try.prog 19 #[.pointer none, .int .i64 n] w fun e w' => e = .returned (.bool false) ∧ w = w' := by
  by_cases h1 : 0 ≤ n
  · have h1' : decide (0 ≤ n) = true := decide_eq_true h1
    by_cases h2 : n < 65536
    · have h2' : decide (n < 65536) = true := decide_eq_true h2
      have hw : IntKind.i64.wrap (n + 1) = n + 1 := by rw [IntKind.wrap_i64]; omega
      go_enter Try.func19, Try.ntmps19
      go_wp2_with fail
      refine (count_nil n (n + 1) w).mono ?_
      rintro e w1 ⟨rfl, rfl⟩
      go_wp2_with fail
      exact bodyPost_ret (results_tmp rfl _ _ _) rfl ⟨rfl, rfl⟩
    · have h2' : decide (n < 65536) = false := decide_eq_false h2
      go_enter Try.func19, Try.ntmps19
      go_wp2_with fail
      exact bodyPost_ret (results_tmp rfl _ _ _) rfl ⟨rfl, rfl⟩
  · have h1' : decide (0 ≤ n) = false := decide_eq_false h1
    go_enter Try.func19, Try.ntmps19
    go_wp2_with fail
    exact bodyPost_ret (results_tmp rfl _ _ _) rfl ⟨rfl, rfl⟩
set_option maxRecDepth 100000 in
set_option maxHeartbeats 8000000 in
theorem none_law (c0 c1 c2 : Int) (w : World) : Calls Try.prog 7 #[.agg #[.int .i64 c0, .int .i64 c1, .int .i64 c2]] w fun e w' => e = .returned (.bool true) ∧ Below w.heap.size w w' := by
  have hb0 : Below w.heap.size w (w.alloc (.cells #[.int .i64 c0, .int .i64 c1, .int .i64 c2] 40)) := (Below.refl _ w).alloc (Nat.le_refl _) _
  have hh := heap_alloc_new w (.cells #[.int .i64 c0, .int .i64 c1, .int .i64 c2] 40)
  go_enter Try.func7, Try.ntmps7
  go_upto_region 1 with fail
  generalize w.alloc (.cells #[.int .i64 c0, .int .i64 c1, .int .i64 c2] 40) = w0 at *
  have k1 : w0.cell? ⟨w.heap.size, 1, none⟩ = some (.int .i64 c1) := cell_of_row w0 w.heap.size 1 _ 40 _ hh
  have k2 : w0.cell? ⟨w.heap.size, 2, none⟩ = some (.int .i64 c2) := cell_of_row w0 w.heap.size 2 _ 40 _ hh
  clear hh
  go_wp2_with fail
  refine (ask_nil c1 c2 w0).mono ?_
  rintro e _ ⟨rfl, rfl⟩
  go_wp2_with fail
  refine (add_nil c1 c2 w0).mono ?_
  rintro e _ ⟨rfl, rfl⟩
  go_wp2_with fail
  refine (del_nil c1 c2 w0).mono ?_
  rintro e _ ⟨rfl, rfl⟩
  go_wp2_with fail
  refine (awake_any w0).mono ?_
  rintro e w2 ⟨rfl, hb2⟩
  replace k1 := cell_keep hb2 k1
  replace k2 := cell_keep hb2 k2
  have HB := Lib.hid (hb0.trans (hb2.mono hb0.size))
  clear hb0 hb2
  go_wp2_with fail
  refine (count_nil c1 c2 w2).mono ?_
  rintro e _ ⟨rfl, rfl⟩
  go_wp2_with fail
  refine (asked_nil w2).mono ?_
  rintro e _ ⟨rfl, rfl⟩
  go_wp2_with fail
  refine (all_nil w2).mono ?_
  rintro e _ ⟨rfl, rfl⟩
  go_wp2_with fail
  refine (abort_nil c1 c2 w2).mono ?_
  rintro e _ ⟨rfl, rfl⟩
  go_wp2_with fail
  refine (has_nil c1 w2).mono ?_
  rintro e _ ⟨rfl, rfl⟩
  go_wp2_with fail
  exact bodyPost_ret (results_tmp rfl _ _ _) rfl ⟨rfl, HB.out⟩
/-! How many numbers there are, behind a call. -/
theorem cnt_all {l : List R2} (g : Good 0 65536 l) : cntL l ⟨0, 65536⟩ = (cq (fun i => inB l (i : Int)) 0 65536 65536 : Nat) := cntL_all g ⟨0, 65536⟩ (Int.le_refl 0) (fun _ => rfl) 65536 (Int.le_refl _)
theorem cnt_bound {l : List R2} (g : Good 0 65536 l) : 0 ≤ cntL l ⟨0, 65536⟩ ∧ cntL l ⟨0, 65536⟩ ≤ 65536 := by
  rw [cnt_all g]
  have : cq (fun i => inB l (i : Int)) 0 65536 65536 ≤ 65536 := cq_le _ _ _ _
  omega
theorem cnt_add {l : List R2} (g : Good 0 65536 l) {a b : Int} (h0 : 0 ≤ a) (h1 : a < b) (h2 : b ≤ 65536) : cntL (addL l ⟨a, b⟩) ⟨0, 65536⟩ = cntL l ⟨0, 65536⟩ + (b - a - cntL l ⟨a, b⟩) := by
  have hg := good_addL l ⟨a, b⟩ 0 g h0 h1 h2
  have e1 := cnt_all hg
  have e2 := cnt_all g
  have e3 := cntL_all g ⟨a, b⟩ h0 (f := fun i => inB l (i : Int)) (fun _ => rfl) 65536 h2
  have h := cq_add (fun i => inB l (i : Int)) (fun i => inB (addL l ⟨a, b⟩) (i : Int)) a b h0 65536 (fun i => by
    apply bool_iff
    rw [inB_iff, mem_addL (i : Int) l ⟨a, b⟩ 0 g h1, Bool.or_eq_true, Bool.and_eq_true, decide_eq_true_eq, decide_eq_true_eq, inB_iff]) 65536 (Int.le_refl _)
  dsimp only at e3
  generalize cq (fun i => inB l (i : Int)) 0 65536 65536 = x at *
  generalize cq (fun i => inB l (i : Int)) a b 65536 = y at *
  generalize cq (fun i => inB (addL l ⟨a, b⟩) (i : Int)) 0 65536 65536 = u at *
  have hm : max 0 (min b ((65536 : Nat) : Int) - a) = b - a := by omega
  rw [hm] at h
  omega
theorem cnt_del {l : List R2} (g : Good 0 65536 l) {a b : Int} (h0 : 0 ≤ a) (h1 : a ≤ b) (h2 : b ≤ 65536) : cntL (delL l ⟨a, b⟩) ⟨0, 65536⟩ = cntL l ⟨0, 65536⟩ - cntL l ⟨a, b⟩ := by
  have hg := good_delL ⟨a, b⟩ l 0 g
  have e1 := cnt_all hg
  have e2 := cnt_all g
  have e3 := cntL_all g ⟨a, b⟩ h0 (f := fun i => inB l (i : Int)) (fun _ => rfl) 65536 h2
  have h := cq_del (fun i => inB l (i : Int)) (fun i => inB (delL l ⟨a, b⟩) (i : Int)) a b 65536 (fun i => by
    apply bool_iff
    rw [inB_iff, mem_delL ⟨a, b⟩ (i : Int) h1 l, Bool.and_eq_true, inB_iff, Bool.not_eq_true', Bool.and_eq_false_iff, decide_eq_false_iff_not, decide_eq_false_iff_not]
    dsimp only
    constructor
    · rintro ⟨q1, q2⟩; exact ⟨q1, by omega⟩
    · rintro ⟨q1, q2⟩; exact ⟨q1, by omega⟩) 65536 (Int.le_refl _)
  dsimp only at e3
  generalize cq (fun i => inB l (i : Int)) 0 65536 65536 = x at *
  generalize cq (fun i => inB l (i : Int)) a b 65536 = y at *
  generalize cq (fun i => inB (delL l ⟨a, b⟩) (i : Int)) 0 65536 65536 = u at *
  omega
/-- The map alone, behind some calls. -/
def One (B : Nat) (W : World) (g : Nat) (F : List Nat) (l : List R2) : Prop := Mp W g F l [] ∧ Good 0 65536 l ∧ ∀ b, b ∈ F → B ≤ b
theorem one_ask (l : List R2) (a b : Int) (g : Good 0 65536 l) : ∃ n e : Int, askn l a b = n ∧ wrg a b = e ∧ addn l (askq [] a b) a b = n ∧ done (askq [] a b) a b = e ∧ doneq (askq [] a b) a b = [] ∧ Good 0 65536 (addl l (askq [] a b) a b) ∧ cntL (addl l (askq [] a b) a b) ⟨0, 65536⟩ = cntL l ⟨0, 65536⟩ + n := by
  by_cases h : wrg a b = 0
  · have hw := wrg_ok h
    refine ⟨_, _, rfl, rfl, ask_addn h, by rw [ask_done h, h], ?_, ?_, ?_⟩
    · have : askq [] a b = [⟨a, b⟩] := by unfold askq; rw [if_pos h]; rfl
      rw [this]
      unfold doneq
      rw [if_pos ⟨h, (hasq_iff _ _).2 (by simp)⟩]
      unfold era
      rw [if_pos rfl]
    · unfold addl
      split
      · exact good_addL l _ 0 g (by show 0 ≤ a; omega) (by show a < b; omega) (by show b ≤ 65536; omega)
      · exact g
    · unfold addl askn
      rw [if_pos h]
      by_cases hab : a = b
      · rw [if_neg (fun q => q.2 hab), cntL_empty l ⟨a, b⟩ (by show b ≤ a; omega)]
        omega
      · rw [if_pos ⟨ask_done h, hab⟩]
        exact cnt_add g (by omega) (by omega) (by omega)
  · have hq : askq [] a b = [] := if_neg h
    have hd : done [] a b = 3 := by unfold done; rw [if_neg h]
    rw [hq]
    refine ⟨_, _, rfl, rfl, ?_, by rw [hd, wrg_no h], ?_, ?_, ?_⟩
    · unfold addn askn
      rw [if_neg (by rw [hd]; decide), if_neg h]
    · unfold doneq
      rw [if_neg (fun q => h q.1)]
    · unfold addl
      rw [if_neg (fun q => by rw [hd] at q; cases q.1)]
      exact g
    · unfold addl askn
      rw [if_neg (fun q => by rw [hd] at q; cases q.1), if_neg h]
      omega
theorem one_del (l : List R2) (a b : Int) (g : Good 0 65536 l) : Good 0 65536 (dell l [] a b) ∧ cntL (dell l [] a b) ⟨0, 65536⟩ = cntL l ⟨0, 65536⟩ - deln l [] a b := by
  by_cases h : dele [] a b = 0
  · have hw := wrg_ok (dele_wrg h)
    unfold dell deln
    rw [if_pos h, if_pos h]
    exact ⟨good_delL _ l 0 g, cnt_del g (by omega) (by omega) (by omega)⟩
  · unfold dell deln
    rw [if_neg h, if_neg h]
    exact ⟨g, by omega⟩
set_option maxRecDepth 100000 in
set_option maxHeartbeats 8000000 in
theorem count_law (ao : Option Addr) (len cap : Nat) (z : Nat → Nat → Int) (w : World) (hlc : len ≤ cap) (hcm : cap ≤ maxLen) (hA : Acts w ao len z) :
    Calls Try.prog 6 #[.slice ao len cap] w fun e w' => e = .returned (.bool true) ∧ Below w.heap.size w w' := by
  have hlen : len ≤ 9223372036854775807 := by unfold maxLen at hcm; omega
  go_enter Try.func6, Try.ntmps6
  go_wp2_with fail
  refine (new_any w).mono ?_
  rintro e w1 ⟨rfl, hb1, hk1⟩
  have HI1 : RowKit.Hid (One w.heap.size w1 w.heap.size [w.heap.size] [] ∧ Below w.heap.size w w1) := Lib.hid ⟨⟨hk1, trivial, fun b hb => by simp at hb; omega⟩, hb1⟩
  clear hb1 hk1
  go_wp2_with fail
  refine (awake_any w1).mono ?_
  rintro e w2 ⟨rfl, hb2⟩
  have HI2 : RowKit.Hid (One w.heap.size w2 w.heap.size [w.heap.size] [] ∧ Below w.heap.size w w2) := Lib.hid ⟨⟨HI1.out.1.1.below hb2, HI1.out.1.2⟩, HI1.out.2.trans (hb2.mono HI1.out.2.size)⟩
  have HA := Lib.hid hA
  clear hb2 HI1 hA
  go_wp2_with fail
  go_loopw [4, 5] (fun sm s wr => ∃ i F l, i ≤ len ∧ i ≤ 60 ∧ s = .int .i64 (i : Nat) ∧ sm = .int .i64 (cntL l ⟨0, 65536⟩) ∧ RowKit.Hid (One w.heap.size wr w.heap.size F l ∧ Below w.heap.size w wr)) (fun _ s _ => len - (intOf s).toNat)
  case atStart => exact ⟨0, [w.heap.size], [], Nat.zero_le _, Nat.zero_le _, rfl, rfl, HI2⟩
  case round =>
    obtain ⟨i, F, l, hi, hi60, rfl, rfl, HM⟩ := hrel
    have hll : l.length ≤ 65536 := by have := good_length HM.out.1.2.1; omega
    have hcb := cnt_bound HM.out.1.2.1
    by_cases hlt : i < len ∧ i < 60
    · obtain ⟨hlt, h60⟩ := hlt
      obtain ⟨lb, lo, rfl, e0, e1, e2⟩ := (HA.out.below HM.out.2) i hlt
      go_upto_region 9 with fail
      have hA5 : Below wr.heap.size wr (wr.alloc (.cells #[.int .i64 (z i 0), .int .i64 (z i 1), .int .i64 (z i 2)] 40)) := (Below.refl _ wr).alloc (Nat.le_refl _) _
      have hh := heap_alloc_new wr (.cells #[.int .i64 (z i 0), .int .i64 (z i 1), .int .i64 (z i 2)] 40)
      have HM5 : RowKit.Hid (One w.heap.size (wr.alloc (.cells #[.int .i64 (z i 0), .int .i64 (z i 1), .int .i64 (z i 2)] 40)) w.heap.size F l ∧ Below w.heap.size w (wr.alloc (.cells #[.int .i64 (z i 0), .int .i64 (z i 1), .int .i64 (z i 2)] 40))) := Lib.hid ⟨⟨HM.out.1.1.below hA5, HM.out.1.2⟩, HM.out.2.trans (hA5.mono HM.out.2.size)⟩
      have HBF : RowKit.Hid (wr.heap.size ∉ F) := Lib.hid (fun hm => Nat.lt_irrefl _ (HM.out.1.1.lt _ hm))
      clear HM hA5 e0 e1 e2
      generalize wr.heap.size = B at *
      generalize wr.alloc (.cells #[.int .i64 (z i 0), .int .i64 (z i 1), .int .i64 (z i 2)] 40) = w4 at *
      have f0 : w4.cell? ⟨B, 0, none⟩ = some (.int .i64 (z i 0)) := cell_of_row w4 B 0 _ 40 _ hh
      have f1 : w4.cell? ⟨B, 1, none⟩ = some (.int .i64 (z i 1)) := cell_of_row w4 B 1 _ 40 _ hh
      have f2 : w4.cell? ⟨B, 2, none⟩ = some (.int .i64 (z i 2)) := cell_of_row w4 B 2 _ 40 _ hh
      clear hh
      generalize z i 0 = c0 at *
      generalize z i 1 = c1 at *
      generalize z i 2 = c2 at *
      by_cases h5 : c0 = 5
      · subst h5
        obtain ⟨d1, d2⟩ := one_del l c1 c2 HM5.out.1.2.1
        have hcb2 := cnt_bound d1
        have HD := Lib.hid (And.intro d1 d2)
        have hsub : IntKind.i64.wrap (cntL l ⟨0, 65536⟩ - deln l [] c1 c2) = cntL (dell l [] c1 c2) ⟨0, 65536⟩ := by rw [IntKind.wrap_i64]; omega
        clear d1 d2
        go_wp2_with fail
        refine (del_any _ F l [] c1 c2 w4 HM5.out.1.1 (by omega) (by decide) HM5.out.1.2.1.inr (fun r h => by simp at h)).mono ?_
        rintro e w5 ⟨rfl, F', hc, hm⟩
        have HN : RowKit.Hid (One w.heap.size w5 w.heap.size F' (dell l [] c1 c2) ∧ Below w.heap.size w w5) := Lib.hid ⟨⟨hm, HD.out.1, hc.ge HM5.out.1.2.2 HM5.out.2.size⟩, HM5.out.2.trans (hc.below HM5.out.1.2.2 HM5.out.2.size)⟩
        clear hc hm HM5 HD
        generalize dele [] c1 c2 = dv at *
        generalize deln l [] c1 c2 = nv at *
        go_wp2_with fail
        exact ⟨⟨i + 1, F', _, hlt, h60, by simp, rfl, HN⟩, by simp [intOf]; omega⟩
      · have n5 : (c0 == 5) = false := by rw [beq_eq_false_iff_ne]; omega
        obtain ⟨nv, ev, a1, a2, a3, a4, a5, a6, a7⟩ := one_ask l c1 c2 HM5.out.1.2.1
        have hcb2 := cnt_bound a6
        have hadd : IntKind.i64.wrap (cntL l ⟨0, 65536⟩ + nv) = cntL (addl l (askq [] c1 c2) c1 c2) ⟨0, 65536⟩ := by rw [IntKind.wrap_i64]; omega
        have X1 := Lib.hid a1
        have X2 := Lib.hid a2
        have X3 := Lib.hid a3
        have X4 := Lib.hid a4
        have X5 := Lib.hid a5
        have X6 := Lib.hid a6
        have hql := askq_length [] c1 c2
        have z1 : (nv != nv) = false := by simp
        have z2 : (ev != ev) = false := by simp
        clear a1 a2 a3 a4 a5 a6 a7 h5 hcb2
        go_wp2_with fail
        refine (ask_any _ F l [] c1 c2 w4 HM5.out.1.1 (by omega) (by decide) HM5.out.1.2.1.inr).mono ?_
        rintro e w5 ⟨rfl, F5, hc5, hm5⟩
        have HC5 := Lib.hid hc5
        have HM6 := Lib.hid hm5
        replace f0 := hc5.cell f0 HBF.out
        replace f1 := hc5.cell f1 HBF.out
        replace f2 := hc5.cell f2 HBF.out
        rw [X1.out, X2.out]
        clear hc5 hm5
        go_wp2_with fail
        refine (add_any _ F5 l (askq [] c1 c2) c1 c2 w5 HM6.out (by omega) (by simp at hql; omega) HM5.out.1.2.1.inr).mono ?_
        rintro e w6 ⟨rfl, F6, hc6, hm6⟩
        rw [X5.out] at hm6
        rw [X3.out, X4.out]
        have hcc := HC5.out.trans hc6
        have HN : RowKit.Hid (One w.heap.size w6 w.heap.size F6 (addl l (askq [] c1 c2) c1 c2) ∧ Below w.heap.size w w6) := Lib.hid ⟨⟨hm6, X6.out, hcc.ge HM5.out.1.2.2 HM5.out.2.size⟩, HM5.out.2.trans (hcc.below HM5.out.1.2.2 HM5.out.2.size)⟩
        clear hc6 hm6 hcc HM5 HM6 HC5 f0 f1 f2
        go_wp2_with fail
        exact ⟨⟨i + 1, F6, _, hlt, h60, by simp, rfl, HN⟩, by simp [intOf]; omega⟩
    · have hend : RowKit.Hid (∀ w5, Below wr.heap.size wr w5 → Below w.heap.size w w5) := Lib.hid (fun w5 hb => HM.out.2.trans (hb.mono HM.out.2.size))
      by_cases hil : i < len
      · have h6 : decide ((i : Int) < 60) = false := decide_eq_false (by omega)
        have h5 : decide ((i : Int) < (len : Int)) = true := decide_eq_true (by omega)
        clear hlt
        go_wp2_with fail
        refine (count_any _ F l [] 0 65536 wr HM.out.1.1 (by omega) HM.out.1.2.1.inr (by omega)).mono ?_
        rintro e w5 ⟨rfl, hb5⟩
        have HK := Lib.hid (HM.out.1.1.below hb5)
        have HB5 := Lib.hid (hend.out w5 hb5)
        clear hb5
        generalize cntL l ⟨0, 65536⟩ = c at *
        go_wp2_with fail
        refine (asked_any _ F l [] w5 HK.out).mono ?_
        rintro e _ ⟨rfl, rfl⟩
        go_wp2_with fail
        exact bodyPost_ret (results_tmp rfl _ _ _) rfl ⟨by simp, HB5.out⟩
      · have h5 : decide ((i : Int) < (len : Int)) = false := decide_eq_false (by omega)
        clear hlt
        go_wp2_with fail
        refine (count_any _ F l [] 0 65536 wr HM.out.1.1 (by omega) HM.out.1.2.1.inr (by omega)).mono ?_
        rintro e w5 ⟨rfl, hb5⟩
        have HK := Lib.hid (HM.out.1.1.below hb5)
        have HB5 := Lib.hid (hend.out w5 hb5)
        clear hb5
        generalize cntL l ⟨0, 65536⟩ = c at *
        go_wp2_with fail
        refine (asked_any _ F l [] w5 HK.out).mono ?_
        rintro e _ ⟨rfl, rfl⟩
        go_wp2_with fail
        exact bodyPost_ret (results_tmp rfl _ _ _) rfl ⟨by simp, HB5.out⟩

end Go.Proofs.Ytnakmjajpfilgaa

/- Parts of the proofs of layer 20 (regions): contracts of its functions, and the laws' walks. -/
import Derived.Test.YtnakmjajpfilgaaProg
import Derived.WalkKit
import Derived.WalkSpells
import Derived.WalkLawsBesides
import Derived.BigQuiet
import Derived.Deep.QuietTactic
import Derived.Lib.Hide
import Derived.Deep.RegionHeld3
import Derived.Deep.DeepCutAuto
import Derived.KernelRfl
import Derived.Deep.OwnRows
import Derived.Laws.CopyOwn
import Derived.Laws.CopyRow
import Derived.StillTailTactics
import Derived.Deep.RegionLaw
import Derived.Test.YtnakmjajpfilgaaD13
namespace Go.Proofs.Ytnakmjajpfilgaa
open Go.RowKit
set_option linter.unusedVariables false
set_option linter.unusedSimpArgs false

theorem regs_busy {q : List R2} {a b : Int} (h : wrg a b = 0) (hab : a < b) : dele (askq q a b) a b = 12 := by
  unfold dele askq
  rw [if_pos h, if_pos h, if_pos]
  refine (busy_iff _ _).2 ⟨⟨a, b⟩, by simp, ?_⟩
  unfold com
  show 0 < max 0 (min b b - max a a)
  omega
theorem done_ask {q : List R2} {a b : Int} (h : wrg a b = 0) : done (askq q a b) a b = 0 := ask_done h
set_option maxRecDepth 100000 in
set_option maxHeartbeats 8000000 in
theorem busy_law (ao : Option Addr) (len cap : Nat) (z : Nat → Nat → Int) (a b : Int) (w : World) (hlc : len ≤ cap) (hcm : cap ≤ maxLen) (hA : Acts w ao len z) :
    Calls Try.prog 4 #[.slice ao len cap, .int .i64 a, .int .i64 b] w fun e w' => e = .returned (.bool true) ∧ Below w.heap.size w w' := by
  go_enter Try.func4, Try.ntmps4
  go_wp2_with fail
  refine (made_any ao len cap z w hlc hcm hA).mono ?_
  rintro e w1 ⟨g, g2, bi, F1, F2, l, q, f, q2, rfl, hm1, hb1⟩
  have HM1 := Lib.hid (And.intro hm1 hb1)
  clear hm1 hb1 hA
  go_wp2_with fail
  refine (awake_any w1).mono ?_
  rintro e w2 ⟨rfl, hb2⟩
  have HM2 := Lib.hid (And.intro (HM1.out.1.below hb2) (HM1.out.2.trans (hb2.mono HM1.out.2.size)))
  clear hb2 HM1
  have hll := HM2.out.1.2.1.lenl
  go_wp2_with fail
  refine (rall_any g2 bi F2 f q2 w2 HM2.out.1.1.2.1).mono ?_
  rintro e w3 ⟨v, rfl, hv, hc3⟩
  rw [HM2.out.1.2.1.all] at hv
  have hb3 := hc3.below (C := w2.heap.size) (fun b hb => by simp at hb) (Nat.le_refl _)
  have HS3 : RowKit.Hid (Sep (vblk v) F1) := Lib.hid (Sep.fresh (n := w2.heap.size) (hc3.ge (fun b hb => by simp at hb) (Nat.le_refl _)) HM2.out.1.1.1.lt)
  have HM3 := Lib.hid (HM2.out.1.1.1.below hb3)
  have HB3 := Lib.hid (HM2.out.2.trans (hb3.mono HM2.out.2.size))
  have HG3 : RowKit.Hid (∀ b, b ∈ F1 → w.heap.size ≤ b) := Lib.hid (fun b hb => HM2.out.1.2.2.2 b (by simp [hb]))
  have HV := Lib.hid hv
  have HR := Lib.hid HM2.out.1.2.1
  have hql := HM2.out.1.2.2.1
  clear hb3 hc3 hv HM2
  go_wp2_with fail
  refine (ask_any g F1 l q a b w3 HM3.out (by omega) (by omega) HR.out.1.inr).mono ?_
  rintro e w4 ⟨rfl, F4, hc4, hm4⟩
  have HM4 := Lib.hid hm4
  have HV4 := Lib.hid (HV.out.chg hc4 HS3.out)
  have HS4 := Lib.hid (hc4.sep HS3.out.symm HV.out.lt).symm
  have HB4 := Lib.hid (HB3.out.trans (hc4.below HG3.out HB3.out.size))
  have HG4 := Lib.hid (hc4.ge HG3.out HB3.out.size)
  clear hc4 hm4 HM3 HV HS3 HB3 HG3
  by_cases hw : wrg a b = 0
  · have r3 := wrg_ok hw
    have HDN := Lib.hid (done_ask (q := q) hw)
    have hq4 := askq_length q a b
    have HIQ := Lib.hid (HR.out.ask a b).2.2.2
    have HBU := Lib.hid (fun h => regs_busy (q := q) hw h)
    rw [hw]
    clear hw
    obtain ⟨q4, hq4e⟩ : ∃ q4, askq q a b = q4 := ⟨_, rfl⟩
    rw [hq4e] at HM4 HDN hq4 HIQ HBU
    clear hq4e
    go_wp2_with fail
    refine (del_any g F4 l q4 a b w4 HM4.out (by omega) (by omega) HR.out.1.inr HIQ.out).mono ?_
    rintro e w5 ⟨rfl, F5, hc5, hm5⟩
    have HM5 := Lib.hid hm5
    have HV5 := Lib.hid (HV4.out.chg hc5 HS4.out)
    have HS5 := Lib.hid (hc5.sep HS4.out.symm HV4.out.lt).symm
    have HB5 := Lib.hid (HB4.out.trans (hc5.below HG4.out HB4.out.size))
    have HG5 := Lib.hid (hc5.ge HG4.out HB4.out.size)
    clear hc5 hm5 HM4 HV4 HS4 HB4 HG4
    by_cases hab : a < b
    · have hd : dele q4 a b = 12 := HBU.out hab
      have hl5 : dell l q4 a b = l := by unfold dell; rw [if_neg (by omega)]
      have hn5 : deln l q4 a b = 0 := by unfold deln; rw [if_neg (by omega)]
      rw [hl5] at HM5
      rw [hd, hn5]
      have hne : (a == b) = false := by rw [beq_eq_false_iff_ne]; omega
      clear hd hl5 hn5
      go_wp2_with fail
      refine (abort_any g F5 l q4 a b w5 HM5.out (by omega)).mono ?_
      rintro e w6 ⟨rfl, F6, hc6, hm6⟩
      have HM6 := Lib.hid hm6
      have HV6 := Lib.hid (HV5.out.chg hc6 HS5.out)
      have HB6 := Lib.hid (HB5.out.trans (hc6.below HG5.out HB5.out.size))
      rw [HDN.out]
      clear hc6 hm6 HM5 HV5 HS5 HB5 HG5
      go_wp2_with fail
      refine (all_any g F6 l _ w6 HM6.out (by omega)).mono ?_
      rintro e w7 ⟨v7, rfl, hv7, hc7⟩
      have hb7 := hc7.below (C := w6.heap.size) (fun b hb => by simp at hb) (Nat.le_refl _)
      have HV7 := Lib.hid (HV6.out.below hb7)
      have HB7 := Lib.hid (HB6.out.trans (hb7.mono HB6.out.size))
      have HW7 := Lib.hid hv7
      clear hb7 hc7 hv7 HM6
      go_wp2_with fail
      refine (same_any v v7 l l w7 HV7.out HW7.out (by omega)).mono ?_
      rintro e w8 ⟨rfl, hb8⟩
      have HB8 := Lib.hid (HB7.out.trans (hb8.mono HB7.out.size))
      clear hb8
      go_wp2_with fail
      exact bodyPost_ret (results_tmp rfl _ _ _) rfl ⟨by simp, HB8.out⟩
    · have hab2 : a = b := by omega
      subst hab2
      clear hab
      generalize dele q4 a a = dv at *
      generalize deln l q4 a a = nv at *
      generalize dell l q4 a a = l5 at *
      have y1 : decide (a < a) = false := decide_eq_false (by omega)
      go_wp2_with fail
      refine (abort_any g F5 l5 q4 a a w5 HM5.out (by omega)).mono ?_
      rintro e w6 ⟨rfl, F6, hc6, hm6⟩
      have HB6 := Lib.hid (HB5.out.trans (hc6.below HG5.out HB5.out.size))
      rw [HDN.out]
      clear hc6 hm6
      go_wp2_with fail
      exact bodyPost_ret (results_tmp rfl _ _ _) rfl ⟨by simp, HB6.out⟩
  · have HW := Lib.hid (wrg_no hw)
    rw [wrg_no hw]
    clear hw
    go_wp2_with fail
    refine (rwrong_any a b w4).mono ?_
    rintro e w5 ⟨rfl, rfl⟩
    rw [HW.out]
    go_wp2_with fail
    exact bodyPost_ret (results_tmp rfl _ _ _) rfl ⟨by simp, HB4.out⟩
set_option maxRecDepth 100000 in
set_option maxHeartbeats 8000000 in
theorem apart_law (ao : Option Addr) (len cap : Nat) (z : Nat → Nat → Int) (c0 c1 c2 n : Int) (w : World) (hlc : len ≤ cap) (hcm : cap ≤ maxLen) (hA : Acts w ao len z) :
    Calls Try.prog 5 #[.slice ao len cap, .agg #[.int .i64 c0, .int .i64 c1, .int .i64 c2], .int .i64 n] w fun e w' => e = .returned (.bool true) ∧ Below w.heap.size w w' := by
  have hb0 : Below w.heap.size w (w.alloc (.cells #[.int .i64 c0, .int .i64 c1, .int .i64 c2] 40)) := (Below.refl _ w).alloc (Nat.le_refl _) _
  have hh := heap_alloc_new w (.cells #[.int .i64 c0, .int .i64 c1, .int .i64 c2] 40)
  have hA0 := hA.below hb0
  go_enter Try.func5, Try.ntmps5
  go_wp2_with fail
  generalize w.alloc (.cells #[.int .i64 c0, .int .i64 c1, .int .i64 c2] 40) = w0 at *
  have hlt0 := lt_of_block hh
  refine (made_any ao len cap z w0 hlc hcm hA0).mono ?_
  rintro e w1 ⟨g, g2, bi, F1, F2, l, q, f, q2, rfl, hm1, hb1⟩
  have HM1 := Lib.hid (And.intro hm1 (hb0.trans (hb1.mono hb0.size)))
  have hh1 := (hb1.block _ hlt0).trans hh
  clear hm1 hb1 hA0 hA hh
  go_wp2_with fail
  refine (awake_any w1).mono ?_
  rintro e w2 ⟨rfl, hb2⟩
  have HM2 := Lib.hid (And.intro (HM1.out.1.below hb2) (HM1.out.2.trans (hb2.mono HM1.out.2.size)))
  have hh2 := (hb2.block _ (lt_of_block hh1)).trans hh1
  clear hb2 HM1 hh1
  have k0 : w2.cell? ⟨w.heap.size, 0, none⟩ = some (.int .i64 c0) := cell_of_row w2 w.heap.size 0 _ 40 _ hh2
  have k1 : w2.cell? ⟨w.heap.size, 1, none⟩ = some (.int .i64 c1) := cell_of_row w2 w.heap.size 1 _ 40 _ hh2
  have k2 : w2.cell? ⟨w.heap.size, 2, none⟩ = some (.int .i64 c2) := cell_of_row w2 w.heap.size 2 _ 40 _ hh2
  clear hh2
  by_cases hin : c1 ≤ n ∧ n < c2
  · obtain ⟨i1, i2⟩ := hin
    have j1 : decide (c1 ≤ n) = true := decide_eq_true i1
    have j2 : decide (n < c2) = true := decide_eq_true i2
    go_wp2_with fail
    refine (awake_any w2).mono ?_
    rintro e w3 ⟨rfl, hb3⟩
    have HB3 := Lib.hid (HM2.out.2.trans (hb3.mono HM2.out.2.size))
    clear hb3
    go_wp2_with fail
    exact bodyPost_ret (results_tmp rfl _ _ _) rfl ⟨rfl, HB3.out⟩
  · have HIN := Lib.hid hin
    obtain ⟨aq, cqq, x0, _, _, hcell⟩ := HM2.out.1.1.2.1.cells
    have HC := Lib.hid hcell
    clear hcell
    have hcases : decide (c1 ≤ n) = false ∨ (decide (c1 ≤ n) = true ∧ decide (n < c2) = false) := by
      by_cases i1 : c1 ≤ n
      · exact .inr ⟨decide_eq_true i1, decide_eq_false (fun i2 => hin ⟨i1, i2⟩)⟩
      · exact .inl (decide_eq_false i1)
    clear hin
    rcases hcases with j1 | ⟨j1, j2⟩
    · by_cases n0 : 0 ≤ n
      · by_cases n1 : n < 65536
        · have y0 : decide (0 ≤ n) = true := decide_eq_true n0
          have y1 : decide (n < 65536) = true := decide_eq_true n1
          obtain ⟨m, rfl⟩ := Int.eq_ofNat_of_zero_le n0
          have e0 := HC.out m (by omega)
          have hm6 : m < 65536 := by omega
          go_upto_region 5 with fail
          clear e0 x0 j1 y0 y1
          try clear j2
          go_wp2_with fail
          refine (do_any g F1 l q g2 bi F2 f q2 c0 c1 c2 w2 HM2.out.1.1 HM2.out.1.2.1 (by have := HM2.out.1.2.2.1; omega)).mono ?_
          rintro e w3 ⟨rfl, F1', F2', l', q', f', q2', ht, hc, hr, hq, hf⟩
          have HT := Lib.hid (And.intro ht hr)
          have HB3 := Lib.hid (HM2.out.2.trans (hc.below (fun b hb => Nat.le_trans (Nat.le_of_lt hlt0) (HM2.out.1.2.2.2 b hb)) HM2.out.2.size))
          have HF := Lib.hid (hf m HIN.out)
          clear ht hc hr hq hf k0 k1 k2
          go_wp2_with fail
          refine (has_any g F1' l' q' (m : Nat) w3 HT.out.1.1 (by have := HT.out.2.lenl; omega) HT.out.2.1.inr).mono ?_
          rintro e w4 ⟨rfl, hb4⟩
          have HB4 := Lib.hid (HB3.out.trans (hb4.mono HB3.out.size))
          have he : decide (0 ≤ ((m : Nat) : Int) ∧ ((m : Nat) : Int) < 65536 ∧ cntL l' ⟨((m : Nat) : Int), ((m : Nat) : Int) + 1⟩ = 1) = f m := by
            rw [← HF.out, Bool.eq_iff_iff, decide_eq_true_eq, ← HT.out.2.has m hm6]
            exact ⟨fun q => q.2.2, fun q => ⟨by omega, by omega, q⟩⟩
          rw [he]
          clear hb4 he
          go_wp2_with fail
          exact bodyPost_ret (results_tmp rfl _ _ _) rfl ⟨by simp, HB4.out⟩
        · have y0 : decide (0 ≤ n) = true := decide_eq_true n0
          have y1 : decide (n < 65536) = false := decide_eq_false n1
          go_upto_region 5 with fail
          clear x0 j1 y0 y1
          try clear j2
          go_wp2_with fail
          refine (do_any g F1 l q g2 bi F2 f q2 c0 c1 c2 w2 HM2.out.1.1 HM2.out.1.2.1 (by have := HM2.out.1.2.2.1; omega)).mono ?_
          rintro e w3 ⟨rfl, F1', F2', l', q', f', q2', ht, hc, hr, hq, hf⟩
          have HT := Lib.hid (And.intro ht hr)
          have HB3 := Lib.hid (HM2.out.2.trans (hc.below (fun b hb => Nat.le_trans (Nat.le_of_lt hlt0) (HM2.out.1.2.2.2 b hb)) HM2.out.2.size))
          clear ht hc hr hq hf k0 k1 k2
          go_wp2_with fail
          refine (has_any g F1' l' q' n w3 HT.out.1.1 (by have := HT.out.2.lenl; omega) HT.out.2.1.inr).mono ?_
          rintro e w4 ⟨rfl, hb4⟩
          have HB4 := Lib.hid (HB3.out.trans (hb4.mono HB3.out.size))
          rw [show decide (0 ≤ n ∧ n < 65536 ∧ cntL l' ⟨n, n + 1⟩ = 1) = false from decide_eq_false (by omega)]
          clear hb4
          go_wp2_with fail
          exact bodyPost_ret (results_tmp rfl _ _ _) rfl ⟨by simp, HB4.out⟩
      · have y0 : decide (0 ≤ n) = false := decide_eq_false n0
        go_upto_region 5 with fail
        clear x0 j1 y0
        try clear j2
        go_wp2_with fail
        refine (do_any g F1 l q g2 bi F2 f q2 c0 c1 c2 w2 HM2.out.1.1 HM2.out.1.2.1 (by have := HM2.out.1.2.2.1; omega)).mono ?_
        rintro e w3 ⟨rfl, F1', F2', l', q', f', q2', ht, hc, hr, hq, hf⟩
        have HT := Lib.hid (And.intro ht hr)
        have HB3 := Lib.hid (HM2.out.2.trans (hc.below (fun b hb => Nat.le_trans (Nat.le_of_lt hlt0) (HM2.out.1.2.2.2 b hb)) HM2.out.2.size))
        clear ht hc hr hq hf k0 k1 k2
        go_wp2_with fail
        refine (has_any g F1' l' q' n w3 HT.out.1.1 (by have := HT.out.2.lenl; omega) HT.out.2.1.inr).mono ?_
        rintro e w4 ⟨rfl, hb4⟩
        have HB4 := Lib.hid (HB3.out.trans (hb4.mono HB3.out.size))
        rw [show decide (0 ≤ n ∧ n < 65536 ∧ cntL l' ⟨n, n + 1⟩ = 1) = false from decide_eq_false (by omega)]
        clear hb4
        go_wp2_with fail
        exact bodyPost_ret (results_tmp rfl _ _ _) rfl ⟨by simp, HB4.out⟩
    · by_cases n0 : 0 ≤ n
      · by_cases n1 : n < 65536
        · have y0 : decide (0 ≤ n) = true := decide_eq_true n0
          have y1 : decide (n < 65536) = true := decide_eq_true n1
          obtain ⟨m, rfl⟩ := Int.eq_ofNat_of_zero_le n0
          have e0 := HC.out m (by omega)
          have hm6 : m < 65536 := by omega
          go_upto_region 5 with fail
          clear e0 x0 j1 y0 y1
          try clear j2
          go_wp2_with fail
          refine (do_any g F1 l q g2 bi F2 f q2 c0 c1 c2 w2 HM2.out.1.1 HM2.out.1.2.1 (by have := HM2.out.1.2.2.1; omega)).mono ?_
          rintro e w3 ⟨rfl, F1', F2', l', q', f', q2', ht, hc, hr, hq, hf⟩
          have HT := Lib.hid (And.intro ht hr)
          have HB3 := Lib.hid (HM2.out.2.trans (hc.below (fun b hb => Nat.le_trans (Nat.le_of_lt hlt0) (HM2.out.1.2.2.2 b hb)) HM2.out.2.size))
          have HF := Lib.hid (hf m HIN.out)
          clear ht hc hr hq hf k0 k1 k2
          go_wp2_with fail
          refine (has_any g F1' l' q' (m : Nat) w3 HT.out.1.1 (by have := HT.out.2.lenl; omega) HT.out.2.1.inr).mono ?_
          rintro e w4 ⟨rfl, hb4⟩
          have HB4 := Lib.hid (HB3.out.trans (hb4.mono HB3.out.size))
          have he : decide (0 ≤ ((m : Nat) : Int) ∧ ((m : Nat) : Int) < 65536 ∧ cntL l' ⟨((m : Nat) : Int), ((m : Nat) : Int) + 1⟩ = 1) = f m := by
            rw [← HF.out, Bool.eq_iff_iff, decide_eq_true_eq, ← HT.out.2.has m hm6]
            exact ⟨fun q => q.2.2, fun q => ⟨by omega, by omega, q⟩⟩
          rw [he]
          clear hb4 he
          go_wp2_with fail
          exact bodyPost_ret (results_tmp rfl _ _ _) rfl ⟨by simp, HB4.out⟩
        · have y0 : decide (0 ≤ n) = true := decide_eq_true n0
          have y1 : decide (n < 65536) = false := decide_eq_false n1
          go_upto_region 5 with fail
          clear x0 j1 y0 y1
          try clear j2
          go_wp2_with fail
          refine (do_any g F1 l q g2 bi F2 f q2 c0 c1 c2 w2 HM2.out.1.1 HM2.out.1.2.1 (by have := HM2.out.1.2.2.1; omega)).mono ?_
          rintro e w3 ⟨rfl, F1', F2', l', q', f', q2', ht, hc, hr, hq, hf⟩
          have HT := Lib.hid (And.intro ht hr)
          have HB3 := Lib.hid (HM2.out.2.trans (hc.below (fun b hb => Nat.le_trans (Nat.le_of_lt hlt0) (HM2.out.1.2.2.2 b hb)) HM2.out.2.size))
          clear ht hc hr hq hf k0 k1 k2
          go_wp2_with fail
          refine (has_any g F1' l' q' n w3 HT.out.1.1 (by have := HT.out.2.lenl; omega) HT.out.2.1.inr).mono ?_
          rintro e w4 ⟨rfl, hb4⟩
          have HB4 := Lib.hid (HB3.out.trans (hb4.mono HB3.out.size))
          rw [show decide (0 ≤ n ∧ n < 65536 ∧ cntL l' ⟨n, n + 1⟩ = 1) = false from decide_eq_false (by omega)]
          clear hb4
          go_wp2_with fail
          exact bodyPost_ret (results_tmp rfl _ _ _) rfl ⟨by simp, HB4.out⟩
      · have y0 : decide (0 ≤ n) = false := decide_eq_false n0
        go_upto_region 5 with fail
        clear x0 j1 y0
        try clear j2
        go_wp2_with fail
        refine (do_any g F1 l q g2 bi F2 f q2 c0 c1 c2 w2 HM2.out.1.1 HM2.out.1.2.1 (by have := HM2.out.1.2.2.1; omega)).mono ?_
        rintro e w3 ⟨rfl, F1', F2', l', q', f', q2', ht, hc, hr, hq, hf⟩
        have HT := Lib.hid (And.intro ht hr)
        have HB3 := Lib.hid (HM2.out.2.trans (hc.below (fun b hb => Nat.le_trans (Nat.le_of_lt hlt0) (HM2.out.1.2.2.2 b hb)) HM2.out.2.size))
        clear ht hc hr hq hf k0 k1 k2
        go_wp2_with fail
        refine (has_any g F1' l' q' n w3 HT.out.1.1 (by have := HT.out.2.lenl; omega) HT.out.2.1.inr).mono ?_
        rintro e w4 ⟨rfl, hb4⟩
        have HB4 := Lib.hid (HB3.out.trans (hb4.mono HB3.out.size))
        rw [show decide (0 ≤ n ∧ n < 65536 ∧ cntL l' ⟨n, n + 1⟩ = 1) = false from decide_eq_false (by omega)]
        clear hb4
        go_wp2_with fail
        exact bodyPost_ret (results_tmp rfl _ _ _) rfl ⟨by simp, HB4.out⟩

end Go.Proofs.Ytnakmjajpfilgaa

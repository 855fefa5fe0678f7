/- Parts of the proofs of layer 19 (radix): contracts of its functions, and the laws' walks. -/
import Derived.Test.YtdnnfoojdfmajaaProg
import Derived.WalkKit
import Derived.WalkSpells
import Derived.WalkLawsBesides
import Derived.BigQuiet
import Derived.Deep.QuietTactic
import Derived.Lib.Hide
import Derived.Deep.RegionHeld3
import Derived.Deep.DeepCutAuto
import Derived.KernelRfl
import Derived.Deep.OwnRows
import Derived.Laws.CopyOwn
import Derived.Laws.CopyRow
import Derived.StillTailTactics
import Derived.Deep.RegionLaw
import Derived.Handy
import Derived.Deep.CutRange
import Derived.Deep.CutBlock
import Derived.Test.YtdnnfoojdfmajaaX14
namespace Go.Proofs.Ytdnnfoojdfmajaa
open Go.RowKit
set_option linter.unusedVariables false
set_option linter.unusedSimpArgs false

theorem mul_bound {v step : Int} (h : okS v step) {n : Nat} (hn : n < 8) (h0 : -1152921504606846976 ≤ v) (h1 : v ≤ 1152921504606846976) : -9223372036854775808 ≤ ((n : Nat) : Int) * step ∧ ((n : Nat) : Int) * step ≤ 9223372036854775807 ∧ -9223372036854775808 ≤ v + ((n : Nat) : Int) * step ∧ v + ((n : Nat) : Int) * step ≤ 9223372036854775807 := by
  obtain ⟨a, b, c, d⟩ := h
  match n, hn with
  | 0, _ | 1, _ | 2, _ | 3, _ | 4, _ | 5, _ | 6, _ | 7, _ => simp; omega
set_option maxRecDepth 100000 in
set_option maxHeartbeats 8000000 in
theorem Split_ok (g t : Nat) (step : Int) (σ : St) (many nodes : Int) (F : List Nat) (κ x : Nat) (l : List Nat) (w : World) (hg : g < 4096) (h : Hp w t σ many nodes F) (hA : At σ g κ l) (hE : σ.E κ (g / 8 ^ κ) = some x) (hκ : κ ≠ 0) (hvb : -1152921504606846976 ≤ σ.V κ (g / 8 ^ κ) ∧ σ.V κ (g / 8 ^ κ) ≤ 1152921504606846976) (hok : okS (σ.V κ (g / 8 ^ κ)) step)
    (hbel0 : ∀ i, i < 8 → σ.bel (κ - 1) (8 * (g / 8 ^ κ) + i) = none) (hmn : -9000000 ≤ many ∧ many ≤ 9000000 ∧ -9000000 ≤ nodes ∧ nodes ≤ 9000000) :
    Calls Try.prog 21 #[.pointer (some ⟨t, 0, none⟩), .int .i64 (g : Nat), .int .i64 step] w fun e w' => e = .returned (.int .i64 0) ∧ ∃ c, Hp w' t (σ.split κ (g / 8 ^ κ) c (σ.V κ (g / 8 ^ κ)) step) (many + 7) (nodes + 1) (fresh8 c ++ F) ∧ Chg F (fresh8 c ++ F) w w' := by
  have HH := Lib.hid h
  go_enter Try.func21, Try.ntmps21
  go_wp2_with fail
  refine (find_found g t σ many nodes F κ x l w hg h hA hE).mono ?_
  rintro e w2 ⟨hb2, m, b, vb, cap, hf, rfl⟩
  clear h
  have H2 := Lib.hid (HH.out.below hb2)
  have HF := Lib.hid hf
  have hs8 : g / 8 ^ κ % 8 < 8 := by omega
  have hm3 : m ≤ 3 := by have := hf.mq; omega
  have hκ3 := hf.at_.le
  have HQ := Lib.hid (bel_eq (g := g) (k := κ))
  have hlst := hf.lst
  have hcell := H2.out.ecell hf.nb hs8
  rw [HQ.out, hf.ex] at hcell
  have hecell : w2.cell? ⟨b, 8 + g / 8 ^ κ % 8, none⟩ = some (.pointer (some ⟨x, 0, none⟩)) := hcell
  obtain ⟨hvc, hvf⟩ := H2.out.vcell hf.ex
  have HS := Lib.hid (fun W => (slot_any g κ hg hκ3 W).mono fun _ _ h => (⟨h.1, h.2.symm⟩ : _ ∧ _))
  have p0 : ¬ (((m : Nat) : Int) + 1 = 0) := by omega
  have p1 : IntKind.i64.wrap ((m : Nat) : Int) = ((m : Nat) : Int) := by rw [IntKind.wrap_i64]; omega
  have p2 : ((m : Nat) : Int) < ((m : Nat) : Int) + 1 := by omega
  have h1 : ((g / 8 ^ κ % 8 : Nat) : Int) < 8 := by omega
  have HB2 := Lib.hid hb2
  clear hcell hf hb2
  generalize hs : g / 8 ^ κ % 8 = s at *
  have HSS := Lib.hid hs
  clear hs
  obtain ⟨v, hv⟩ : ∃ v, σ.V κ (g / 8 ^ κ) = v := ⟨_, rfl⟩
  have HV := Lib.hid hv
  rw [hv] at hvc hok hvb
  clear hv
  go_wp2_with fail
  refine (HS.out _).mono ?_
  rintro e w3 ⟨rfl, rfl⟩
  have hκI : ¬ (((κ : Nat) : Int) = 0) := by omega
  have c1 : ¬ (step < -384307168202282325) := by have := hok.1; omega
  have c2 : ¬ (384307168202282325 < step) := by have := hok.2.1; omega
  have HI := Lib.hid (fun W => small_any (v + 7 * step) W)
  simp only [decide_eq_true (hok.2.2 : -1152921504606846976 ≤ v + 7 * step ∧ v + 7 * step ≤ 1152921504606846976)] at HI
  have q1 : IntKind.i64.wrap (7 * step) = 7 * step := by rw [IntKind.wrap_i64]; omega
  have q2 : IntKind.i64.wrap (v + 7 * step) = v + 7 * step := by have := hok.2.2; rw [IntKind.wrap_i64]; omega
  have HOK := Lib.hid (And.intro hok (And.intro hvb hbel0))
  clear hok hvb hbel0
  go_wp2_with fail
  refine (HI.out _).mono ?_
  rintro e w4 ⟨rfl, rfl⟩
  clear q1 q2
  have hz := heap_alloc_new w3 (.cells #[.pointer none, .pointer none, .pointer none, .pointer none, .pointer none, .pointer none, .pointer none, .pointer none, .pointer none, .pointer none, .pointer none, .pointer none, .pointer none, .pointer none, .pointer none, .pointer none, .int .u8 0, .int .u8 0, .int .u8 0, .int .i64 8] 67)
  have c3 : -384307168202282325 ≤ step := by have := HOK.out.1.1; omega
  have c4 : step ≤ 384307168202282325 := by have := HOK.out.1.2.1; omega
  go_upto_region 12 with fail
  clear c1 c2 c3 c4
  have hz := hz.trans (congrArg some (xrow_zero w3.heap.size (fun m => σ.M κ (g / 8 ^ κ) m)))
  have hA4 : Below w3.heap.size w3 (w3.alloc (.cells #[.pointer none, .pointer none, .pointer none, .pointer none, .pointer none, .pointer none, .pointer none, .pointer none, .pointer none, .pointer none, .pointer none, .pointer none, .pointer none, .pointer none, .pointer none, .pointer none, .int .u8 0, .int .u8 0, .int .u8 0, .int .i64 8] 67)) := (Below.refl _ _).alloc (Nat.le_refl _) _
  have HX0 := Lib.hid (And.intro (H2.out.below hA4) (And.intro hz (And.intro (show (w3.alloc (.cells #[.pointer none, .pointer none, .pointer none, .pointer none, .pointer none, .pointer none, .pointer none, .pointer none, .pointer none, .pointer none, .pointer none, .pointer none, .pointer none, .pointer none, .pointer none, .pointer none, .int .u8 0, .int .u8 0, .int .u8 0, .int .i64 8] 67)).heap.size = w3.heap.size + 1 + 0 by simp) (HB2.out.trans (hA4.mono HB2.out.size)))))
  have HCF := Lib.hid (fun b' hb' => H2.out.lt b' hb')
  have HWC := Lib.hid (show w.heap.size ≤ w3.heap.size from HB2.out.size)
  have HEX := Lib.hid (And.intro HF.out.ex HF.out.nb)
  clear hz hA4 hvc hvf hecell hlst HF H2 HB2
  generalize w3.alloc (.cells #[.pointer none, .pointer none, .pointer none, .pointer none, .pointer none, .pointer none, .pointer none, .pointer none, .pointer none, .pointer none, .pointer none, .pointer none, .pointer none, .pointer none, .pointer none, .pointer none, .int .u8 0, .int .u8 0, .int .u8 0, .int .i64 8] 67) = w4 at *
  generalize w3.heap.size = c at *
  go_wp2_with fail
  go_loopw [64] (fun st wx => ∃ n : Nat, n ≤ 8 ∧ st = .int .i64 (n : Nat) ∧ RowKit.Hid (Hp wx t σ many nodes F ∧ wx.heap[c]? = some (nodeO (xrow c n (fun m => σ.M κ (g / 8 ^ κ) m) 0)) ∧ wx.heap.size = c + 1 + n ∧ Below w.heap.size w wx ∧ ∀ i, i < n → wx.heap[c + 1 + i]? = some (entO (v + ((i : Nat) : Int) * step)))) (fun st _ => 8 - (intOf st).toNat)
  case atStart => exact ⟨0, by omega, rfl, Lib.hid ⟨HX0.out.1, HX0.out.2.1, HX0.out.2.2.1, HX0.out.2.2.2, fun i hi => absurd hi (Nat.not_lt_zero _)⟩⟩
  case round =>
    obtain ⟨n, hn, rfl, HL⟩ := hrel
    clear HX0
    by_cases hn8 : n < 8
    · have hnI : ((n : Nat) : Int) < 8 := by omega
      have hmb := mul_bound HOK.out.1 hn8 HOK.out.2.1.1 HOK.out.2.1.2
      have q1 : wrap64 (((n : Nat) : Int) * step) = ((n : Nat) : Int) * step := IntWalk.wrap64_in _ ⟨hmb.1, hmb.2.1⟩
      have q2 : wrap64 (v + ((n : Nat) : Int) * step) = v + ((n : Nat) : Int) * step := IntWalk.wrap64_in _ hmb.2.2
      have hA : Below wr.heap.size wr (wr.alloc (.cells #[.int .i64 (v + ((n : Nat) : Int) * step)] 77)) := (Below.refl _ _).alloc (Nat.le_refl _) _
      have hxc : (wr.alloc (.cells #[.int .i64 (v + ((n : Nat) : Int) * step)] 77)).heap[c]? = some (nodeO (xrow c n (fun m => σ.M κ (g / 8 ^ κ) m) 0)) := (hA.block c (lt_of_block HL.out.2.1)).trans HL.out.2.1
      have hcell := nodeO_cell hxc (j := 8 + n) (by omega)
      have hfz : ∀ j, (wr.alloc (.cells #[.int .i64 (v + ((n : Nat) : Int) * step)] 77)).frozen? ⟨c, j, none⟩ = false := nodeO_free hxc
      have hnew := heap_alloc_new wr (.cells #[.int .i64 (v + ((n : Nat) : Int) * step)] 77)
      have hset := xrow_ent hxc hn8
      have HP := Lib.hid (And.intro (HL.out.1.below hA) (And.intro hset (And.intro hnew hA)))
      rw [← HL.out.2.2.1] at HP
      clear hmb hxc hnew hset
      have HA := Lib.hid hA
      clear hA
      go_upto_region 16 with fail
      clear hcell hfz q1 q2
      have HR : RowKit.Hid (Hp ((wr.alloc (.cells #[.int .i64 (v + ((n : Nat) : Int) * step)] 77)).setCell ⟨c, 8 + n, none⟩ (.pointer (some ⟨wr.heap.size, 0, none⟩))) t σ many nodes F ∧ ((wr.alloc (.cells #[.int .i64 (v + ((n : Nat) : Int) * step)] 77)).setCell ⟨c, 8 + n, none⟩ (.pointer (some ⟨wr.heap.size, 0, none⟩))).heap[c]? = some (nodeO (xrow c (n + 1) (fun m => σ.M κ (g / 8 ^ κ) m) 0)) ∧ ((wr.alloc (.cells #[.int .i64 (v + ((n : Nat) : Int) * step)] 77)).setCell ⟨c, 8 + n, none⟩ (.pointer (some ⟨wr.heap.size, 0, none⟩))).heap.size = c + 1 + (n + 1) ∧ Below w.heap.size w ((wr.alloc (.cells #[.int .i64 (v + ((n : Nat) : Int) * step)] 77)).setCell ⟨c, 8 + n, none⟩ (.pointer (some ⟨wr.heap.size, 0, none⟩))) ∧ ∀ i, i < n + 1 → ((wr.alloc (.cells #[.int .i64 (v + ((n : Nat) : Int) * step)] 77)).setCell ⟨c, 8 + n, none⟩ (.pointer (some ⟨wr.heap.size, 0, none⟩))).heap[c + 1 + i]? = some (entO (v + ((i : Nat) : Int) * step))) := by
        have hsz := HL.out.2.2.1
        refine Lib.hid ⟨HP.out.1.chg ((Chg.refl [c] _).setCell c _ _ (by simp)) (fun b' hb' hm => ?_), HP.out.2.1, by simp; omega, Below.setCell ((HL.out.2.2.2.1.trans (HA.out.mono HL.out.2.2.2.1.size))) (by have := HWC.out; simpa using this) _, fun i hi => ?_⟩
        · have := HCF.out b' hb'
          simp at hm
          omega
        · refine (Below.heap_setCell _ ⟨c, 8 + n, none⟩ _ (c + 1 + i) (by simp; omega)).trans ?_
          by_cases hin : i = n
          · subst hin
            rw [← hsz]
            exact HP.out.2.2.1
          · exact (HA.out.block (c + 1 + i) (by omega)).trans (HL.out.2.2.2.2 i (by omega))
      generalize (wr.alloc (.cells #[.int .i64 (v + ((n : Nat) : Int) * step)] 77)).setCell ⟨c, 8 + n, none⟩ (.pointer (some ⟨wr.heap.size, 0, none⟩)) = w5 at *
      go_wp2_with fail
      exact ⟨⟨n + 1, by omega, by simp, HR⟩, by simp [intOf]; omega⟩
    · obtain rfl : n = 8 := by omega
      go_wp2_with fail
      have HL2 : RowKit.Hid (Hp wr t σ many nodes F ∧ wr.heap[c]? = some (nodeO (xrow c 8 (fun m => σ.M κ (g / 8 ^ κ) m) 0)) ∧ Below w.heap.size w wr ∧ ∀ b', b' ≠ c → wr.heap[b']? = wr.heap[b']?) := Lib.hid ⟨HL.out.1, HL.out.2.1, HL.out.2.2.2.1, fun _ _ => rfl⟩
      go_loopw [80] (fun st wx => ∃ n : Nat, n ≤ 3 ∧ st = .int .i64 (n : Nat) ∧ RowKit.Hid (Hp wx t σ many nodes F ∧ wx.heap[c]? = some (nodeO (xrow c 8 (fun m => σ.M κ (g / 8 ^ κ) m) n)) ∧ wx.heap.size = c + 9 ∧ Below w.heap.size w wx ∧ ∀ i, i < 8 → wx.heap[c + 1 + i]? = some (entO (v + ((i : Nat) : Int) * step)))) (fun st _ => 3 - (intOf st).toNat)
      case atStart => exact ⟨0, by omega, rfl, Lib.hid ⟨HL.out.1, HL.out.2.1, by have := HL.out.2.2.1; omega, HL.out.2.2.2.1, HL.out.2.2.2.2⟩⟩
      case round =>
        obtain ⟨n, hn, rfl, HQ2⟩ := hrel
        clear HL HL2
        by_cases hn3 : n < 3
        · have hnI : ((n : Nat) : Int) < 3 := by omega
          have hmc := HQ2.out.1.mcell HEX.out.2 hn3
          have hbit : bits .and .u8 ((byt fun s => σ.M κ (8 * (g / 8 ^ (κ + 1)) + s) n).fdiv (2 ^ s)) 1 = b1 (σ.M κ (8 * (g / 8 ^ (κ + 1)) + s) n) := byt_get (fun s => σ.M κ (8 * (g / 8 ^ (κ + 1)) + s) n) hs8
          rw [HQ.out] at hbit
          have hrng := byt_range (fun s => σ.M κ (8 * (g / 8 ^ (κ + 1)) + s) n)
          generalize byt (fun s => σ.M κ (8 * (g / 8 ^ (κ + 1)) + s) n) = y at *
          rw [Int.fdiv_eq_ediv_of_nonneg _ (by exact_mod_cast Nat.zero_le _)] at hbit
          have hfz : ∀ j, wr.frozen? ⟨c, j, none⟩ = false := nodeO_free HQ2.out.2.1
          have hcell := nodeO_cell HQ2.out.2.1 (j := 16 + n) (by omega)
          cases hmm : σ.M κ (g / 8 ^ κ) n with
          | false =>
            rw [hmm] at hbit
            have hbit' : bits .and .u8 (y / 2 ^ s) 1 = 0 := hbit
            have HS2 := Lib.hid (xrow_skip (c := c) (ms := fun m => σ.M κ (g / 8 ^ κ) m) hmm)
            clear hbit hmm
            go_wp2_with fail
            exact ⟨⟨n + 1, by omega, by simp, Lib.hid ⟨HQ2.out.1, by rw [← HS2.out]; exact HQ2.out.2.1, HQ2.out.2.2⟩⟩, by simp [intOf]; omega⟩
          | true =>
            rw [hmm] at hbit
            have hbit' : bits .and .u8 (y / 2 ^ s) 1 = 1 := hbit
            have HS2 := Lib.hid (xrow_mark HQ2.out.2.1 hn3 hmm)
            clear hbit hmm
            go_wp2_with fail
            exact ⟨⟨n + 1, by omega, by simp, Lib.hid ⟨HQ2.out.1.chg ((Chg.refl [c] _).setCell c _ _ (by simp)) (fun b' hb' hm => by have := HCF.out b' hb'; simp at hm; omega), HS2.out, by simpa using HQ2.out.2.2.1, Below.setCell HQ2.out.2.2.2.1 (by have := HWC.out; simpa using this) _, fun i hi => (Below.heap_setCell _ ⟨c, 16 + n, none⟩ _ (c + 1 + i) (by simp; omega)).trans (HQ2.out.2.2.2.2 i hi)⟩⟩, by simp [intOf]; omega⟩
        · obtain rfl : n = 3 := by omega
          have hS := HQ2.out.1.split hκ hκ3 hs8 HEX.out.2 (by rw [HQ.out]; exact HEX.out.1) (by rw [HQ.out]; exact HOK.out.2.2) HCF.out (v := v) (step := step) (by rw [HQ.out]; exact HQ2.out.2.1) HQ2.out.2.2.2.2 HQ2.out.2.2.1
          rw [HQ.out] at hS
          have hec := HQ2.out.1.ecell HEX.out.2 hs8
          rw [HQ.out, HEX.out.1] at hec
          have hec' : wr.cell? ⟨b, 8 + s, none⟩ = some (.pointer (some ⟨x, 0, none⟩)) := hec
          have hbc := HQ2.out.1.bcell HEX.out.2 hs8
          have hfz : ∀ j, wr.frozen? ⟨b, j, none⟩ = false := nodeO_free (HQ2.out.1.nd _ _ _ HEX.out.2).1
          have HS3 := Lib.hid hS.drew
          have HC3 := Lib.hid (show Chg F (fresh8 c ++ F) w ((wr.setCell ⟨b, 8 + s, none⟩ (.pointer none)).setCell ⟨b, s, none⟩ (.pointer (some ⟨c, 0, none⟩))).drew from by
            have hbF := (HQ2.out.1.nd _ _ _ HEX.out.2).2
            have h1 : Chg F F w wr := (Chg.of_below (F := F) (HQ2.out.2.2.2.1.mono (Nat.le_refl _)))
            have h2 := ((h1.setCell b (8 + s) (.pointer none) hbF).setCell b s (.pointer (some ⟨c, 0, none⟩)) hbF).drew
            refine ⟨h2.1, h2.2.1, h2.2.2.1, h2.2.2.2.1, h2.2.2.2.2.1, fun b' hb' => ?_⟩
            rcases List.mem_append.1 hb' with hb' | hb'
            · have := fresh8_ge hb'; have := HWC.out; exact .inr (by omega)
            · exact .inl hb')
          clear hS hec hz
          generalize σ.bel κ (8 * (g / 8 ^ (κ + 1)) + s) = bl at *
          go_upto_region 23 with fail
          go_cut [] (fun wc => wc = ((wr.setCell ⟨b, 8 + s, none⟩ (.pointer none)).setCell ⟨b, s, none⟩ (.pointer (some ⟨c, 0, none⟩))).drew)
          case first =>
            go_region
            all_goals (go_wp2_with fail; go_meet; rfl)
          case rest =>
            subst hcut
            clear hec' hbc hfz
            generalize ((wr.setCell ⟨b, 8 + s, none⟩ (.pointer none)).setCell ⟨b, s, none⟩ (.pointer (some ⟨c, 0, none⟩))).drew = w7 at *
            obtain ⟨d0, d1, d2, df⟩ := HS3.out.tcells
            have q1 : IntKind.i64.wrap (nodes + 1) = nodes + 1 := by rw [IntKind.wrap_i64]; omega
            have q2 : IntKind.i64.wrap (many + 7) = many + 7 := by rw [IntKind.wrap_i64]; omega
            have HS4 := Lib.hid (HS3.out.setNodes (nodes + 1))
            have HS5 := Lib.hid (HS4.out.1.setMany (many + 7))
            go_wp2_with fail
            go_ret
            exact ⟨rfl, c, by rw [HV.out]; exact HS5.out.1, HC3.out.trans (HS4.out.2.trans HS5.out.2)⟩

end Go.Proofs.Ytdnnfoojdfmajaa

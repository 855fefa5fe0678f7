/- Parts of the proofs of layer 2 (ram): contracts of its functions, and the laws' walks. -/
import Derived.Test.YtmjkcmpanoepgaaProg
import Derived.WalkKit
import Derived.WalkSpells
import Derived.WalkLawsBesides
import Derived.BigQuiet
import Derived.Deep.QuietTactic
import Derived.Lib.Hide
import Derived.Deep.RegionHeld3
import Derived.Deep.DeepCutAuto
import Derived.KernelRfl
import Derived.Deep.OwnRows
import Derived.Laws.CopyOwn
import Derived.Laws.CopyRow
import Derived.StillTailTactics
import Derived.Test.YtmjkcmpanoepgaaM16
namespace Go.Proofs.Ytmjkcmpanoepgaa
open Go.RowKit
set_option linter.unusedVariables false
set_option linter.unusedSimpArgs false

theorem cpe_zero {n a b k : Nat} (hn : n = 1024) (hk : 1 ≤ k) (ha : a + k ≤ 16) (hb : b + k ≤ 16) : cpe n (a : Int) (b : Int) (k : Int) = 0 := by
  have h1 : frm n (a : Int) (k : Int) = 0 := by unfold frm; rw [if_neg (by omega), if_neg (by omega), if_neg (by omega), if_neg (by omega)]
  have h2 : frm n (b : Int) (k : Int) = 0 := by unfold frm; rw [if_neg (by omega), if_neg (by omega), if_neg (by omega), if_neg (by omega)]
  unfold cpe
  rw [if_pos h1]
  exact h2
theorem frm_zero {n a k : Nat} (hn : n = 1024) (hk : 1 ≤ k) (ha : a + k ≤ 16) : frm n (a : Int) (k : Int) = 0 := by
  unfold frm; rw [if_neg (by omega), if_neg (by omega), if_neg (by omega), if_neg (by omega)]
theorem cp_word {n a b k i : Nat} {f : Nat → Int} (hn : n = 1024) (hk : 1 ≤ k) (ha : a + k ≤ 16) (hb : b + k ≤ 16) (hi : i < 8 * k) : lv n (cf n f a b k) ((64 * a + 8 * i : Nat) : Int) = wv f (8 * b + i) := by
  unfold lv
  rw [if_pos (wrg_ok (by omega) (by omega) (by omega))]
  unfold cf
  rw [if_pos (cpe_zero hn hk ha hb)]
  unfold wv
  refine wd_eq fun d hd => ?_
  unfold cpy
  rw [if_pos (by omega)]
  exact congrArg f (by omega)
theorem zr_byte {n a k i : Nat} {f : Nat → Int} (hn : n = 1024) (hk : 1 ≤ k) (ha : a + k ≤ 16) (hi : i < 64 * k) : bv n (zf n f a k) ((64 * a + i : Nat) : Int) = 0 := by
  unfold bv
  rw [if_pos (wrg_ok (by omega) (by omega) (by omega))]
  unfold zf
  rw [if_pos (frm_zero hn hk ha)]
  unfold clr
  rw [if_pos (by omega)]
theorem tmod_nat (p s : Nat) (hp : p ≤ 255) : (wrap64 (p : Int)).tmod (s : Int) = ((p % s : Nat) : Int) := by
  have h1 : wrap64 (p : Int) = p := by unfold wrap64; omega
  rw [h1, Int.tmod_eq_emod_of_nonneg (Int.natCast_nonneg p)]
  exact (Int.natCast_emod p s).symm
set_option maxRecDepth 100000 in
set_option maxHeartbeats 8000000 in
theorem copies_law (ao : Option Addr) (len cap : Nat) (z : Nat → Nat → Int) (p q m : Nat) (w : World) (hlc : len ≤ cap) (hcm : cap ≤ maxLen) (hA : Acts w ao len z) (r1 : p ≤ 255) (r2 : q ≤ 255) (r3 : m ≤ 255) :
    Calls Try.prog 7 #[.agg #[.slice ao len cap, .int .u8 (p : Nat), .int .u8 (q : Nat), .int .u8 (m : Nat)]] w fun e w' => e = .returned (.bool true) ∧ Below w.heap.size w w' := by
  have hlen : len ≤ 9223372036854775807 := by unfold maxLen at hcm; omega
  have hb0 : Below w.heap.size w (w.alloc (.cells #[.slice ao len cap, .int .u8 (p : Nat), .int .u8 (q : Nat), .int .u8 (m : Nat)] 54)) := (Below.refl _ w).alloc (Nat.le_refl _) _
  have hs0 : (w.alloc (.cells #[.slice ao len cap, .int .u8 (p : Nat), .int .u8 (q : Nat), .int .u8 (m : Nat)] 54)).heap.size = w.heap.size + 1 := World.size_alloc _ _
  have HR := Lib.hid (And.intro r1 (And.intro r2 r3))
  clear r1 r2 r3
  go_enter Try.func7, Try.ntmps7
  go_wp2_with fail
  go_quiet (fail)
  go_wp2_with fail
  replace hb0 := below_drewN hb0 nq
  replace hs0 : ((w.alloc (.cells #[.slice ao len cap, .int .u8 (p : Nat), .int .u8 (q : Nat), .int .u8 (m : Nat)] 54)).drewN nq).heap.size = w.heap.size + 1 := hs0
  generalize (w.alloc (.cells #[.slice ao len cap, .int .u8 (p : Nat), .int .u8 (q : Nat), .int .u8 (m : Nat)] 54)).drewN nq = w0 at hb0 hs0 ⊢
  have hBT : w.heap.size < w0.heap.size := by omega
  refine (new_any 16 w0 (by omega) (by omega)).mono ?_
  rintro e w1 ⟨rfl, hb1, hm1, hs1⟩
  have HB1 := Lib.hid (belowT hb0 (Nat.le_of_lt hBT) hb1)
  have hTT : w0.heap.size < w1.heap.size := by omega
  clear hb0 hb1 hs0 hs1
  generalize w0.heap.size = T at *
  go_wp2_with fail
  refine (rnew_any 16 w1 (by omega) (by omega)).mono ?_
  rintro e w2 ⟨rfl, hb2, hm2, hs2⟩
  have hg1 := (hm1.lt).1
  obtain ⟨n, hn, hn2⟩ : ∃ n, 16 * 64 = n ∧ n = 1024 := ⟨_, rfl, rfl⟩
  have hc : Cp w2 (T + 1) T (w1.heap.size + 1) w1.heap.size n (fun _ => 0) := ⟨hn ▸ hm1.below hb2, by rw [← hn, show 16 * 64 / 8 = 16 * 8 from rfl]; exact hm2, by omega, by omega, by omega⟩
  have HN := Lib.hid hn2
  clear hn hn2
  have HC2 := Lib.hid hc
  have HB2 := Lib.hid (belowT HB1.out (by omega) hb2)
  have hsz2 : w.heap.size < w2.heap.size := by omega
  clear hc hb2 hm2 hs2 hg1 hm1 HB1
  generalize w1.heap.size = T2 at *
  obtain ⟨G2, hG2⟩ : ∃ G, G = T2 + 1 := ⟨_, rfl⟩
  rw [← hG2] at HC2 ⊢
  clear hG2
  go_wp2_with fail
  refine (awake_any _).mono ?_
  rintro e w3 ⟨rfl, hb3⟩
  have HC3 := Lib.hid (HC2.out.below hb3)
  have HB3 := Lib.hid (belowT HB2.out (Nat.le_of_lt hsz2) hb3)
  have hsz3 : w.heap.size < w3.heap.size := Nat.lt_of_lt_of_le hsz2 hb3.size
  have HA := Lib.hid hA
  clear hb3 hA HC2 HB2 hsz2
  go_wp2_with fail
  go_loopw [11] (fun s wr => ∃ i f, i ≤ len ∧ s = .int .i64 (i : Nat) ∧ RowKit.Hid (Cp wr (T + 1) T G2 T2 n f ∧ Below w.heap.size w wr)) (fun s _ => len - (intOf s).toNat)
  case atStart => exact ⟨0, _, by omega, rfl, Lib.hid ⟨HC3.out, HB3.out⟩⟩
  case round =>
    obtain ⟨i, f, hi, rfl, HM⟩ := hrel
    by_cases hlt : i < len ∧ i < 60
    · obtain ⟨hlt, h60⟩ := hlt
      obtain ⟨lb, lo, rfl, e0, e1, e2, e3, e4, r1, r2, r4⟩ := (HA.out.below HM.out.2) i hlt
      go_wp2_with fail
      refine (do_any (T + 1) T G2 T2 n f (z i 0) (z i 1) (z i 2) (z i 3) (z i 4) wr HM.out.1 r1 r2 r4).mono ?_
      rintro e w5 ⟨rfl, ⟨f', hc5⟩, hb5⟩
      have hlt1 := HM.out.1.1.lt.2
      have HM5 := Lib.hid (And.intro hc5 (HM.out.2.trans (hb5 w.heap.size (Nat.le_of_lt hBT) (by omega) (by omega))))
      clear hc5 hb5 HM e0 e1 e2 e3 e4 r1 r2 r4
      go_wp2_with fail
      exact ⟨⟨i + 1, f', by omega, rfl, HM5⟩, by simp [intOf]; omega⟩
    · have hout : RowKit.Hid (i < len → 60 ≤ i) := Lib.hid (by omega)
      obtain ⟨k, hk, hk1, hk2⟩ : ∃ k : Nat, wrap64 ((wrap64 (m : Int)).tmod 16 + 1) = (k : Int) ∧ 1 ≤ k ∧ k ≤ 16 := by
        have h3 := HR.out.2.2
        have h1 : wrap64 (m : Int) = m := by unfold wrap64; omega
        refine ⟨m % 16 + 1, ?_, by omega, by omega⟩
        rw [h1, Int.tmod_eq_emod_of_nonneg (by omega)]
        unfold wrap64
        omega
      obtain ⟨s, hsk, hs1, hs2⟩ : ∃ s : Nat, s + k = 17 ∧ 1 ≤ s ∧ s ≤ 16 := ⟨17 - k, by omega, by omega, by omega⟩
      have hw : IntKind.i64.wrap (17 - (k : Int)) = (s : Int) := by rw [IntKind.wrap_i64]; omega
      have hz : ((s : Int) == 0) = false := by rw [beq_eq_false_iff_ne]; omega
      obtain ⟨a, ha, hak⟩ : ∃ a : Nat, (wrap64 (p : Int)).tmod (s : Int) = (a : Int) ∧ a + k ≤ 16 := by
        have h2 := Nat.mod_lt p (show 0 < s by omega)
        exact ⟨p % s, tmod_nat p s (HR.out.1), by omega⟩
      obtain ⟨b, hb, hbk⟩ : ∃ b : Nat, (wrap64 (q : Int)).tmod (s : Int) = (b : Int) ∧ b + k ≤ 16 := by
        have h2 := Nat.mod_lt q (show 0 < s by omega)
        exact ⟨q % s, tmod_nat q s (HR.out.2.1), by omega⟩
      by_cases hil : i < len
      · have h6 : decide ((i : Int) < 60) = false := decide_eq_false (by omega)
        have h5 : decide ((i : Int) < (len : Int)) = true := decide_eq_true (by omega)
        go_wp2_with fail
        rw [hk]
        go_quiet (fail)
        skip
        have H0 : RowKit.Hid (Cp (wr.drewN nq) (T + 1) T G2 T2 n f ∧ Below w.heap.size w (wr.drewN nq)) := Lib.hid ⟨HM.out.1.drewN nq, below_drewN HM.out.2 nq⟩
        clear HM hk ha hb HR
        generalize wr.drewN nq = wx at *
        go_wp2_with fail
        refine (copy_step (T + 1) T n f (a : Nat) (b : Nat) (k : Nat) wx H0.out.1.1 (by omega) (by omega)).mono ?_
        rintro e w4 ⟨rfl, ho4, hm4⟩
        rw [cpe_zero HN.out hk1 hak hbk]
        have H4 : RowKit.Hid (Mem w4 (T + 1) T n (cf n f (a : Nat) (b : Nat) (k : Nat)) ∧ RMem w4 G2 T2 (n / 8) (wv f) ∧ Below w.heap.size w w4) := Lib.hid ⟨hm4, H0.out.1.2.1.oth ho4 H0.out.1.2.2.2.2 (Ne.symm H0.out.1.2.2.1), H0.out.2.trans (ho4.below (Nat.le_of_lt hBT) (by have := H0.out.1.1.lt.2; omega))⟩
        have HW : RowKit.Hid (∀ i : Nat, i < 8 * k → lv n (cf n f (a : Nat) (b : Nat) (k : Nat)) (64 * (a : Int) + 8 * (i : Int)) = wv f (8 * b + i)) := Lib.hid fun i hi => by rw [show 64 * (a : Int) + 8 * (i : Int) = ((64 * a + 8 * i : Nat) : Int) from by omega]; exact cp_word HN.out hk1 hak hbk hi
        clear ho4 hm4 H0
        generalize (cf n f (a : Nat) (b : Nat) (k : Nat)) = f1 at H4 HW
        go_wp2_with fail
        have e8 : IntKind.i64.wrap (8 * (k : Int)) = 8 * (k : Int) := by rw [IntKind.wrap_i64]; omega
        have e64 : IntKind.i64.wrap (64 * (a : Int)) = 64 * (a : Int) := by rw [IntKind.wrap_i64]; omega
        have e8b : IntKind.i64.wrap (8 * (b : Int)) = 8 * (b : Int) := by rw [IntKind.wrap_i64]; omega
        go_loopw [15] (fun s wq => wq = w4 ∧ ∃ j : Nat, j ≤ 8 * k ∧ s = .int .i64 j) (fun s _ => 8 * k - (intOf s).toNat)
        case atStart => exact ⟨rfl, 0, by omega, rfl⟩
        case round =>
          obtain ⟨rfl, j, hj, rfl⟩ := hrel
          by_cases hjk : j < 8 * k
          · have y1 : IntKind.i64.wrap (8 * (j : Int)) = 8 * (j : Int) := by rw [IntKind.wrap_i64]; omega
            have y2 : IntKind.i64.wrap (64 * (a : Int) + 8 * (j : Int)) = 64 * (a : Int) + 8 * (j : Int) := by rw [IntKind.wrap_i64]; omega
            have y0 : decide ((j : Int) < 8 * (k : Int)) = true := decide_eq_true (by omega)
            go_wp2_with fail
            refine (load_step (T + 1) T n f1 (64 * (a : Int) + 8 * (j : Int)) _ H4.out.1).mono ?_
            rintro e _ ⟨rfl, rfl⟩
            rw [HW.out j hjk]
            obtain ⟨X, hX⟩ : ∃ X, 8 * b + j = X := ⟨_, rfl⟩
            have y3 : IntKind.i64.wrap (8 * (b : Int) + (j : Int)) = (X : Nat) := by rw [IntKind.wrap_i64]; omega
            have hXN : X < n / 8 := by have := HN.out; omega
            have c0 := cell_of_one H4.out.2.1.1
            have c1 := H4.out.2.1.2.1.cell (i := X) hXN
            rw [hX]
            have HXX := Lib.hid hX
            clear hX
            generalize wv f X = vv at c1 ⊢
            generalize n / 8 = N at hXN c0
            have z1 : (vv != vv) = false := bne_self_eq_false _
            go_wp2_with fail
            exact ⟨⟨trivial, j + 1, by omega, rfl⟩, by simp [intOf]; omega⟩
          · have y0 : decide ((j : Int) < 8 * (k : Int)) = false := decide_eq_false (by omega)
            go_wp2_with fail
            refine (zero_step (T + 1) T n f1 (a : Nat) (k : Nat) _ H4.out.1 (by omega)).mono ?_
            rintro e w5 ⟨rfl, ho5, hm5⟩
            rw [frm_zero HN.out hk1 hak]
            have H5 : RowKit.Hid (Mem w5 (T + 1) T n (zf n f1 (a : Nat) (k : Nat)) ∧ Below w.heap.size w w5) := Lib.hid ⟨hm5, H4.out.2.2.trans (ho5.below (Nat.le_of_lt hBT) (by have := H4.out.1.lt.2; omega))⟩
            have HZ : RowKit.Hid (∀ i : Nat, i < 64 * k → bv n (zf n f1 (a : Nat) (k : Nat)) (64 * (a : Int) + (i : Int)) = 0) := Lib.hid fun i hi => by rw [show 64 * (a : Int) + (i : Int) = ((64 * a + i : Nat) : Int) from by omega]; exact zr_byte HN.out hk1 hak hi
            clear ho5 hm5 H4
            generalize (zf n f1 (a : Nat) (k : Nat)) = f2 at H5 HZ
            go_wp2_with fail
            have e6k : IntKind.i64.wrap (64 * (k : Int)) = 64 * (k : Int) := by rw [IntKind.wrap_i64]; omega
            go_loopw [18] (fun s wq => wq = w5 ∧ ∃ j : Nat, j ≤ 64 * k ∧ s = .int .i64 j) (fun s _ => 64 * k - (intOf s).toNat)
            case atStart => exact ⟨rfl, 0, by omega, rfl⟩
            case round =>
              obtain ⟨rfl, j, hj, rfl⟩ := hrel
              by_cases hjk : j < 64 * k
              · have y2 : IntKind.i64.wrap (64 * (a : Int) + (j : Int)) = 64 * (a : Int) + (j : Int) := by rw [IntKind.wrap_i64]; omega
                have y0 : decide ((j : Int) < 64 * (k : Int)) = true := decide_eq_true (by omega)
                go_wp2_with fail
                refine (byte_step (T + 1) T n f2 (64 * (a : Int) + (j : Int)) _ H5.out.1).mono ?_
                rintro e _ ⟨rfl, rfl⟩
                rw [HZ.out j hjk]
                go_wp2_with fail
                exact ⟨⟨trivial, j + 1, by omega, rfl⟩, by simp [intOf]; omega⟩
              · have y0 : decide ((j : Int) < 64 * (k : Int)) = false := decide_eq_false (by omega)
                go_wp2_with fail
                exact bodyPost_ret (results_tmp rfl _ _ _) rfl ⟨rfl, H5.out.2⟩
      · have h5 : decide ((i : Int) < (len : Int)) = false := decide_eq_false (by omega)
        go_wp2_with fail
        rw [hk]
        go_quiet (fail)
        skip
        have H0 : RowKit.Hid (Cp (wr.drewN nq) (T + 1) T G2 T2 n f ∧ Below w.heap.size w (wr.drewN nq)) := Lib.hid ⟨HM.out.1.drewN nq, below_drewN HM.out.2 nq⟩
        clear HM hk ha hb HR
        generalize wr.drewN nq = wx at *
        go_wp2_with fail
        refine (copy_step (T + 1) T n f (a : Nat) (b : Nat) (k : Nat) wx H0.out.1.1 (by omega) (by omega)).mono ?_
        rintro e w4 ⟨rfl, ho4, hm4⟩
        rw [cpe_zero HN.out hk1 hak hbk]
        have H4 : RowKit.Hid (Mem w4 (T + 1) T n (cf n f (a : Nat) (b : Nat) (k : Nat)) ∧ RMem w4 G2 T2 (n / 8) (wv f) ∧ Below w.heap.size w w4) := Lib.hid ⟨hm4, H0.out.1.2.1.oth ho4 H0.out.1.2.2.2.2 (Ne.symm H0.out.1.2.2.1), H0.out.2.trans (ho4.below (Nat.le_of_lt hBT) (by have := H0.out.1.1.lt.2; omega))⟩
        have HW : RowKit.Hid (∀ i : Nat, i < 8 * k → lv n (cf n f (a : Nat) (b : Nat) (k : Nat)) (64 * (a : Int) + 8 * (i : Int)) = wv f (8 * b + i)) := Lib.hid fun i hi => by rw [show 64 * (a : Int) + 8 * (i : Int) = ((64 * a + 8 * i : Nat) : Int) from by omega]; exact cp_word HN.out hk1 hak hbk hi
        clear ho4 hm4 H0
        generalize (cf n f (a : Nat) (b : Nat) (k : Nat)) = f1 at H4 HW
        go_wp2_with fail
        have e8 : IntKind.i64.wrap (8 * (k : Int)) = 8 * (k : Int) := by rw [IntKind.wrap_i64]; omega
        have e64 : IntKind.i64.wrap (64 * (a : Int)) = 64 * (a : Int) := by rw [IntKind.wrap_i64]; omega
        have e8b : IntKind.i64.wrap (8 * (b : Int)) = 8 * (b : Int) := by rw [IntKind.wrap_i64]; omega
        go_loopw [15] (fun s wq => wq = w4 ∧ ∃ j : Nat, j ≤ 8 * k ∧ s = .int .i64 j) (fun s _ => 8 * k - (intOf s).toNat)
        case atStart => exact ⟨rfl, 0, by omega, rfl⟩
        case round =>
          obtain ⟨rfl, j, hj, rfl⟩ := hrel
          by_cases hjk : j < 8 * k
          · have y1 : IntKind.i64.wrap (8 * (j : Int)) = 8 * (j : Int) := by rw [IntKind.wrap_i64]; omega
            have y2 : IntKind.i64.wrap (64 * (a : Int) + 8 * (j : Int)) = 64 * (a : Int) + 8 * (j : Int) := by rw [IntKind.wrap_i64]; omega
            have y0 : decide ((j : Int) < 8 * (k : Int)) = true := decide_eq_true (by omega)
            go_wp2_with fail
            refine (load_step (T + 1) T n f1 (64 * (a : Int) + 8 * (j : Int)) _ H4.out.1).mono ?_
            rintro e _ ⟨rfl, rfl⟩
            rw [HW.out j hjk]
            obtain ⟨X, hX⟩ : ∃ X, 8 * b + j = X := ⟨_, rfl⟩
            have y3 : IntKind.i64.wrap (8 * (b : Int) + (j : Int)) = (X : Nat) := by rw [IntKind.wrap_i64]; omega
            have hXN : X < n / 8 := by have := HN.out; omega
            have c0 := cell_of_one H4.out.2.1.1
            have c1 := H4.out.2.1.2.1.cell (i := X) hXN
            rw [hX]
            have HXX := Lib.hid hX
            clear hX
            generalize wv f X = vv at c1 ⊢
            generalize n / 8 = N at hXN c0
            have z1 : (vv != vv) = false := bne_self_eq_false _
            go_wp2_with fail
            exact ⟨⟨trivial, j + 1, by omega, rfl⟩, by simp [intOf]; omega⟩
          · have y0 : decide ((j : Int) < 8 * (k : Int)) = false := decide_eq_false (by omega)
            go_wp2_with fail
            refine (zero_step (T + 1) T n f1 (a : Nat) (k : Nat) _ H4.out.1 (by omega)).mono ?_
            rintro e w5 ⟨rfl, ho5, hm5⟩
            rw [frm_zero HN.out hk1 hak]
            have H5 : RowKit.Hid (Mem w5 (T + 1) T n (zf n f1 (a : Nat) (k : Nat)) ∧ Below w.heap.size w w5) := Lib.hid ⟨hm5, H4.out.2.2.trans (ho5.below (Nat.le_of_lt hBT) (by have := H4.out.1.lt.2; omega))⟩
            have HZ : RowKit.Hid (∀ i : Nat, i < 64 * k → bv n (zf n f1 (a : Nat) (k : Nat)) (64 * (a : Int) + (i : Int)) = 0) := Lib.hid fun i hi => by rw [show 64 * (a : Int) + (i : Int) = ((64 * a + i : Nat) : Int) from by omega]; exact zr_byte HN.out hk1 hak hi
            clear ho5 hm5 H4
            generalize (zf n f1 (a : Nat) (k : Nat)) = f2 at H5 HZ
            go_wp2_with fail
            have e6k : IntKind.i64.wrap (64 * (k : Int)) = 64 * (k : Int) := by rw [IntKind.wrap_i64]; omega
            go_loopw [18] (fun s wq => wq = w5 ∧ ∃ j : Nat, j ≤ 64 * k ∧ s = .int .i64 j) (fun s _ => 64 * k - (intOf s).toNat)
            case atStart => exact ⟨rfl, 0, by omega, rfl⟩
            case round =>
              obtain ⟨rfl, j, hj, rfl⟩ := hrel
              by_cases hjk : j < 64 * k
              · have y2 : IntKind.i64.wrap (64 * (a : Int) + (j : Int)) = 64 * (a : Int) + (j : Int) := by rw [IntKind.wrap_i64]; omega
                have y0 : decide ((j : Int) < 64 * (k : Int)) = true := decide_eq_true (by omega)
                go_wp2_with fail
                refine (byte_step (T + 1) T n f2 (64 * (a : Int) + (j : Int)) _ H5.out.1).mono ?_
                rintro e _ ⟨rfl, rfl⟩
                rw [HZ.out j hjk]
                go_wp2_with fail
                exact ⟨⟨trivial, j + 1, by omega, rfl⟩, by simp [intOf]; omega⟩
              · have y0 : decide ((j : Int) < 64 * (k : Int)) = false := decide_eq_false (by omega)
                go_wp2_with fail
                exact bodyPost_ret (results_tmp rfl _ _ _) rfl ⟨rfl, H5.out.2⟩

end Go.Proofs.Ytmjkcmpanoepgaa

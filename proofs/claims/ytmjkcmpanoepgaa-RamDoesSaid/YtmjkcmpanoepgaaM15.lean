/- Parts of the proofs of layer 2 (ram): contracts of its functions, and the laws' walks. -/
import Derived.Test.YtmjkcmpanoepgaaProg
import Derived.WalkKit
import Derived.WalkSpells
import Derived.WalkLawsBesides
import Derived.BigQuiet
import Derived.Deep.QuietTactic
import Derived.Lib.Hide
import Derived.Deep.RegionHeld3
import Derived.Deep.DeepCutAuto
import Derived.KernelRfl
import Derived.Deep.OwnRows
import Derived.Laws.CopyOwn
import Derived.Laws.CopyRow
import Derived.StillTailTactics
import Derived.Test.YtmjkcmpanoepgaaM14
namespace Go.Proofs.Ytmjkcmpanoepgaa
open Go.RowKit
set_option linter.unusedVariables false
set_option linter.unusedSimpArgs false

set_option maxRecDepth 100000 in
set_option maxHeartbeats 8000000 in
theorem does_law (fr at_ : Int) (ao : Option Addr) (len cap : Nat) (z : Nat → Nat → Int) (w : World) (hlc : len ≤ cap) (hcm : cap ≤ maxLen) (hA : Acts w ao len z) : Calls Try.prog 5 #[.int .i64 fr, .slice ao len cap, .int .i64 at_] w fun e w' => e = .returned (.bool true) ∧ Below w.heap.size w w' := by
  have hlen : len ≤ 9223372036854775807 := by unfold maxLen at hcm; omega
  by_cases hfr : 8 ≤ fr ∧ fr ≤ 1024
  · obtain ⟨F, rfl⟩ := Int.eq_ofNat_of_zero_le (show 0 ≤ fr by omega)
    go_enter Try.func5, Try.ntmps5
    go_wp2_with fail
    refine (new_any F w (by omega) (by omega)).mono ?_
    rintro e w1 ⟨rfl, hb1, hm1, hs1⟩
    go_wp2_with fail
    refine (rnew_any F w1 (by omega) (by omega)).mono ?_
    rintro e w2 ⟨rfl, hb2, hm2, hs2⟩
    have hc : Cp w2 (w.heap.size + 1) w.heap.size (w1.heap.size + 1) w1.heap.size (F * 64) (fun _ => 0) := ⟨hm1.below hb2, by rw [show F * 64 / 8 = F * 8 from by omega]; exact hm2, by omega, by omega, by omega⟩
    have hb12 := bnext hb1 hb2
    generalize hG : w.heap.size + 1 = g at *
    generalize hG2 : w1.heap.size + 1 = g2 at *
    go_wp2_with fail
    refine (awake_any _).mono ?_
    rintro e w3 ⟨rfl, hb3⟩
    have HC := Lib.hid (hc.below hb3)
    have HB := Lib.hid (bnext hb12 hb3)
    have HA := Lib.hid hA
    have hsw : w.heap.size ≤ w1.heap.size := hb1.size
    generalize w1.heap.size = B2 at *
    clear hc hb12 hb1 hb2 hb3 hm1 hm2 hA hs1 hs2 hG hG2
    go_wp2_with fail
    go_loopw [11] (fun s wr => ∃ i f, i ≤ len ∧ s = .int .i64 (i : Nat) ∧ RowKit.Hid (Cp wr g w.heap.size g2 B2 (F * 64) f ∧ Below w.heap.size w wr)) (fun s _ => len - (intOf s).toNat)
    case atStart => exact ⟨0, _, by omega, rfl, Lib.hid ⟨HC.out, HB.out⟩⟩
    case round =>
      obtain ⟨i, f, hi, rfl, HM⟩ := hrel
      by_cases hlt : i < len ∧ i < 60
      · obtain ⟨hlt, h60⟩ := hlt
        obtain ⟨lb, lo, rfl, e0, e1, e2, e3, e4, r1, r2, r4⟩ := (HA.out.below HM.out.2) i hlt
        go_wp2_with fail
        refine (do_any g w.heap.size g2 B2 (F * 64) f (z i 0) (z i 1) (z i 2) (z i 3) (z i 4) wr HM.out.1 r1 r2 r4).mono ?_
        rintro e w5 ⟨rfl, ⟨f', hc5⟩, hb5⟩
        have HM5 := Lib.hid (And.intro hc5 (HM.out.2.trans (hb5 w.heap.size (Nat.le_refl _) hsw HM.out.2.size)))
        clear hc5 hb5 HM e0 e1 e2 e3 e4 r1 r2 r4
        obtain ⟨lb', lo', e', _, e1, _, _, _, _, _, _⟩ := (HA.out.below HM5.out.2) i hlt
        simp only [Option.some.injEq, Addr.mk.injEq, and_true] at e'
        obtain ⟨rfl, rfl⟩ := e'
        generalize z i 1 = A at e1
        go_wp2_with fail
        refine (load_step g w.heap.size (F * 64) f' A w5 HM5.out.1.1).mono ?_
        rintro e _ ⟨rfl, rfl⟩
        go_wp2_with fail
        refine (rload_step g2 B2 (F * 64 / 8) (F * 64) f' A w5 HM5.out.1.2.1 HM5.out.1.div).mono ?_
        rintro e _ ⟨rfl, rfl⟩
        generalize lv (F * 64) f' A = p1
        generalize wrg (F * 64) A 8 = p2
        go_wp2_with fail
        refine (byte_step g w.heap.size (F * 64) f' at_ w5 HM5.out.1.1).mono ?_
        rintro e _ ⟨rfl, rfl⟩
        go_wp2_with fail
        refine (rbyte_step g2 B2 (F * 64 / 8) (F * 64) f' at_ w5 HM5.out.1.2.1 HM5.out.1.div HM5.out.1.1.2.2.2.2.2.2).mono ?_
        rintro e _ ⟨rfl, rfl⟩
        generalize bv (F * 64) f' at_ = p3
        generalize wrg (F * 64) at_ 1 = p4
        have z1 : (p1 != p1) = false := bne_self_eq_false _
        have z2 : (p2 != p2) = false := bne_self_eq_false _
        have z3 : (p3 != p3) = false := bne_self_eq_false _
        have z4 : (p4 != p4) = false := bne_self_eq_false _
        go_wp2_with fail
        exact ⟨⟨i + 1, f', by omega, rfl, HM5⟩, by simp [intOf]; omega⟩
      · have hend : (decide ((i : Int) < (len : Int)) && decide ((i : Int) < 60)) = false := by
          rw [Bool.and_eq_false_iff, decide_eq_false_iff_not, decide_eq_false_iff_not]
          omega
        obtain ⟨N, hNN⟩ : ∃ N, F * 64 / 8 = N := ⟨_, rfl⟩
        have hcell := cell_of_one HM.out.1.2.1.1
        rw [hNN] at hcell
        by_cases hil : i < len
        · have h6 : decide ((i : Int) < 60) = false := decide_eq_false (by omega)
          have h5 : decide ((i : Int) < (len : Int)) = true := decide_eq_true (by omega)
          go_wp2_with fail
          go_loopw [20] (fun s wq => wq = wr ∧ ∃ k : Nat, k ≤ N ∧ s = .int .i64 k) (fun s _ => N - (intOf s).toNat)
          case atStart => exact ⟨rfl, 0, by omega, rfl⟩
          case round =>
            obtain ⟨rfl, k, hk, rfl⟩ := hrel
            by_cases hkn : k < N
            · have hw8 : IntKind.i64.wrap (8 * (k : Int)) = 8 * (k : Int) := by rw [IntKind.wrap_i64]; omega
              have hcl := HM.out.1.2.1.2.1.cell (i := k) (by omega)
              have hv : lv (F * 64) f (8 * (k : Int)) = wv f k := by
                unfold lv wv
                rw [if_pos (wrg_ok (by omega) (by omega) (by omega)), show (8 * (k : Int)).toNat = 8 * k from by omega]
              have HV := Lib.hid hv
              clear hv
              generalize wv f k = p at HV hcl
              have z1 : (p != p) = false := bne_self_eq_false _
              go_wp2_with fail
              refine (load_step g w.heap.size (F * 64) f (8 * (k : Int)) _ HM.out.1.1).mono ?_
              rintro e _ ⟨rfl, rfl⟩
              rw [HV.out]
              go_wp2_with fail
              exact ⟨⟨trivial, k + 1, by omega, rfl⟩, by simp [intOf]; omega⟩
            · go_wp2_with fail
              refine (frames_any g w.heap.size (F * 64) f _ HM.out.1.1).mono ?_
              rintro e _ ⟨rfl, rfl⟩
              go_wp2_with fail
              refine (rframes_any g2 B2 (F * 64 / 8) (wv f) _ HM.out.1.2.1).mono ?_
              rintro e _ ⟨rfl, rfl⟩
              have zz : ((F : Int) == (N : Int) / 8) = true := by rw [beq_iff_eq]; omega
              go_wp2_with fail
              exact bodyPost_ret (results_tmp rfl _ _ _) rfl ⟨rfl, HM.out.2⟩
        · have h5 : decide ((i : Int) < (len : Int)) = false := decide_eq_false (by omega)
          go_wp2_with fail
          go_loopw [20] (fun s wq => wq = wr ∧ ∃ k : Nat, k ≤ N ∧ s = .int .i64 k) (fun s _ => N - (intOf s).toNat)
          case atStart => exact ⟨rfl, 0, by omega, rfl⟩
          case round =>
            obtain ⟨rfl, k, hk, rfl⟩ := hrel
            by_cases hkn : k < N
            · have hw8 : IntKind.i64.wrap (8 * (k : Int)) = 8 * (k : Int) := by rw [IntKind.wrap_i64]; omega
              have hcl := HM.out.1.2.1.2.1.cell (i := k) (by omega)
              have hv : lv (F * 64) f (8 * (k : Int)) = wv f k := by
                unfold lv wv
                rw [if_pos (wrg_ok (by omega) (by omega) (by omega)), show (8 * (k : Int)).toNat = 8 * k from by omega]
              have HV := Lib.hid hv
              clear hv
              generalize wv f k = p at HV hcl
              have z1 : (p != p) = false := bne_self_eq_false _
              go_wp2_with fail
              refine (load_step g w.heap.size (F * 64) f (8 * (k : Int)) _ HM.out.1.1).mono ?_
              rintro e _ ⟨rfl, rfl⟩
              rw [HV.out]
              go_wp2_with fail
              exact ⟨⟨trivial, k + 1, by omega, rfl⟩, by simp [intOf]; omega⟩
            · go_wp2_with fail
              refine (frames_any g w.heap.size (F * 64) f _ HM.out.1.1).mono ?_
              rintro e _ ⟨rfl, rfl⟩
              go_wp2_with fail
              refine (rframes_any g2 B2 (F * 64 / 8) (wv f) _ HM.out.1.2.1).mono ?_
              rintro e _ ⟨rfl, rfl⟩
              have zz : ((F : Int) == (N : Int) / 8) = true := by rw [beq_iff_eq]; omega
              go_wp2_with fail
              exact bodyPost_ret (results_tmp rfl _ _ _) rfl ⟨rfl, HM.out.2⟩
  · go_enter Try.func5, Try.ntmps5
    go_wp2_with fail
    refine (new_no fr w (by omega)).mono ?_
    rintro e _ ⟨rfl, rfl⟩
    go_wp2_with fail
    refine (rnew_no fr w (by omega)).mono ?_
    rintro e _ ⟨rfl, rfl⟩
    go_wp2_with fail
    refine (awake_any _).mono ?_
    rintro e w3 ⟨rfl, hb3⟩
    go_wp2_with fail
    exact bodyPost_ret (results_tmp rfl _ _ _) rfl ⟨rfl, hb3⟩

end Go.Proofs.Ytmjkcmpanoepgaa

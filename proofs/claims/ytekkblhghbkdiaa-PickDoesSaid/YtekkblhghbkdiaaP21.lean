/- Parts of the proofs of layer 6 (pick): contracts of its functions, and the laws' walks. -/
import Derived.Test.YtekkblhghbkdiaaProg
import Derived.WalkKit
import Derived.WalkSpells
import Derived.WalkLawsBesides
import Derived.BigQuiet
import Derived.Deep.QuietTactic
import Derived.Lib.Hide
import Derived.Deep.RegionHeld3
import Derived.Deep.DeepCutAuto
import Derived.KernelRfl
import Derived.Deep.OwnRows
import Derived.Laws.CopyOwn
import Derived.Laws.CopyRow
import Derived.StillTailTactics
import Derived.Deep.RegionLaw
import Derived.Test.YtekkblhghbkdiaaP20
namespace Go.Proofs.Ytekkblhghbkdiaa
open Go.RowKit
set_option linter.unusedVariables false
set_option linter.unusedSimpArgs false

theorem wo_len {M : List E} (h : M.Pairwise fun a b => a.f ≠ b.f) {x : E} (hx : x ∈ M) : (wo x.f M).length + 1 = M.length := by
  obtain ⟨i, hi, rfl⟩ := mem_g.1 hx
  have := (self_perm h hi).length_eq
  simp at this
  omega
set_option maxHeartbeats 8000000 in
theorem rises_law (ao : Option Addr) (len cap : Nat) (z : Nat → Nat → Int) (w : World) (hlc : len ≤ cap) (hcm : cap ≤ maxLen) (hA : Acts w ao len z) : Calls Try.prog 3 #[.slice ao len cap] w fun e w' => e = .returned (.bool true) ∧ Below w.heap.size w w' := by
  have HA := Lib.hid hA
  have hlen : len ≤ 9223372036854775807 := by unfold maxLen at hcm; omega
  clear hA
  go_enter Try.func3, Try.ntmps3
  go_wp2_with fail
  refine (New_any w).mono ?_
  rintro e w1 ⟨p, F1, rfl, hc1, hk1⟩
  have HI := Lib.hid (tw_start hc1 hk1)
  clear hc1 hk1
  go_upto_region 3 with fail
  generalize w1.alloc (.cells #[.slice none 0 0] 28) = w2 at *
  generalize w1.heap.size = g at *
  go_wp2_with fail
  refine (awake_any w2).mono ?_
  rintro e w3 ⟨rfl, hb3⟩
  have HT := Lib.hid (HI.out.keep hb3)
  clear hb3 HI
  go_wp2_with fail
  go_loopw [5] (fun s wr => ∃ i F1 F2 M, i ≤ len ∧ i ≤ 200 ∧ s = .int .i64 (i : Nat) ∧ RowKit.Hid (Tw w wr p F1 g F2 M M)) (fun s _ => len - (intOf s).toNat)
  case atStart => exact ⟨0, _, _, _, Nat.zero_le _, Nat.zero_le _, rfl, HT⟩
  case round =>
    obtain ⟨i, F1, F2, M, hi, hil, rfl, HM⟩ := hrel
    by_cases hlt : i < len ∧ i < 200
    · obtain ⟨hlt, h80⟩ := hlt
      obtain ⟨lb, lo, rfl, e0, e1, e2, _⟩ := HA.out.below HM.out.2 i hlt
      have h5 : ((i : Nat) : Int) < ((len : Nat) : Int) := by omega
      have h6 : ((i : Nat) : Int) < 200 := by omega
      have HC := Lib.hid (And.intro e1 e2)
      clear e0
      go_upto_region 8 with fail
      go_still_tail 11, (by kernel_rfl)
      change wpList _ _ _ _ _ (World.drew _)
      go_wp2_with fail
      refine (Put_any p F1 M ⟨z i 1, z i 2⟩ wr.drew HM.out.1.1.drew).mono ?_
      rintro e w5 ⟨rfl, F1', hc5, hk5⟩
      have HM5 := Lib.hid (HM.out.prog hc5.drew' hk5)
      clear hc5 hk5 e1 e2
      obtain ⟨lb', lo', e', e0, e1, e2, _⟩ := HA.out.below HM5.out.2 i hlt
      cases e'
      clear e0
      go_upto_region 9 with fail
      go_still_tail 11, (by kernel_rfl)
      change wpList _ _ _ _ _ (World.drew _)
      go_wp2_with fail
      refine (RPut_any ⟨z i 1, z i 2⟩ g F2 M w5.drew HM5.out.1.2.1.drew (by have := HM.out.1.1.wl.2.2; omega) HM.out.1.1.wl.2.1).mono ?_
      rintro e w6 ⟨rfl, F2', hc6, M', hk6, hp6⟩
      have HM6 := Lib.hid ((HM5.out.ref hc6.drew' hk6).left (hp6.symm))
      clear hc6 hk6 hp6 e1 e2
      go_wp2_with fail
      exact ⟨⟨i + 1, F1', F2', M', hlt, h80, by simp, HM6⟩, by simp [intOf]; omega⟩
    · by_cases hil2 : i < len
      · have h6 : ¬ (((i : Nat) : Int) < 200) := by omega
        have h5 : ((i : Nat) : Int) < ((len : Nat) : Int) := by omega
        have hil3 : i ≤ 200 := by omega
        clear hlt
        go_wp2_with fail
        refine (PLen_any p F1 M wr HM.out.1.1).mono ?_
        rintro e w4 ⟨rfl, rfl⟩
        have HN0 := Lib.hid (show M.length + 0 = M.length from rfl)
        have hml := HM.out.1.1.wl.2.2
        obtain ⟨N, hN⟩ : ∃ N, M.length = N := ⟨_, rfl⟩
        have HM0 : RowKit.Hid (Tw w wr p F1 g F2 M M ∧ M.length + 0 = N ∧ (0 < 0 → ∀ e ∈ M, lt ⟨-1, 0⟩ e)) := Lib.hid ⟨HM.out, hN, fun h => absurd h (by decide)⟩
        rw [hN] at hml ⊢
        clear hN HN0 HM
        go_wp2_with fail
        go_loopw [7, 8, 9] (fun s7 s8 s9 wx => ∃ i : Nat, i ≤ N ∧ s9 = .int .i64 (i : Nat) ∧ ∃ pf : Int, s7 = .int .i64 pf ∧ ∃ pw : Int, s8 = .int .i64 pw ∧ ∃ F1' F2' R, RowKit.Hid (Tw w wx p F1' g F2' R R ∧ R.length + i = N ∧ (0 < i → ∀ e ∈ R, lt ⟨pf, pw⟩ e))) (fun _ _ s _ => N - (intOf s).toNat)
        case atStart => exact ⟨0, Nat.zero_le _, rfl, -1, rfl, 0, rfl, F1, F2, M, HM0⟩
        case round =>
          obtain ⟨i, hiN, rfl, pf, rfl, pw, rfl, F1', F2', R, HN⟩ := hrel
          clear HM0
          have hrl := HN.out.1.1.1.wl.2.2
          by_cases hin : i < N
          · have hiI : ((i : Nat) : Int) < ((N : Nat) : Int) := by omega
            go_wp2_with fail
            refine (Pop_ok p F1' R wr HN.out.1.1.1).mono ?_
            rintro e w5 ⟨hc5, he⟩
            rcases he with ⟨h0, _⟩ | ⟨x, hx, hk5, rfl⟩
            · exact absurd HN.out.2.1 (by rw [h0]; simp; omega)
            have HX := Lib.hid hx
            have HN5 := Lib.hid (HN.out.1.prog hc5 hk5)
            have HP := Lib.hid (HN.out.2.2)
            clear hc5 hk5 hx
            by_cases h0 : i = 0
            · subst h0
              go_wp2_with fail
              refine (RDrop_any x.f g F2' R w5 HN5.out.1.2.1 (by omega)).mono ?_
              rintro e w6 ⟨F2'', hc6, hk6, he⟩
              have HN6 := Lib.hid (HN5.out.ref hc6 hk6)
              clear hc6 hk6
              rcases he with ⟨hno, _⟩ | ⟨_, rfl⟩
              · exact absurd rfl (hno x HX.out.1)
              go_wp2_with fail
              have HF := Lib.hid (⟨HN6.out, by have := wo_len HN.out.1.1.1.wl.2.1 HX.out.1; have := HN.out.2.1; omega, fun _ e he => lt_of_fst HX.out he⟩ : Tw w w6 p F1' g F2'' (wo x.f R) (wo x.f R) ∧ (wo x.f R).length + (0 + 1) = N ∧ (0 < 0 + 1 → ∀ e ∈ wo x.f R, lt ⟨x.f, x.w⟩ e))
              exact ⟨⟨0 + 1, by omega, by simp, x.f, rfl, x.w, rfl, F1', F2'', wo x.f R, HF⟩, by simp [intOf]; omega⟩
            · have hi0 : (0 : Int) < ((i : Nat) : Int) := by omega
              have hlt := HP.out (by omega) x HX.out.1
              unfold lt at hlt
              simp only at hlt
              have m1 : ¬ (x.w < pw) := by omega
              by_cases m2 : x.w = pw
              · have m3 : ¬ (x.f ≤ pf) := by omega
                clear hlt
                go_wp2_with fail
                refine (RDrop_any x.f g F2' R w5 HN5.out.1.2.1 (by omega)).mono ?_
                rintro e w6 ⟨F2'', hc6, hk6, he⟩
                have HN6 := Lib.hid (HN5.out.ref hc6 hk6)
                clear hc6 hk6
                rcases he with ⟨hno, _⟩ | ⟨_, rfl⟩
                · exact absurd rfl (hno x HX.out.1)
                go_wp2_with fail
                have HF := Lib.hid (⟨HN6.out, by have := wo_len HN.out.1.1.1.wl.2.1 HX.out.1; have := HN.out.2.1; omega, fun _ e he => by rw [← m2]; exact lt_of_fst HX.out he⟩ : Tw w w6 p F1' g F2'' (wo x.f R) (wo x.f R) ∧ (wo x.f R).length + (i + 1) = N ∧ (0 < i + 1 → ∀ e ∈ wo x.f R, lt ⟨x.f, pw⟩ e))
                exact ⟨⟨i + 1, by omega, by simp, x.f, rfl, pw, rfl, F1', F2'', wo x.f R, HF⟩, by simp [intOf]; omega⟩
              · clear hlt
                go_wp2_with fail
                refine (RDrop_any x.f g F2' R w5 HN5.out.1.2.1 (by omega)).mono ?_
                rintro e w6 ⟨F2'', hc6, hk6, he⟩
                have HN6 := Lib.hid (HN5.out.ref hc6 hk6)
                clear hc6 hk6
                rcases he with ⟨hno, _⟩ | ⟨_, rfl⟩
                · exact absurd rfl (hno x HX.out.1)
                go_wp2_with fail
                have HF := Lib.hid (⟨HN6.out, by have := wo_len HN.out.1.1.1.wl.2.1 HX.out.1; have := HN.out.2.1; omega, fun _ e he => lt_of_fst HX.out he⟩ : Tw w w6 p F1' g F2'' (wo x.f R) (wo x.f R) ∧ (wo x.f R).length + (i + 1) = N ∧ (0 < i + 1 → ∀ e ∈ wo x.f R, lt ⟨x.f, x.w⟩ e))
                exact ⟨⟨i + 1, by omega, by simp, x.f, rfl, x.w, rfl, F1', F2'', wo x.f R, HF⟩, by simp [intOf]; omega⟩
          · have hiI : ¬ (((i : Nat) : Int) < ((N : Nat) : Int)) := by omega
            have hR : R = [] := List.eq_nil_of_length_eq_zero (by have := HN.out.2.1; omega)
            subst hR
            go_wp2_with fail
            refine (PLen_any p F1' [] wr HN.out.1.1.1).mono ?_
            rintro e w5 ⟨rfl, rfl⟩
            obtain ⟨al, cl, c0, _⟩ := HN.out.1.1.2.1.look
            go_wp2_with fail
            go_ret
            exact ⟨rfl, HN.out.1.2⟩
      · have h5 : ¬ (((i : Nat) : Int) < ((len : Nat) : Int)) := by omega
        have hil3 : i ≤ 200 := by omega
        clear hlt
        go_wp2_with fail
        refine (PLen_any p F1 M wr HM.out.1.1).mono ?_
        rintro e w4 ⟨rfl, rfl⟩
        have HN0 := Lib.hid (show M.length + 0 = M.length from rfl)
        have hml := HM.out.1.1.wl.2.2
        obtain ⟨N, hN⟩ : ∃ N, M.length = N := ⟨_, rfl⟩
        have HM0 : RowKit.Hid (Tw w wr p F1 g F2 M M ∧ M.length + 0 = N ∧ (0 < 0 → ∀ e ∈ M, lt ⟨-1, 0⟩ e)) := Lib.hid ⟨HM.out, hN, fun h => absurd h (by decide)⟩
        rw [hN] at hml ⊢
        clear hN HN0 HM
        go_wp2_with fail
        go_loopw [7, 8, 9] (fun s7 s8 s9 wx => ∃ i : Nat, i ≤ N ∧ s9 = .int .i64 (i : Nat) ∧ ∃ pf : Int, s7 = .int .i64 pf ∧ ∃ pw : Int, s8 = .int .i64 pw ∧ ∃ F1' F2' R, RowKit.Hid (Tw w wx p F1' g F2' R R ∧ R.length + i = N ∧ (0 < i → ∀ e ∈ R, lt ⟨pf, pw⟩ e))) (fun _ _ s _ => N - (intOf s).toNat)
        case atStart => exact ⟨0, Nat.zero_le _, rfl, -1, rfl, 0, rfl, F1, F2, M, HM0⟩
        case round =>
          obtain ⟨i, hiN, rfl, pf, rfl, pw, rfl, F1', F2', R, HN⟩ := hrel
          clear HM0
          have hrl := HN.out.1.1.1.wl.2.2
          by_cases hin : i < N
          · have hiI : ((i : Nat) : Int) < ((N : Nat) : Int) := by omega
            go_wp2_with fail
            refine (Pop_ok p F1' R wr HN.out.1.1.1).mono ?_
            rintro e w5 ⟨hc5, he⟩
            rcases he with ⟨h0, _⟩ | ⟨x, hx, hk5, rfl⟩
            · exact absurd HN.out.2.1 (by rw [h0]; simp; omega)
            have HX := Lib.hid hx
            have HN5 := Lib.hid (HN.out.1.prog hc5 hk5)
            have HP := Lib.hid (HN.out.2.2)
            clear hc5 hk5 hx
            by_cases h0 : i = 0
            · subst h0
              go_wp2_with fail
              refine (RDrop_any x.f g F2' R w5 HN5.out.1.2.1 (by omega)).mono ?_
              rintro e w6 ⟨F2'', hc6, hk6, he⟩
              have HN6 := Lib.hid (HN5.out.ref hc6 hk6)
              clear hc6 hk6
              rcases he with ⟨hno, _⟩ | ⟨_, rfl⟩
              · exact absurd rfl (hno x HX.out.1)
              go_wp2_with fail
              have HF := Lib.hid (⟨HN6.out, by have := wo_len HN.out.1.1.1.wl.2.1 HX.out.1; have := HN.out.2.1; omega, fun _ e he => lt_of_fst HX.out he⟩ : Tw w w6 p F1' g F2'' (wo x.f R) (wo x.f R) ∧ (wo x.f R).length + (0 + 1) = N ∧ (0 < 0 + 1 → ∀ e ∈ wo x.f R, lt ⟨x.f, x.w⟩ e))
              exact ⟨⟨0 + 1, by omega, by simp, x.f, rfl, x.w, rfl, F1', F2'', wo x.f R, HF⟩, by simp [intOf]; omega⟩
            · have hi0 : (0 : Int) < ((i : Nat) : Int) := by omega
              have hlt := HP.out (by omega) x HX.out.1
              unfold lt at hlt
              simp only at hlt
              have m1 : ¬ (x.w < pw) := by omega
              by_cases m2 : x.w = pw
              · have m3 : ¬ (x.f ≤ pf) := by omega
                clear hlt
                go_wp2_with fail
                refine (RDrop_any x.f g F2' R w5 HN5.out.1.2.1 (by omega)).mono ?_
                rintro e w6 ⟨F2'', hc6, hk6, he⟩
                have HN6 := Lib.hid (HN5.out.ref hc6 hk6)
                clear hc6 hk6
                rcases he with ⟨hno, _⟩ | ⟨_, rfl⟩
                · exact absurd rfl (hno x HX.out.1)
                go_wp2_with fail
                have HF := Lib.hid (⟨HN6.out, by have := wo_len HN.out.1.1.1.wl.2.1 HX.out.1; have := HN.out.2.1; omega, fun _ e he => by rw [← m2]; exact lt_of_fst HX.out he⟩ : Tw w w6 p F1' g F2'' (wo x.f R) (wo x.f R) ∧ (wo x.f R).length + (i + 1) = N ∧ (0 < i + 1 → ∀ e ∈ wo x.f R, lt ⟨x.f, pw⟩ e))
                exact ⟨⟨i + 1, by omega, by simp, x.f, rfl, pw, rfl, F1', F2'', wo x.f R, HF⟩, by simp [intOf]; omega⟩
              · clear hlt
                go_wp2_with fail
                refine (RDrop_any x.f g F2' R w5 HN5.out.1.2.1 (by omega)).mono ?_
                rintro e w6 ⟨F2'', hc6, hk6, he⟩
                have HN6 := Lib.hid (HN5.out.ref hc6 hk6)
                clear hc6 hk6
                rcases he with ⟨hno, _⟩ | ⟨_, rfl⟩
                · exact absurd rfl (hno x HX.out.1)
                go_wp2_with fail
                have HF := Lib.hid (⟨HN6.out, by have := wo_len HN.out.1.1.1.wl.2.1 HX.out.1; have := HN.out.2.1; omega, fun _ e he => lt_of_fst HX.out he⟩ : Tw w w6 p F1' g F2'' (wo x.f R) (wo x.f R) ∧ (wo x.f R).length + (i + 1) = N ∧ (0 < i + 1 → ∀ e ∈ wo x.f R, lt ⟨x.f, x.w⟩ e))
                exact ⟨⟨i + 1, by omega, by simp, x.f, rfl, x.w, rfl, F1', F2'', wo x.f R, HF⟩, by simp [intOf]; omega⟩
          · have hiI : ¬ (((i : Nat) : Int) < ((N : Nat) : Int)) := by omega
            have hR : R = [] := List.eq_nil_of_length_eq_zero (by have := HN.out.2.1; omega)
            subst hR
            go_wp2_with fail
            refine (PLen_any p F1' [] wr HN.out.1.1.1).mono ?_
            rintro e w5 ⟨rfl, rfl⟩
            obtain ⟨al, cl, c0, _⟩ := HN.out.1.1.2.1.look
            go_wp2_with fail
            go_ret
            exact ⟨rfl, HN.out.1.2⟩

end Go.Proofs.Ytekkblhghbkdiaa

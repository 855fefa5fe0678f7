/- Parts of the proofs of layer 6 (pick): contracts of its functions, and the laws' walks. -/
import Derived.Test.YtekkblhghbkdiaaProg
import Derived.WalkKit
import Derived.WalkSpells
import Derived.WalkLawsBesides
import Derived.BigQuiet
import Derived.Deep.QuietTactic
import Derived.Lib.Hide
import Derived.Deep.RegionHeld3
import Derived.Deep.DeepCutAuto
import Derived.KernelRfl
import Derived.Deep.OwnRows
import Derived.Laws.CopyOwn
import Derived.Laws.CopyRow
import Derived.StillTailTactics
import Derived.Deep.RegionLaw
import Derived.Test.YtekkblhghbkdiaaP21
import Derived.Deep.RegionWith
namespace Go.Proofs.Ytekkblhghbkdiaa
open Go.RowKit
set_option linter.unusedVariables false
set_option linter.unusedSimpArgs false

def dropE (f : Int) (M : List E) : Int := if (M.any fun e => decide (e.f = f)) then 0 else 6
theorem dropE_no {f : Int} {M : List E} (h : ∀ e ∈ M, e.f ≠ f) : dropE f M = 6 := if_neg (by simpa using h)
theorem dropE_yes {f : Int} {M : List E} (h : ∃ e ∈ M, e.f = f) : dropE f M = 0 := if_pos (by simpa using h)
theorem Drop_fn (p : Nat) (F : List Nat) (M : List E) (f : Int) (w : World) (h : PH w p F M) (hf : wf f) :
    Calls Try.prog 17 #[.pointer (some ⟨p, 0, none⟩), .int .i64 f] w fun e w' => e = .returned (.int .i64 (dropE f M)) ∧ Chg F F w w' ∧ PH w' p F (wo f M) := by
  refine (Drop_any p F M f w h hf).mono ?_
  rintro e w' ⟨h1, h2, h3⟩
  rcases h3 with ⟨h3, rfl⟩ | ⟨h3, rfl⟩
  · exact ⟨by rw [dropE_no h3], h1, h2⟩
  · exact ⟨by rw [dropE_yes h3], h1, h2⟩
theorem RDrop_fn (f : Int) (g : Nat) (F : List Nat) (L : List E) (w : World) (h : Rt w g F L) (hm : L.length ≤ 3000) :
    Calls Try.prog 15 #[.pointer (some ⟨g, 0, none⟩), .int .i64 f] w fun e w' => e = .returned (.int .i64 (dropE f L)) ∧ ∃ F', Chg F F' w w' ∧ Rt w' g F' (wo f L) := by
  refine (RDrop_any f g F L w h hm).mono ?_
  rintro e w' ⟨F', h1, h2, h3⟩
  rcases h3 with ⟨h3, rfl⟩ | ⟨h3, rfl⟩
  · exact ⟨by rw [dropE_no h3], F', h1, h2⟩
  · exact ⟨by rw [dropE_yes h3], F', h1, h2⟩
/-- Numbers that came in. -/
def Nums (w : World) (ao : Option Addr) (len : Nat) (y : Nat → Int) : Prop := ∀ j, j < len → ∃ b o, ao = some ⟨b, o, none⟩ ∧ w.cell? ⟨b, o + j, none⟩ = some (.int .i64 (y j)) ∧ wf (y j)
theorem Nums.below {w w' : World} {ao : Option Addr} {len : Nat} {y : Nat → Int} (h : Nums w ao len y) (hb : Below w.heap.size w w') : Nums w' ao len y := fun j hj => by
  obtain ⟨b, o, e, e0, e1⟩ := h j hj
  exact ⟨b, o, e, cell_keep hb e0, e1⟩
set_option maxHeartbeats 8000000 in
theorem drops_law (ao : Option Addr) (len cap : Nat) (z : Nat → Nat → Int) (ao2 : Option Addr) (len2 cap2 : Nat) (y : Nat → Int) (w : World) (hlc : len ≤ cap) (hcm : cap ≤ maxLen) (hA : Acts w ao len z) (hlc2 : len2 ≤ cap2) (hcm2 : cap2 ≤ maxLen) (hY : Nums w ao2 len2 y) : Calls Try.prog 5 #[.slice ao len cap, .slice ao2 len2 cap2] w fun e w' => e = .returned (.bool true) ∧ Below w.heap.size w w' := by
  have HY := Lib.hid hY
  have hlen2 : len2 ≤ 9223372036854775807 := by unfold maxLen at hcm2; omega
  clear hY
  have HA := Lib.hid hA
  have hlen : len ≤ 9223372036854775807 := by unfold maxLen at hcm; omega
  clear hA
  go_enter Try.func5, Try.ntmps5
  go_wp2_with fail
  refine (New_any w).mono ?_
  rintro e w1 ⟨p, F1, rfl, hc1, hk1⟩
  have HI := Lib.hid (tw_start hc1 hk1)
  clear hc1 hk1
  go_upto_region 2 with fail
  generalize w1.alloc (.cells #[.slice none 0 0] 28) = w2 at *
  generalize w1.heap.size = g at *
  go_wp2_with fail
  refine (awake_any w2).mono ?_
  rintro e w3 ⟨rfl, hb3⟩
  have HT := Lib.hid (HI.out.keep hb3)
  clear hb3 HI
  go_wp2_with fail
  go_loopw [7] (fun s wr => ∃ i F1 F2 M, i ≤ len ∧ i ≤ 100 ∧ s = .int .i64 (i : Nat) ∧ RowKit.Hid (Tw w wr p F1 g F2 M M)) (fun s _ => len - (intOf s).toNat)
  case atStart => exact ⟨0, _, _, _, Nat.zero_le _, Nat.zero_le _, rfl, HT⟩
  case round =>
    obtain ⟨i, F1, F2, M, hi, hil, rfl, HM⟩ := hrel
    by_cases hlt : i < len ∧ i < 100
    · obtain ⟨hlt, h80⟩ := hlt
      obtain ⟨lb, lo, rfl, e0, e1, e2, _⟩ := HA.out.below HM.out.2 i hlt
      have h5 : ((i : Nat) : Int) < ((len : Nat) : Int) := by omega
      have h6 : ((i : Nat) : Int) < 100 := by omega
      have HC := Lib.hid (And.intro e1 e2)
      clear e0
      go_upto_region 7 with fail
      go_still_tail 11, (by kernel_rfl)
      change wpList _ _ _ _ _ (World.drew _)
      go_wp2_with fail
      refine (Put_any p F1 M ⟨z i 1, z i 2⟩ wr.drew HM.out.1.1.drew).mono ?_
      rintro e w5 ⟨rfl, F1', hc5, hk5⟩
      have HM5 := Lib.hid (HM.out.prog hc5.drew' hk5)
      clear hc5 hk5 e1 e2
      obtain ⟨lb', lo', e', e0, e1, e2, _⟩ := HA.out.below HM5.out.2 i hlt
      cases e'
      clear e0
      go_upto_region 8 with fail
      go_still_tail 11, (by kernel_rfl)
      change wpList _ _ _ _ _ (World.drew _)
      go_wp2_with fail
      refine (RPut_any ⟨z i 1, z i 2⟩ g F2 M w5.drew HM5.out.1.2.1.drew (by have := HM.out.1.1.wl.2.2; omega) HM.out.1.1.wl.2.1).mono ?_
      rintro e w6 ⟨rfl, F2', hc6, M', hk6, hp6⟩
      have HM6 := Lib.hid ((HM5.out.ref hc6.drew' hk6).left (hp6.symm))
      clear hc6 hk6 hp6 e1 e2
      go_wp2_with fail
      exact ⟨⟨i + 1, F1', F2', M', hlt, h80, by simp, HM6⟩, by simp [intOf]; omega⟩
    · by_cases hil2 : i < len
      · have h6 : ¬ (((i : Nat) : Int) < 100) := by omega
        have h5 : ((i : Nat) : Int) < ((len : Nat) : Int) := by omega
        have hil3 : i ≤ 200 := by omega
        clear hlt
        have hj0 : RowKit.Hid (Tw w wr p F1 g F2 M M ∧ 0 ≤ 0) := Lib.hid ⟨HM.out, Nat.le_refl _⟩
        clear HM
        go_wp2_with fail
        go_loopw [8] (fun s wx => ∃ j : Nat, j ≤ len2 ∧ j ≤ 100 ∧ s = .int .i64 (j : Nat) ∧ ∃ F1' F2' R, RowKit.Hid (Tw w wx p F1' g F2' R R ∧ 0 ≤ j)) (fun s _ => len2 - (intOf s).toNat)
        case atStart => exact ⟨0, Nat.zero_le _, Nat.zero_le _, rfl, F1, F2, M, hj0⟩
        case round =>
          obtain ⟨j, hj, hj1, rfl, F1', F2', R, HN⟩ := hrel
          clear hj0
          have hrl := HN.out.1.1.1.wl.2.2
          by_cases hjl : j < len2 ∧ j < 100
          · obtain ⟨hjl, hj100⟩ := hjl
            obtain ⟨lb, lo, rfl, e0, hyw⟩ := HY.out.below HN.out.1.2 j hjl
            have h5 : ((j : Nat) : Int) < ((len2 : Nat) : Int) := by omega
            have h6 : ((j : Nat) : Int) < 100 := by omega
            have HN1 : RowKit.Hid (Tw w wr.drew p F1' g F2' R R) := Lib.hid ⟨⟨HN.out.1.1.1.drew, HN.out.1.1.2.1.drew, HN.out.1.1.2.2⟩, HN.out.1.2.drew⟩
            have HYD := Lib.hid (fun (wq : World) (hb : Below w.heap.size w wq) => (HY.out.below hb j hjl))
            go_upto_region 12 with fail
            go_region_with (first | (go_at_call 17; refine (Drop_fn p F1' R (y j) wr.drew HN1.out.1.1 hyw).mono ?_; rintro e w5 ⟨rfl, hc5, hk5⟩; have HN5 := Lib.hid (HN1.out.prog hc5 hk5); obtain ⟨_, _, e1, e0', _⟩ := HYD.out w5 HN5.out.2; cases e1; clear hc5 hk5) | (go_at_call 15; refine (RDrop_fn (y j) g F2' R w5 HN5.out.1.2.1 (by omega)).mono ?_; rintro e w6 ⟨rfl, F3, hc6, hk6⟩; have HN6 := Lib.hid (HN5.out.ref hc6 hk6); clear hc6 hk6))
            all_goals (
              go_wp2_with fail
              have HF := Lib.hid (⟨HN6.out, Nat.zero_le _⟩ : Tw w w6 p F1' g F3 (wo (y j) R) (wo (y j) R) ∧ 0 ≤ j + 1)
              exact ⟨⟨j + 1, hjl, by omega, by simp, F1', F3, wo (y j) R, HF⟩, by simp [intOf]; omega⟩)
          · by_cases hjl2 : j < len2
            · have h6 : ¬ (((j : Nat) : Int) < 100) := by omega
              have h5 : ((j : Nat) : Int) < ((len2 : Nat) : Int) := by omega
              have hjl3 : j ≤ 200 := by omega
              clear hjl
              have hrl0 := HN.out.1.1.1.wl.2.2
              have HN3 : RowKit.Hid (Tw w wr p F1' g F2' R R ∧ R.length + 0 ≤ 1100) := Lib.hid ⟨HN.out.1, by omega⟩
              clear HN
              go_wp2_with fail
              go_loopw [9] (fun s wx => ∃ k : Nat, k ≤ 1100 ∧ s = .int .i64 (k : Nat) ∧ ∃ F1' F2' R, RowKit.Hid (Tw w wx p F1' g F2' R R ∧ R.length + k ≤ 1100)) (fun s _ => 1100 - (intOf s).toNat)
              case atStart => exact ⟨0, by omega, rfl, _, _, _, HN3⟩
              case round =>
                obtain ⟨k, hk, rfl, F1'', F2'', R', HN⟩ := hrel
                clear HN3
                have hrl := HN.out.1.1.1.wl.2.2
                by_cases hkl : k < 1100
                · have hkI : ((k : Nat) : Int) < 1100 := by omega
                  go_wp2_with fail
                  refine (Pop_ok p F1'' R' wr HN.out.1.1.1).mono ?_
                  rintro e w5 ⟨hc5, he⟩
                  rcases he with ⟨h0, hk5, rfl⟩ | ⟨x, hx, hk5, rfl⟩
                  · subst h0
                    have HN5 := Lib.hid (HN.out.1.prog hc5 hk5)
                    obtain ⟨al, cl, c0, _⟩ := HN5.out.1.2.1.look
                    clear hc5 hk5
                    go_wp2_with fail
                    refine (PLen_any p F1'' [] w5 HN5.out.1.1).mono ?_
                    rintro e w6 ⟨rfl, rfl⟩
                    go_wp2_with fail
                    go_ret
                    exact ⟨rfl, HN5.out.2⟩
                  · have HX := Lib.hid hx
                    have HN5 := Lib.hid (HN.out.1.prog hc5 hk5)
                    clear hc5 hk5 hx
                    go_wp2_with fail
                    refine (RDrop_any x.f g F2'' R' w5 HN5.out.1.2.1 (by omega)).mono ?_
                    rintro e w6 ⟨F3, hc6, hk6, he⟩
                    have HN6 := Lib.hid (HN5.out.ref hc6 hk6)
                    clear hc6 hk6
                    rcases he with ⟨hno, _⟩ | ⟨_, rfl⟩
                    · exact absurd rfl (hno x HX.out.1)
                    go_wp2_with fail
                    have HF := Lib.hid (⟨HN6.out, by have := wo_len HN.out.1.1.1.wl.2.1 HX.out.1; have := HN.out.2; omega⟩ : Tw w w6 p F1'' g F3 (wo x.f R') (wo x.f R') ∧ (wo x.f R').length + (k + 1) ≤ 1100)
                    exact ⟨⟨k + 1, by omega, by simp, F1'', F3, wo x.f R', HF⟩, by simp [intOf]; omega⟩
                · have hkI : ¬ (((k : Nat) : Int) < 1100) := by omega
                  have hR : R' = [] := List.eq_nil_of_length_eq_zero (by have := HN.out.2; omega)
                  subst hR
                  obtain ⟨al, cl, c0, _⟩ := HN.out.1.1.2.1.look
                  go_wp2_with fail
                  refine (PLen_any p F1'' [] wr HN.out.1.1.1).mono ?_
                  rintro e w6 ⟨rfl, rfl⟩
                  go_wp2_with fail
                  go_ret
                  exact ⟨rfl, HN.out.1.2⟩
            · have h5 : ¬ (((j : Nat) : Int) < ((len2 : Nat) : Int)) := by omega
              have hjl3 : j ≤ 200 := by omega
              clear hjl
              have hrl0 := HN.out.1.1.1.wl.2.2
              have HN3 : RowKit.Hid (Tw w wr p F1' g F2' R R ∧ R.length + 0 ≤ 1100) := Lib.hid ⟨HN.out.1, by omega⟩
              clear HN
              go_wp2_with fail
              go_loopw [9] (fun s wx => ∃ k : Nat, k ≤ 1100 ∧ s = .int .i64 (k : Nat) ∧ ∃ F1' F2' R, RowKit.Hid (Tw w wx p F1' g F2' R R ∧ R.length + k ≤ 1100)) (fun s _ => 1100 - (intOf s).toNat)
              case atStart => exact ⟨0, by omega, rfl, _, _, _, HN3⟩
              case round =>
                obtain ⟨k, hk, rfl, F1'', F2'', R', HN⟩ := hrel
                clear HN3
                have hrl := HN.out.1.1.1.wl.2.2
                by_cases hkl : k < 1100
                · have hkI : ((k : Nat) : Int) < 1100 := by omega
                  go_wp2_with fail
                  refine (Pop_ok p F1'' R' wr HN.out.1.1.1).mono ?_
                  rintro e w5 ⟨hc5, he⟩
                  rcases he with ⟨h0, hk5, rfl⟩ | ⟨x, hx, hk5, rfl⟩
                  · subst h0
                    have HN5 := Lib.hid (HN.out.1.prog hc5 hk5)
                    obtain ⟨al, cl, c0, _⟩ := HN5.out.1.2.1.look
                    clear hc5 hk5
                    go_wp2_with fail
                    refine (PLen_any p F1'' [] w5 HN5.out.1.1).mono ?_
                    rintro e w6 ⟨rfl, rfl⟩
                    go_wp2_with fail
                    go_ret
                    exact ⟨rfl, HN5.out.2⟩
                  · have HX := Lib.hid hx
                    have HN5 := Lib.hid (HN.out.1.prog hc5 hk5)
                    clear hc5 hk5 hx
                    go_wp2_with fail
                    refine (RDrop_any x.f g F2'' R' w5 HN5.out.1.2.1 (by omega)).mono ?_
                    rintro e w6 ⟨F3, hc6, hk6, he⟩
                    have HN6 := Lib.hid (HN5.out.ref hc6 hk6)
                    clear hc6 hk6
                    rcases he with ⟨hno, _⟩ | ⟨_, rfl⟩
                    · exact absurd rfl (hno x HX.out.1)
                    go_wp2_with fail
                    have HF := Lib.hid (⟨HN6.out, by have := wo_len HN.out.1.1.1.wl.2.1 HX.out.1; have := HN.out.2; omega⟩ : Tw w w6 p F1'' g F3 (wo x.f R') (wo x.f R') ∧ (wo x.f R').length + (k + 1) ≤ 1100)
                    exact ⟨⟨k + 1, by omega, by simp, F1'', F3, wo x.f R', HF⟩, by simp [intOf]; omega⟩
                · have hkI : ¬ (((k : Nat) : Int) < 1100) := by omega
                  have hR : R' = [] := List.eq_nil_of_length_eq_zero (by have := HN.out.2; omega)
                  subst hR
                  obtain ⟨al, cl, c0, _⟩ := HN.out.1.1.2.1.look
                  go_wp2_with fail
                  refine (PLen_any p F1'' [] wr HN.out.1.1.1).mono ?_
                  rintro e w6 ⟨rfl, rfl⟩
                  go_wp2_with fail
                  go_ret
                  exact ⟨rfl, HN.out.1.2⟩
      · have h5 : ¬ (((i : Nat) : Int) < ((len : Nat) : Int)) := by omega
        have hil3 : i ≤ 200 := by omega
        clear hlt
        have hj0 : RowKit.Hid (Tw w wr p F1 g F2 M M ∧ 0 ≤ 0) := Lib.hid ⟨HM.out, Nat.le_refl _⟩
        clear HM
        go_wp2_with fail
        go_loopw [8] (fun s wx => ∃ j : Nat, j ≤ len2 ∧ j ≤ 100 ∧ s = .int .i64 (j : Nat) ∧ ∃ F1' F2' R, RowKit.Hid (Tw w wx p F1' g F2' R R ∧ 0 ≤ j)) (fun s _ => len2 - (intOf s).toNat)
        case atStart => exact ⟨0, Nat.zero_le _, Nat.zero_le _, rfl, F1, F2, M, hj0⟩
        case round =>
          obtain ⟨j, hj, hj1, rfl, F1', F2', R, HN⟩ := hrel
          clear hj0
          have hrl := HN.out.1.1.1.wl.2.2
          by_cases hjl : j < len2 ∧ j < 100
          · obtain ⟨hjl, hj100⟩ := hjl
            obtain ⟨lb, lo, rfl, e0, hyw⟩ := HY.out.below HN.out.1.2 j hjl
            have h5 : ((j : Nat) : Int) < ((len2 : Nat) : Int) := by omega
            have h6 : ((j : Nat) : Int) < 100 := by omega
            have HN1 : RowKit.Hid (Tw w wr.drew p F1' g F2' R R) := Lib.hid ⟨⟨HN.out.1.1.1.drew, HN.out.1.1.2.1.drew, HN.out.1.1.2.2⟩, HN.out.1.2.drew⟩
            have HYD := Lib.hid (fun (wq : World) (hb : Below w.heap.size w wq) => (HY.out.below hb j hjl))
            go_upto_region 12 with fail
            go_region_with (first | (go_at_call 17; refine (Drop_fn p F1' R (y j) wr.drew HN1.out.1.1 hyw).mono ?_; rintro e w5 ⟨rfl, hc5, hk5⟩; have HN5 := Lib.hid (HN1.out.prog hc5 hk5); obtain ⟨_, _, e1, e0', _⟩ := HYD.out w5 HN5.out.2; cases e1; clear hc5 hk5) | (go_at_call 15; refine (RDrop_fn (y j) g F2' R w5 HN5.out.1.2.1 (by omega)).mono ?_; rintro e w6 ⟨rfl, F3, hc6, hk6⟩; have HN6 := Lib.hid (HN5.out.ref hc6 hk6); clear hc6 hk6))
            all_goals (
              go_wp2_with fail
              have HF := Lib.hid (⟨HN6.out, Nat.zero_le _⟩ : Tw w w6 p F1' g F3 (wo (y j) R) (wo (y j) R) ∧ 0 ≤ j + 1)
              exact ⟨⟨j + 1, hjl, by omega, by simp, F1', F3, wo (y j) R, HF⟩, by simp [intOf]; omega⟩)
          · by_cases hjl2 : j < len2
            · have h6 : ¬ (((j : Nat) : Int) < 100) := by omega
              have h5 : ((j : Nat) : Int) < ((len2 : Nat) : Int) := by omega
              have hjl3 : j ≤ 200 := by omega
              clear hjl
              have hrl0 := HN.out.1.1.1.wl.2.2
              have HN3 : RowKit.Hid (Tw w wr p F1' g F2' R R ∧ R.length + 0 ≤ 1100) := Lib.hid ⟨HN.out.1, by omega⟩
              clear HN
              go_wp2_with fail
              go_loopw [9] (fun s wx => ∃ k : Nat, k ≤ 1100 ∧ s = .int .i64 (k : Nat) ∧ ∃ F1' F2' R, RowKit.Hid (Tw w wx p F1' g F2' R R ∧ R.length + k ≤ 1100)) (fun s _ => 1100 - (intOf s).toNat)
              case atStart => exact ⟨0, by omega, rfl, _, _, _, HN3⟩
              case round =>
                obtain ⟨k, hk, rfl, F1'', F2'', R', HN⟩ := hrel
                clear HN3
                have hrl := HN.out.1.1.1.wl.2.2
                by_cases hkl : k < 1100
                · have hkI : ((k : Nat) : Int) < 1100 := by omega
                  go_wp2_with fail
                  refine (Pop_ok p F1'' R' wr HN.out.1.1.1).mono ?_
                  rintro e w5 ⟨hc5, he⟩
                  rcases he with ⟨h0, hk5, rfl⟩ | ⟨x, hx, hk5, rfl⟩
                  · subst h0
                    have HN5 := Lib.hid (HN.out.1.prog hc5 hk5)
                    obtain ⟨al, cl, c0, _⟩ := HN5.out.1.2.1.look
                    clear hc5 hk5
                    go_wp2_with fail
                    refine (PLen_any p F1'' [] w5 HN5.out.1.1).mono ?_
                    rintro e w6 ⟨rfl, rfl⟩
                    go_wp2_with fail
                    go_ret
                    exact ⟨rfl, HN5.out.2⟩
                  · have HX := Lib.hid hx
                    have HN5 := Lib.hid (HN.out.1.prog hc5 hk5)
                    clear hc5 hk5 hx
                    go_wp2_with fail
                    refine (RDrop_any x.f g F2'' R' w5 HN5.out.1.2.1 (by omega)).mono ?_
                    rintro e w6 ⟨F3, hc6, hk6, he⟩
                    have HN6 := Lib.hid (HN5.out.ref hc6 hk6)
                    clear hc6 hk6
                    rcases he with ⟨hno, _⟩ | ⟨_, rfl⟩
                    · exact absurd rfl (hno x HX.out.1)
                    go_wp2_with fail
                    have HF := Lib.hid (⟨HN6.out, by have := wo_len HN.out.1.1.1.wl.2.1 HX.out.1; have := HN.out.2; omega⟩ : Tw w w6 p F1'' g F3 (wo x.f R') (wo x.f R') ∧ (wo x.f R').length + (k + 1) ≤ 1100)
                    exact ⟨⟨k + 1, by omega, by simp, F1'', F3, wo x.f R', HF⟩, by simp [intOf]; omega⟩
                · have hkI : ¬ (((k : Nat) : Int) < 1100) := by omega
                  have hR : R' = [] := List.eq_nil_of_length_eq_zero (by have := HN.out.2; omega)
                  subst hR
                  obtain ⟨al, cl, c0, _⟩ := HN.out.1.1.2.1.look
                  go_wp2_with fail
                  refine (PLen_any p F1'' [] wr HN.out.1.1.1).mono ?_
                  rintro e w6 ⟨rfl, rfl⟩
                  go_wp2_with fail
                  go_ret
                  exact ⟨rfl, HN.out.1.2⟩
            · have h5 : ¬ (((j : Nat) : Int) < ((len2 : Nat) : Int)) := by omega
              have hjl3 : j ≤ 200 := by omega
              clear hjl
              have hrl0 := HN.out.1.1.1.wl.2.2
              have HN3 : RowKit.Hid (Tw w wr p F1' g F2' R R ∧ R.length + 0 ≤ 1100) := Lib.hid ⟨HN.out.1, by omega⟩
              clear HN
              go_wp2_with fail
              go_loopw [9] (fun s wx => ∃ k : Nat, k ≤ 1100 ∧ s = .int .i64 (k : Nat) ∧ ∃ F1' F2' R, RowKit.Hid (Tw w wx p F1' g F2' R R ∧ R.length + k ≤ 1100)) (fun s _ => 1100 - (intOf s).toNat)
              case atStart => exact ⟨0, by omega, rfl, _, _, _, HN3⟩
              case round =>
                obtain ⟨k, hk, rfl, F1'', F2'', R', HN⟩ := hrel
                clear HN3
                have hrl := HN.out.1.1.1.wl.2.2
                by_cases hkl : k < 1100
                · have hkI : ((k : Nat) : Int) < 1100 := by omega
                  go_wp2_with fail
                  refine (Pop_ok p F1'' R' wr HN.out.1.1.1).mono ?_
                  rintro e w5 ⟨hc5, he⟩
                  rcases he with ⟨h0, hk5, rfl⟩ | ⟨x, hx, hk5, rfl⟩
                  · subst h0
                    have HN5 := Lib.hid (HN.out.1.prog hc5 hk5)
                    obtain ⟨al, cl, c0, _⟩ := HN5.out.1.2.1.look
                    clear hc5 hk5
                    go_wp2_with fail
                    refine (PLen_any p F1'' [] w5 HN5.out.1.1).mono ?_
                    rintro e w6 ⟨rfl, rfl⟩
                    go_wp2_with fail
                    go_ret
                    exact ⟨rfl, HN5.out.2⟩
                  · have HX := Lib.hid hx
                    have HN5 := Lib.hid (HN.out.1.prog hc5 hk5)
                    clear hc5 hk5 hx
                    go_wp2_with fail
                    refine (RDrop_any x.f g F2'' R' w5 HN5.out.1.2.1 (by omega)).mono ?_
                    rintro e w6 ⟨F3, hc6, hk6, he⟩
                    have HN6 := Lib.hid (HN5.out.ref hc6 hk6)
                    clear hc6 hk6
                    rcases he with ⟨hno, _⟩ | ⟨_, rfl⟩
                    · exact absurd rfl (hno x HX.out.1)
                    go_wp2_with fail
                    have HF := Lib.hid (⟨HN6.out, by have := wo_len HN.out.1.1.1.wl.2.1 HX.out.1; have := HN.out.2; omega⟩ : Tw w w6 p F1'' g F3 (wo x.f R') (wo x.f R') ∧ (wo x.f R').length + (k + 1) ≤ 1100)
                    exact ⟨⟨k + 1, by omega, by simp, F1'', F3, wo x.f R', HF⟩, by simp [intOf]; omega⟩
                · have hkI : ¬ (((k : Nat) : Int) < 1100) := by omega
                  have hR : R' = [] := List.eq_nil_of_length_eq_zero (by have := HN.out.2; omega)
                  subst hR
                  obtain ⟨al, cl, c0, _⟩ := HN.out.1.1.2.1.look
                  go_wp2_with fail
                  refine (PLen_any p F1'' [] wr HN.out.1.1.1).mono ?_
                  rintro e w6 ⟨rfl, rfl⟩
                  go_wp2_with fail
                  go_ret
                  exact ⟨rfl, HN.out.1.2⟩

end Go.Proofs.Ytekkblhghbkdiaa

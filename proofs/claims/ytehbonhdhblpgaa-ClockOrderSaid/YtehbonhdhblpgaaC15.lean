/- Parts of the proofs of layer 25 (clock): contracts of its functions, and the laws' walks. -/
import Derived.Test.YtehbonhdhblpgaaProg
import Derived.WalkKit
import Derived.WalkSpells
import Derived.WalkLawsBesides
import Derived.BigQuiet
import Derived.Deep.QuietTactic
import Derived.Lib.Hide
import Derived.Deep.RegionHeld3
import Derived.Deep.DeepCutAuto
import Derived.KernelRfl
import Derived.Deep.OwnRows
import Derived.Laws.CopyOwn
import Derived.Laws.CopyRow
import Derived.StillTailTactics
import Derived.Deep.RegionLaw
import Derived.Test.YtehbonhdhblpgaaC14
namespace Go.Proofs.Ytehbonhdhblpgaa
open Go.RowKit
set_option linter.unusedVariables false
set_option linter.unusedSimpArgs false

set_option maxRecDepth 100000 in
set_option maxHeartbeats 4000000 in
theorem roldest_any (g : Nat) (F : List Nat) (L : List K) (h : Nat) (w : World) (r : RC w g F L h) (hm : L.length ≤ 1000) :
    Calls Try.prog 22 #[.pointer (some ⟨g, 0, none⟩)] w fun e w' => e = .returned (ores (rot L h)) ∧ Below w.heap.size w w' := by
  have hb0 : Below w.heap.size w (w.alloc (.cells #[.int .i64 0, .int .i64 0] 24)) := (Below.refl _ w).alloc (Nat.le_refl _) _
  have hX := heap_alloc_new w (.cells #[.int .i64 0, .int .i64 0] 24)
  obtain ⟨v, rfl, h1, h2, h3, h4⟩ := r.below hb0
  clear r
  obtain ⟨ao, cap, rfl, hnc, hcm⟩ := h3.slice
  go_enter Try.func22, Try.ntmps22
  go_upto_region 1 with fail
  generalize w.alloc (.cells #[.int .i64 0, .int .i64 0] 24) = w0 at *
  have c0 := cell_of_row w0 g 0 _ 42 _ h2
  have c1 := cell_of_row w0 g 1 _ 42 _ h2
  replace c0 : w0.cell? ⟨g, 0, none⟩ = some (.slice ao L.length cap) := c0
  replace c1 : w0.cell? ⟨g, 1, none⟩ = some (.int .i64 (h : Nat)) := c1
  have d0 : w0.cell? ⟨w.heap.size, 0, none⟩ = some (.int .i64 0) := cell_of_row w0 w.heap.size 0 _ 24 _ hX
  have d1 : w0.cell? ⟨w.heap.size, 1, none⟩ = some (.int .i64 0) := cell_of_row w0 w.heap.size 1 _ 24 _ hX
  have f0 : w0.frozen? ⟨w.heap.size, 0, none⟩ = false := frozen_of_row w0 w.heap.size 0 _ 24 hX
  have f1 : w0.frozen? ⟨w.heap.size, 1, none⟩ = false := frozen_of_row w0 w.heap.size 1 _ 24 hX
  have HB := Lib.hid hb0
  clear hX h2 hb0
  obtain ⟨N, hN⟩ : ∃ N, L.length = N := ⟨_, rfl⟩
  have HN := Lib.hid hN
  rw [hN] at c0 hm hnc h4 h3
  clear hN
  by_cases hn0 : N = 0
  · subst hn0
    have hL : L = [] := List.eq_nil_of_length_eq_zero HN.out
    have HL := Lib.hid hL
    clear hL
    go_wp2_with fail
    refine bodyPost_ret (v := .tuple #[.agg #[.int .i64 0, .int .i64 0], .int .i64 6]) (by simp [results, Try.results22, go_sem, d0, d1]) rfl ⟨?_, ?_⟩
    · rw [HL.out]; simp [rot, ores]
    · exact (HB.out.setCell (Nat.le_refl _) _).setCell (Nat.le_refl _) _
  · have hhN : h < N := by
      rcases h4 with h4 | ⟨rfl, _⟩
      · exact h4
      · have := HN.out; simp at this; omega
    have hnz : ((N : Int) == 0) = false := by rw [beq_eq_false_iff_ne]; omega
    have hk00 := List.getElem?_eq_getElem (show h < L.length by rw [HN.out]; exact hhN)
    generalize L[h]'(by rw [HN.out]; exact hhN) = k0 at hk00
    rcases h3.cases with ⟨_, h0⟩ | ⟨b, cap', hv, _, _, hbl, hcell, _⟩
    · omega
    · cases hv
      have HCL := Lib.hid hcell
      clear hcell h3
      go_wp2_with fail
      go_loopw [4, 5] (fun bs s wr => ∃ (i B q : Nat) (m : K), i ≤ N ∧ B < N ∧ s = .int .i64 (i : Nat) ∧ bs = .int .i64 (B : Nat) ∧ wr = w0.drewN q ∧ RowKit.Hid (L[B]? = some m ∧ m = oldest ((rot L h).take i) k0)) (fun _ s _ => N - (intOf s).toNat)
      case atStart => exact ⟨0, h, 0, k0, Nat.zero_le _, hhN, rfl, rfl, rfl, Lib.hid ⟨hk00, rfl⟩⟩
      case round =>
        obtain ⟨i, B, q, m, hi, hB, rfl, rfl, rfl, HM⟩ := hrel
        by_cases hlt : i < N
        · have hk0 := rot_get L h i (by rw [HN.out]; exact hhN) (by rw [HN.out]; exact hlt)
          rw [HN.out] at hk0
          obtain ⟨P, hP⟩ : ∃ P, (h + i) % N = P := ⟨_, rfl⟩
          have hPN : P < N := by rw [← hP]; exact Nat.mod_lt _ (by omega)
          have hk := List.getElem?_eq_getElem (show P < L.length by rw [HN.out]; exact hPN)
          generalize L[P]'(by rw [HN.out]; exact hPN) = k at hk
          rw [hP, hk] at hk0
          have e3 := HCL.out _ _ (kc_get L P k hk).2.2.2
          have m3 := HCL.out _ _ (kc_get L B m HM.out.1).2.2.2
          have hw1 : IntKind.i64.wrap ((h : Int) + (i : Int)) = (h : Int) + (i : Int) := by rw [IntKind.wrap_i64]; omega
          have hm1 : ((h : Int) + (i : Int)).tmod (N : Int) = (P : Nat) := by rw [tmod_int, hP]
          have hm2 : ((h : Int) + (i : Int)) % (N : Int) = (P : Nat) := by rw [mod_int, hP]
          have hPI : ((P : Nat) : Int) < ((N : Nat) : Int) := by omega
          have hBI : ((B : Nat) : Int) < ((N : Nat) : Int) := by omega
          have HS : RowKit.Hid (∀ q', q' = older m k → q' = oldest ((rot L h).take (i + 1)) k0) := Lib.hid (by
            rintro q' rfl
            rw [take_succ' _ _ _ hk0, oldest, List.foldl_append]
            have := HM.out.2
            subst this
            rfl)
          have HK := Lib.hid hk
          clear hk hk0 hP
          by_cases hold : m.a < k.a
          · have ho : older m k = k := if_pos hold
            have HO := Lib.hid ho
            clear ho
            go_wp2_with fail
            go_quiet (fail)
            go_wp2_with fail
            go_quiet (fail)
            go_wp2_with fail
            exact ⟨⟨i + 1, P, _, k, hlt, hPN, by simp, rfl, rfl, Lib.hid ⟨HK.out, HS.out _ HO.out.symm⟩⟩, by simp [intOf]; omega⟩
          · have ho : older m k = m := if_neg hold
            have HO := Lib.hid ho
            clear ho
            go_wp2_with fail
            go_quiet (fail)
            go_wp2_with fail
            go_quiet (fail)
            go_wp2_with fail
            exact ⟨⟨i + 1, B, _, m, hlt, hB, by simp, rfl, rfl, Lib.hid ⟨HM.out.1, HS.out _ HO.out.symm⟩⟩, by simp [intOf]; omega⟩
        · have hi2 : i = N := by omega
          subst hi2
          obtain ⟨m0, m1, m2, m3⟩ := kc_get L B m HM.out.1
          have e0 := HCL.out _ _ m0
          have e1 := HCL.out _ _ m1
          have hBI : ((B : Nat) : Int) < ((i : Nat) : Int) := by omega
          clear m0 m1 m2 m3
          go_wp2_with fail
          refine bodyPost_ret (v := .tuple #[.agg #[.int .i64 m.s, .int .i64 m.p], .int .i64 0]) (by simp [results, Try.results22, go_sem, d0, d1]) rfl ⟨?_, ?_⟩
          · have e := HM.out.2
            rw [List.take_of_length_le (by rw [rot_length, HN.out]; exact Nat.le_refl _)] at e
            have hr0 := rot_get L h 0 (by rw [HN.out]; exact hhN) (by rw [HN.out]; omega)
            rw [HN.out, Nat.add_zero, Nat.mod_eq_of_lt hhN, hk00] at hr0
            cases hro : rot L h with
            | nil => rw [hro] at hr0; simp at hr0
            | cons a l =>
              rw [hro] at hr0 e
              simp at hr0
              subst hr0
              subst e
              rfl
          · exact ((below_drewN HB.out _).setCell (Nat.le_refl _) _).setCell (Nat.le_refl _) _

end Go.Proofs.Ytehbonhdhblpgaa

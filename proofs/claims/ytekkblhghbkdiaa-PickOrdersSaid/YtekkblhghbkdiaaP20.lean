/- Parts of the proofs of layer 6 (pick): contracts of its functions, and the laws' walks. -/
import Derived.Test.YtekkblhghbkdiaaProg
import Derived.WalkKit
import Derived.WalkSpells
import Derived.WalkLawsBesides
import Derived.BigQuiet
import Derived.Deep.QuietTactic
import Derived.Lib.Hide
import Derived.Deep.RegionHeld3
import Derived.Deep.DeepCutAuto
import Derived.KernelRfl
import Derived.Deep.OwnRows
import Derived.Laws.CopyOwn
import Derived.Laws.CopyRow
import Derived.StillTailTactics
import Derived.Deep.RegionLaw
import Derived.Test.YtekkblhghbkdiaaP19
namespace Go.Proofs.Ytekkblhghbkdiaa
open Go.RowKit
set_option linter.unusedVariables false
set_option linter.unusedSimpArgs false

theorem pw_eq {M : List E} (h : M.Pairwise fun a b => a.f ≠ b.f) {x y : E} (hx : x ∈ M) (hy : y ∈ M) (he : x.f = y.f) : x = y := by
  rw [List.pairwise_iff_getElem] at h
  obtain ⟨i, hi, rfl⟩ := List.mem_iff_getElem.1 hx
  obtain ⟨j, hj, rfl⟩ := List.mem_iff_getElem.1 hy
  rcases Nat.lt_trichotomy i j with hij | rfl | hij
  · exact absurd he (h i j hi hj hij)
  · rfl
  · exact absurd he.symm (h j i hj hi hij)
set_option maxHeartbeats 8000000 in
theorem least_law (ao : Option Addr) (len cap : Nat) (z : Nat → Nat → Int) (w : World) (hlc : len ≤ cap) (hcm : cap ≤ maxLen) (hA : Acts w ao len z) : Calls Try.prog 8 #[.slice ao len cap] w fun e w' => e = .returned (.bool true) ∧ Below w.heap.size w w' := by
  have HA := Lib.hid hA
  have hlen : len ≤ 9223372036854775807 := by unfold maxLen at hcm; omega
  clear hA
  go_enter Try.func8, Try.ntmps8
  go_wp2_with fail
  refine (New_any w).mono ?_
  rintro e w1 ⟨p, F1, rfl, hc1, hk1⟩
  have HI := Lib.hid (tw_start hc1 hk1)
  clear hc1 hk1
  go_upto_region 2 with fail
  generalize w1.alloc (.cells #[.slice none 0 0] 28) = w2 at *
  generalize w1.heap.size = g at *
  go_wp2_with fail
  refine (awake_any w2).mono ?_
  rintro e w3 ⟨rfl, hb3⟩
  have HT := Lib.hid (HI.out.keep hb3)
  clear hb3 HI
  go_wp2_with fail
  go_loopw [5] (fun s wr => ∃ i F1 F2 M, i ≤ len ∧ i ≤ 150 ∧ s = .int .i64 (i : Nat) ∧ RowKit.Hid (Tw w wr p F1 g F2 M M)) (fun s _ => len - (intOf s).toNat)
  case atStart => exact ⟨0, _, _, _, Nat.zero_le _, Nat.zero_le _, rfl, HT⟩
  case round =>
    obtain ⟨i, F1, F2, M, hi, hil, rfl, HM⟩ := hrel
    by_cases hlt : i < len ∧ i < 150
    · obtain ⟨hlt, h80⟩ := hlt
      obtain ⟨lb, lo, rfl, e0, e1, e2, _⟩ := HA.out.below HM.out.2 i hlt
      have h5 : ((i : Nat) : Int) < ((len : Nat) : Int) := by omega
      have h6 : ((i : Nat) : Int) < 150 := by omega
      have HC := Lib.hid (And.intro e1 e2)
      clear e0
      go_upto_region 7 with fail
      go_still_tail 11, (by kernel_rfl)
      change wpList _ _ _ _ _ (World.drew _)
      go_wp2_with fail
      refine (Put_any p F1 M ⟨z i 1, z i 2⟩ wr.drew HM.out.1.1.drew).mono ?_
      rintro e w5 ⟨rfl, F1', hc5, hk5⟩
      have HM5 := Lib.hid (HM.out.prog hc5.drew' hk5)
      clear hc5 hk5 e1 e2
      obtain ⟨lb', lo', e', e0, e1, e2, _⟩ := HA.out.below HM5.out.2 i hlt
      cases e'
      clear e0
      go_upto_region 8 with fail
      go_still_tail 11, (by kernel_rfl)
      change wpList _ _ _ _ _ (World.drew _)
      go_wp2_with fail
      refine (RPut_any ⟨z i 1, z i 2⟩ g F2 M w5.drew HM5.out.1.2.1.drew (by have := HM.out.1.1.wl.2.2; omega) HM.out.1.1.wl.2.1).mono ?_
      rintro e w6 ⟨rfl, F2', hc6, M', hk6, hp6⟩
      have HM6 := Lib.hid ((HM5.out.ref hc6.drew' hk6).left (hp6.symm))
      clear hc6 hk6 hp6 e1 e2
      go_wp2_with fail
      exact ⟨⟨i + 1, F1', F2', M', hlt, h80, by simp, HM6⟩, by simp [intOf]; omega⟩
    · by_cases hil2 : i < len
      · have h6 : ¬ (((i : Nat) : Int) < 150) := by omega
        have h5 : ((i : Nat) : Int) < ((len : Nat) : Int) := by omega
        have hil3 : i ≤ 200 := by omega
        clear hlt
        go_wp2_with fail
        refine (First_any p F1 M wr HM.out.1.1).mono ?_
        rintro e w4 ⟨hb4, he⟩
        have HM4 := Lib.hid (HM.out.keep hb4)
        clear hb4 HM
        obtain ⟨al, cl, c0, _⟩ := HM4.out.1.2.1.look
        rcases he with ⟨rfl, rfl⟩ | ⟨x, hx, rfl⟩
        · go_wp2_with fail
          go_ret
          exact ⟨rfl, HM4.out.2⟩
        · have HX := Lib.hid hx
          have hne : ((M.length : Nat) : Int) ≠ 0 := by
            have := List.length_pos_of_mem hx.1
            omega
          clear hx
          go_wp2_with fail
          clear c0 hne
          go_loopw [9] (fun s wx => ∃ j, j ≤ M.length ∧ s = .int .i64 (j : Nat) ∧ RowKit.Hid (Tw w wx p F1 g F2 M M ∧ 0 ≤ j)) (fun s _ => M.length - (intOf s).toNat)
          case atStart => exact ⟨0, Nat.zero_le _, rfl, Lib.hid ⟨HM4.out, Nat.zero_le _⟩⟩
          case round =>
            obtain ⟨j, hj, rfl, HN⟩ := hrel
            obtain ⟨al, cl, c0, hT⟩ := HN.out.1.1.2.1.look
            have hml := HN.out.1.1.1.wl.2.2
            by_cases hjl : j < M.length
            · obtain ⟨bl, cl2, hv, _, _, hbl, hcell, _⟩ := hT.read (ne_nil_of_lt hjl)
              cases hv
              have hk := List.getElem?_eq_getElem hjl
              generalize M[j] = k at hk
              obtain ⟨e0, e1⟩ := hcell j _ hk
              have hjI : ((j : Nat) : Int) < ((M.length : Nat) : Int) := by omega
              have HK := Lib.hid (HX.out.2 k (List.mem_of_getElem? hk))
              have hA : Below wr.heap.size wr (wr.alloc (.cells #[.int .i64 k.f, .int .i64 k.w] 41)) := (Below.refl _ _).alloc (Nat.le_refl _) _
              have HN2 := Lib.hid (HN.out.1.keep hA)
              have hz := heap_alloc_new wr (.cells #[.int .i64 k.f, .int .i64 k.w] 41)
              clear hcell hk hbl hT hA HN
              go_upto_region 16 with fail
              clear c0 e0 e1
              have x0 : (wr.alloc (.cells #[.int .i64 k.f, .int .i64 k.w] 41)).cell? ⟨wr.heap.size, 0, none⟩ = some (.int .i64 k.f) := cell_of_row _ wr.heap.size 0 _ 41 _ hz
              have x1 : (wr.alloc (.cells #[.int .i64 k.f, .int .i64 k.w] 41)).cell? ⟨wr.heap.size, 1, none⟩ = some (.int .i64 k.w) := cell_of_row _ wr.heap.size 1 _ 41 _ hz
              clear hz
              generalize wr.alloc (.cells #[.int .i64 k.f, .int .i64 k.w] 41) = w5 at *
              generalize wr.heap.size = C at *
              have m1 : ¬ (k.w < x.w) := fun h => HK.out (.inl h)
              by_cases m2 : k.w = x.w
              · have m3 : ¬ (k.f < x.f) := fun h => HK.out (.inr ⟨m2, h⟩)
                go_wp2_with fail
                first | exact ⟨⟨j + 1, hjl, by simp, Lib.hid ⟨HN2.out, Nat.zero_le _⟩⟩, by simp [intOf]; omega⟩ | exact ⟨⟨j + 1, hjl, by simp⟩, by simp [intOf]; omega⟩
              · go_wp2_with fail
                first | exact ⟨⟨j + 1, hjl, by simp, Lib.hid ⟨HN2.out, Nat.zero_le _⟩⟩, by simp [intOf]; omega⟩ | exact ⟨⟨j + 1, hjl, by simp⟩, by simp [intOf]; omega⟩
            · have hjI : ¬ (((j : Nat) : Int) < ((M.length : Nat) : Int)) := by omega
              clear hT
              go_wp2_with fail
              refine (Worth_any p F1 M x.f wr HN.out.1.1.1 (wf_of (HN.out.1.1.1.wl.1 x HX.out.1))).mono ?_
              rintro e w5 ⟨hb5, he⟩
              have HN5 := Lib.hid (HN.out.1.keep hb5)
              clear hb5 c0
              rcases he with ⟨hno, _⟩ | ⟨y, hy, hyf, rfl⟩
              · exact absurd rfl (hno x HX.out.1)
              obtain rfl : y = x := pw_eq HN5.out.1.1.wl.2.1 hy HX.out.1 hyf
              clear hy hyf
              go_wp2_with fail
              refine (RAt_any y.f g F2 M w5 HN5.out.1.2.1 (by omega)).mono ?_
              rintro e w6 ⟨rfl, he⟩
              rcases he with ⟨hno, _⟩ | ⟨i2, y2, hy2, _, rfl⟩
              · exact absurd rfl (hno y HX.out.1)
              have hi2 : (0 : Int) ≤ ((i2 : Nat) : Int) := by omega
              clear hy2
              go_wp2_with fail
              go_ret
              exact ⟨rfl, HN5.out.2⟩
      · have h5 : ¬ (((i : Nat) : Int) < ((len : Nat) : Int)) := by omega
        have hil3 : i ≤ 200 := by omega
        clear hlt
        go_wp2_with fail
        refine (First_any p F1 M wr HM.out.1.1).mono ?_
        rintro e w4 ⟨hb4, he⟩
        have HM4 := Lib.hid (HM.out.keep hb4)
        clear hb4 HM
        obtain ⟨al, cl, c0, _⟩ := HM4.out.1.2.1.look
        rcases he with ⟨rfl, rfl⟩ | ⟨x, hx, rfl⟩
        · go_wp2_with fail
          go_ret
          exact ⟨rfl, HM4.out.2⟩
        · have HX := Lib.hid hx
          have hne : ((M.length : Nat) : Int) ≠ 0 := by
            have := List.length_pos_of_mem hx.1
            omega
          clear hx
          go_wp2_with fail
          clear c0 hne
          go_loopw [9] (fun s wx => ∃ j, j ≤ M.length ∧ s = .int .i64 (j : Nat) ∧ RowKit.Hid (Tw w wx p F1 g F2 M M ∧ 0 ≤ j)) (fun s _ => M.length - (intOf s).toNat)
          case atStart => exact ⟨0, Nat.zero_le _, rfl, Lib.hid ⟨HM4.out, Nat.zero_le _⟩⟩
          case round =>
            obtain ⟨j, hj, rfl, HN⟩ := hrel
            obtain ⟨al, cl, c0, hT⟩ := HN.out.1.1.2.1.look
            have hml := HN.out.1.1.1.wl.2.2
            by_cases hjl : j < M.length
            · obtain ⟨bl, cl2, hv, _, _, hbl, hcell, _⟩ := hT.read (ne_nil_of_lt hjl)
              cases hv
              have hk := List.getElem?_eq_getElem hjl
              generalize M[j] = k at hk
              obtain ⟨e0, e1⟩ := hcell j _ hk
              have hjI : ((j : Nat) : Int) < ((M.length : Nat) : Int) := by omega
              have HK := Lib.hid (HX.out.2 k (List.mem_of_getElem? hk))
              have hA : Below wr.heap.size wr (wr.alloc (.cells #[.int .i64 k.f, .int .i64 k.w] 41)) := (Below.refl _ _).alloc (Nat.le_refl _) _
              have HN2 := Lib.hid (HN.out.1.keep hA)
              have hz := heap_alloc_new wr (.cells #[.int .i64 k.f, .int .i64 k.w] 41)
              clear hcell hk hbl hT hA HN
              go_upto_region 16 with fail
              clear c0 e0 e1
              have x0 : (wr.alloc (.cells #[.int .i64 k.f, .int .i64 k.w] 41)).cell? ⟨wr.heap.size, 0, none⟩ = some (.int .i64 k.f) := cell_of_row _ wr.heap.size 0 _ 41 _ hz
              have x1 : (wr.alloc (.cells #[.int .i64 k.f, .int .i64 k.w] 41)).cell? ⟨wr.heap.size, 1, none⟩ = some (.int .i64 k.w) := cell_of_row _ wr.heap.size 1 _ 41 _ hz
              clear hz
              generalize wr.alloc (.cells #[.int .i64 k.f, .int .i64 k.w] 41) = w5 at *
              generalize wr.heap.size = C at *
              have m1 : ¬ (k.w < x.w) := fun h => HK.out (.inl h)
              by_cases m2 : k.w = x.w
              · have m3 : ¬ (k.f < x.f) := fun h => HK.out (.inr ⟨m2, h⟩)
                go_wp2_with fail
                first | exact ⟨⟨j + 1, hjl, by simp, Lib.hid ⟨HN2.out, Nat.zero_le _⟩⟩, by simp [intOf]; omega⟩ | exact ⟨⟨j + 1, hjl, by simp⟩, by simp [intOf]; omega⟩
              · go_wp2_with fail
                first | exact ⟨⟨j + 1, hjl, by simp, Lib.hid ⟨HN2.out, Nat.zero_le _⟩⟩, by simp [intOf]; omega⟩ | exact ⟨⟨j + 1, hjl, by simp⟩, by simp [intOf]; omega⟩
            · have hjI : ¬ (((j : Nat) : Int) < ((M.length : Nat) : Int)) := by omega
              clear hT
              go_wp2_with fail
              refine (Worth_any p F1 M x.f wr HN.out.1.1.1 (wf_of (HN.out.1.1.1.wl.1 x HX.out.1))).mono ?_
              rintro e w5 ⟨hb5, he⟩
              have HN5 := Lib.hid (HN.out.1.keep hb5)
              clear hb5 c0
              rcases he with ⟨hno, _⟩ | ⟨y, hy, hyf, rfl⟩
              · exact absurd rfl (hno x HX.out.1)
              obtain rfl : y = x := pw_eq HN5.out.1.1.wl.2.1 hy HX.out.1 hyf
              clear hy hyf
              go_wp2_with fail
              refine (RAt_any y.f g F2 M w5 HN5.out.1.2.1 (by omega)).mono ?_
              rintro e w6 ⟨rfl, he⟩
              rcases he with ⟨hno, _⟩ | ⟨i2, y2, hy2, _, rfl⟩
              · exact absurd rfl (hno y HX.out.1)
              have hi2 : (0 : Int) ≤ ((i2 : Nat) : Int) := by omega
              clear hy2
              go_wp2_with fail
              go_ret
              exact ⟨rfl, HN5.out.2⟩

end Go.Proofs.Ytekkblhghbkdiaa

/- Parts of the proofs of layer 3 (geo): contracts of its functions, and the laws' walks. -/
import Derived.Test.YtnpcpgjaffpnjaaProg
import Derived.WalkKit
import Derived.WalkSpells
import Derived.WalkLawsBesides
import Derived.BigQuiet
import Derived.Deep.QuietTactic
import Derived.Lib.Hide
import Derived.Deep.RegionHeld3
import Derived.Deep.DeepCutAuto
import Derived.KernelRfl
import Derived.Test.YtnpcpgjaffpnjaaG5
namespace Go.Proofs.Ytnpcpgjaffpnjaa
open Go.RowKit
set_option linter.unusedVariables false
set_option linter.unusedSimpArgs false

theorem kk_up (a n most k : Int) (hn : 1 ≤ n) (hm0 : 0 ≤ most) (hm1 : most ≤ 8) (h0 : k = 0 ∨ k = 3 ∨ k = 6) (hkk : k ≤ kk a n most) :
    (k + 3 ≤ most → evn a (k + 3) = true → siz (k + 3) ≤ n → k + 3 ≤ kk a n most ∧ k ≤ 3) ∧ (most < k + 3 ∨ evn a (k + 3) = false ∨ n < siz (k + 3) → kk a n most = k) := by
  obtain ⟨t0, _, _, t3, _, _, t6, _, _⟩ := two_vals
  have e3 : evn a 3 = decide (a % 8 = 0) := by simp [evn, ord, t3]; rfl
  have e6 : evn a 6 = decide (a % 64 = 0) := by simp [evn, ord, t6]; rfl
  have s3 : siz 3 = 8 := by decide
  have s6 : siz 6 = 64 := by decide
  rcases h0 with rfl | rfl | rfl
  · rw [show (0 : Int) + 3 = 3 from rfl, e3, s3]
    unfold kk at hkk ⊢
    refine ⟨fun h1 h2 h3 => ?_, fun h => ?_⟩
    · have h8 : a % 8 = 0 := by simpa using h2
      split
      · omega
      · rw [if_pos ⟨h1, h8, h3⟩]; omega
    · have h8 : ¬ (3 ≤ most ∧ a % 8 = 0 ∧ 8 ≤ n) := by
        rcases h with h | h | h
        · omega
        · have : ¬ a % 8 = 0 := by simpa using h
          omega
        · omega
      rw [if_neg (by omega), if_neg h8]
  · rw [show (3 : Int) + 3 = 6 from rfl, e6, s6]
    unfold kk at hkk ⊢
    refine ⟨fun h1 h2 h3 => ?_, fun h => ?_⟩
    · have h8 : a % 64 = 0 := by simpa using h2
      rw [if_pos ⟨h1, h8, h3⟩]; omega
    · have h8 : ¬ (6 ≤ most ∧ a % 64 = 0 ∧ 64 ≤ n) := by
        rcases h with h | h | h
        · omega
        · have : ¬ a % 64 = 0 := by simpa using h
          omega
        · omega
      rw [if_neg h8] at hkk ⊢
      split at hkk
      · rename_i h3; rw [if_pos h3]
      · omega
  · have hle := kk_le a n most hm0
    exact ⟨fun h => by omega, fun _ => by omega⟩
theorem siz_two (k : Int) (h0 : k = 0 ∨ k = 3 ∨ k = 6) : siz k = two k := by rcases h0 with rfl | rfl | rfl <;> rfl
theorem blk_cells (w : World) (p : Int × Int) (t : TypeId) : ∀ (j : Nat) u, (blk p)[j]? = some u → (w.alloc (.cells #[.int .i64 p.1, .int .i64 p.2] t)).cell? ((⟨w.heap.size, 0, none⟩ : Addr).add j) = some u := by
  intro j u hj
  match j, hj with
  | 0, hj => simp [blk] at hj; subst hj; simp [Addr.add]
  | 1, hj => simp [blk] at hj; subst hj; simp [Addr.add]
  | j + 2, hj => simp [blk] at hj
theorem blk_one (p : Int × Int) : ∀ u ∈ blk p, u.oneCell' = true := by intro u hu; simp [blk] at hu; rcases hu with rfl | rfl <;> rfl
set_option maxHeartbeats 8000000 in
theorem rcut_any (at_ n most : Int) (w : World) (hr : rgt at_ n 0 = 0) (ho : ord most = true) (h0 : 1 ≤ at_) (h1 : 1 ≤ n) (h2 : at_ + n ≤ 4096) :
    Calls Try.prog 23 #[.int .i64 at_, .int .i64 n, .int .i64 most] w fun e w' => ∃ v, e = .returned v ∧ RV w' 2 v (cuts most 4096 at_ n).length (blks (cuts most 4096 at_ n)) ∧ Below w.heap.size w w' := by
  have hm : 0 ≤ most ∧ most ≤ 8 := by simpa [ord] using ho
  obtain ⟨hm0, hm1⟩ := hm
  obtain ⟨hs0, hs1⟩ := siz_range most ho
  have k0 : (rgt at_ n 0 != 0) = false := by rw [hr]; rfl
  have k1 : (siz most == 0) = false := by rw [beq_eq_false_iff_ne]; omega
  clear hr
  obtain ⟨i0, hi, hz0, hz1, hz2⟩ := info_parts info41
  go_enter Try.func23, Try.ntmps23
  go_wp2_with (first | (go_at_call 20; refine (rright_any _ _ _ _ (by omega) (by omega) (by omega) (by omega)).mono ?_; rintro e w1 ⟨rfl, rfl⟩) | (go_at_call 25; refine (size_any _ _).mono ?_; rintro e w1 ⟨rfl, rfl⟩))
  go_loopw [0, 1, 7] (fun s0 s1 s7 wr => ∃ (l : List (Int × Int)) (a : Int), s0 = .int .i64 a ∧ s1 = .int .i64 (at_ + n - a) ∧ at_ ≤ a ∧ a ≤ at_ + n ∧ RowKit.Hid ((l.length : Int) ≤ a - at_) ∧ wr.ownsRow w.heap.size 41 2 s7 l.length (blks l) ∧ RowKit.Hid (l ++ cuts most 4096 a (at_ + n - a) = cuts most 4096 at_ n) ∧ Below w.heap.size w wr) (fun s0 _ _ _ => (at_ + n - intOf s0).toNat)
  case atStart => exact ⟨[], at_, rfl, by rw [show at_ + n - at_ = n from by omega], by omega, by omega, Lib.hid (by simp), World.ownsRow_nil _ _ _ _, Lib.hid (by rw [show at_ + n - at_ = n from by omega]; rfl), Below.refl _ _⟩
  case round =>
    obtain ⟨l, a, rfl, rfl, ha0, ha1, HL, hown, HC, hbl⟩ := hrel
    have hsz := hbl.size
    by_cases hlt : a < at_ + n
    · have hkl := kk_cases a (at_ + n - a) most (by omega)
      have HKL := Lib.hid hkl
      clear hkl
      go_wp2_with fail
      go_loop [8] (fun s => ∃ k : Int, s = .int .i64 k ∧ RowKit.Hid (k = 0 ∨ k = 3 ∨ k = 6) ∧ (0 ≤ k ∧ k ≤ 6) ∧ RowKit.Hid (k ≤ kk a (at_ + n - a) most)) (fun s => (6 - intOf s).toNat)
      case atStart => exact ⟨0, rfl, Lib.hid (.inl rfl), by omega, Lib.hid (by rcases HKL.out.1 with h | h | h <;> omega)⟩
      case round =>
        obtain ⟨k, rfl, H3, hk6, HKK⟩ := hrel
        obtain ⟨hk0, hk6⟩ := hk6
        have HS := Lib.hid (kk_up a (at_ + n - a) most k (by omega) hm0 hm1 H3.out HKK.out)
        by_cases hd : k + 3 ≤ most ∧ evn a (k + 3) = true ∧ siz (k + 3) ≤ at_ + n - a
        · obtain ⟨d1, d2, d3⟩ := hd
          have HE := Lib.hid (HS.out.1 d1 d2 d3)
          have hk3 : k ≤ 3 := HE.out.2
          go_wp2_with (first | (go_at_call 18; refine (reven_any _ _ _ (by omega) (by omega)).mono ?_; rintro e w1 ⟨rfl, rfl⟩) | (go_at_call 25; refine (size_any _ _).mono ?_; rintro e w1 ⟨rfl, rfl⟩))
          go_round
          case rel => exact ⟨k + 3, rfl, Lib.hid (by have := H3.out; omega), by omega, Lib.hid HE.out.1⟩
          case measure => simp [intOf]; omega
        · have HE := Lib.hid (HS.out.2 (by
            by_cases h1 : k + 3 ≤ most
            · by_cases h2 : evn a (k + 3) = true
              · exact .inr (.inr (by
                  rcases Int.lt_or_le (at_ + n - a) (siz (k + 3)) with h | h
                  · exact h
                  · exact absurd ⟨h1, h2, h⟩ hd))
              · exact .inr (.inl (by simpa using h2))
            · exact .inl (by omega)))
          have hsz2 : siz k = two k := siz_two k H3.out
          have h1k := two_pos k
          have hkn : two k ≤ at_ + n - a := by have h := HKL.out.2.1; rw [HE.out] at h; exact h
          have hll : l.length ≤ 4096 := by have := HL.out; omega
          have HB1 := Lib.hid (hbl.alloc hsz (.cells #[.int .i64 a, .int .i64 k] 41))
          have hc3 : most < k + 3 ∨ (k + 3 ≤ most ∧ evn a (k + 3) = false) ∨ (k + 3 ≤ most ∧ evn a (k + 3) = true ∧ at_ + n - a < siz (k + 3)) := by
            by_cases h1 : k + 3 ≤ most
            · by_cases h2 : evn a (k + 3) = true
              · exact .inr (.inr ⟨h1, h2, by
                  rcases Int.lt_or_le (at_ + n - a) (siz (k + 3)) with h | h
                  · exact h
                  · exact absurd ⟨h1, h2, h⟩ hd⟩)
              · exact .inr (.inl ⟨h1, by simpa using h2⟩)
            · exact .inl (by omega)
          clear hd
          rcases hc3 with hc3 | hc3 | hc3
          · go_wp2_with (first | (go_at_call 18; refine (reven_any _ _ _ (by omega) (by omega)).mono ?_; rintro e w1 ⟨rfl, rfl⟩) | (go_at_call 25; refine (size_any _ _).mono ?_; rintro e w1 ⟨rfl, rfl⟩) | (at_builtin; refine wpList_append_own _ rfl (.tmp 39) (.tmp 43) 38 rfl w.heap.size 41 i0 (.agg #[.int .i64 0, .int .i64 0]) 2 16 Try.underlying38 hi hz0 hz1 hz2 rfl (by decide) _ _ _ rfl (hown.alloc _) ⟨wr.heap.size, 0, none⟩ 1 1 (blk (a, k)) rfl rfl (blk_cells wr (a, k) 41) (blk_one (a, k)) (by unfold maxLen; omega) (by omega) (by simp; omega) ?_; intro v' w1 hown1 hg1 hnil; have hbl1 := HB1.out.grown hg1 (by simp; omega) (fun q hq => (hown.lt q hq).1); clear hnil hg1))
            go_roundw
            case rel => exact ⟨l ++ [(a, k)], a + two k, rfl, by rw [show at_ + n - (a + two k) = at_ + n - a - two k from by omega], by omega, by omega, Lib.hid (by simp; have := HL.out; omega), by rw [blks_snoc, List.length_append, List.length_singleton]; exact hown1, Lib.hid (cuts_next HC.out HE.out (by omega) (by omega)), hbl1⟩
            case measure => simp [intOf]; omega
          · obtain ⟨hc3, hc4⟩ := hc3
            go_wp2_with (first | (go_at_call 18; refine (reven_any _ _ _ (by omega) (by omega)).mono ?_; rintro e w1 ⟨rfl, rfl⟩) | (go_at_call 25; refine (size_any _ _).mono ?_; rintro e w1 ⟨rfl, rfl⟩) | (at_builtin; refine wpList_append_own _ rfl (.tmp 39) (.tmp 43) 38 rfl w.heap.size 41 i0 (.agg #[.int .i64 0, .int .i64 0]) 2 16 Try.underlying38 hi hz0 hz1 hz2 rfl (by decide) _ _ _ rfl (hown.alloc _) ⟨wr.heap.size, 0, none⟩ 1 1 (blk (a, k)) rfl rfl (blk_cells wr (a, k) 41) (blk_one (a, k)) (by unfold maxLen; omega) (by omega) (by simp; omega) ?_; intro v' w1 hown1 hg1 hnil; have hbl1 := HB1.out.grown hg1 (by simp; omega) (fun q hq => (hown.lt q hq).1); clear hnil hg1))
            go_roundw
            case rel => exact ⟨l ++ [(a, k)], a + two k, rfl, by rw [show at_ + n - (a + two k) = at_ + n - a - two k from by omega], by omega, by omega, Lib.hid (by simp; have := HL.out; omega), by rw [blks_snoc, List.length_append, List.length_singleton]; exact hown1, Lib.hid (cuts_next HC.out HE.out (by omega) (by omega)), hbl1⟩
            case measure => simp [intOf]; omega
          · obtain ⟨hc3, hc4, hc5⟩ := hc3
            go_wp2_with (first | (go_at_call 18; refine (reven_any _ _ _ (by omega) (by omega)).mono ?_; rintro e w1 ⟨rfl, rfl⟩) | (go_at_call 25; refine (size_any _ _).mono ?_; rintro e w1 ⟨rfl, rfl⟩) | (at_builtin; refine wpList_append_own _ rfl (.tmp 39) (.tmp 43) 38 rfl w.heap.size 41 i0 (.agg #[.int .i64 0, .int .i64 0]) 2 16 Try.underlying38 hi hz0 hz1 hz2 rfl (by decide) _ _ _ rfl (hown.alloc _) ⟨wr.heap.size, 0, none⟩ 1 1 (blk (a, k)) rfl rfl (blk_cells wr (a, k) 41) (blk_one (a, k)) (by unfold maxLen; omega) (by omega) (by simp; omega) ?_; intro v' w1 hown1 hg1 hnil; have hbl1 := HB1.out.grown hg1 (by simp; omega) (fun q hq => (hown.lt q hq).1); clear hnil hg1))
            go_roundw
            case rel => exact ⟨l ++ [(a, k)], a + two k, rfl, by rw [show at_ + n - (a + two k) = at_ + n - a - two k from by omega], by omega, by omega, Lib.hid (by simp; have := HL.out; omega), by rw [blks_snoc, List.length_append, List.length_singleton]; exact hown1, Lib.hid (cuts_next HC.out HE.out (by omega) (by omega)), hbl1⟩
            case measure => simp [intOf]; omega
    · have HF := Lib.hid (show cuts most 4096 at_ n = l by
        have h := HC.out
        rw [show at_ + n - a = 0 from by omega, show cuts most 4096 a 0 = [] from rfl, List.append_nil] at h
        exact h.symm)
      have HO := Lib.hid hown
      have hge : at_ + n - a ≤ 0 := by omega
      clear hown
      go_wp2
      go_ret
      refine ⟨_, rfl, ?_, hbl⟩
      rw [HF.out]
      exact RV.of_own HO.out

end Go.Proofs.Ytnpcpgjaffpnjaa

/- Parts of the proofs of layer 25 (clock): contracts of its functions, and the laws' walks. -/
import Derived.Test.YtehbonhdhblpgaaProg
import Derived.WalkKit
import Derived.WalkSpells
import Derived.WalkLawsBesides
import Derived.BigQuiet
import Derived.Deep.QuietTactic
import Derived.Lib.Hide
import Derived.Deep.RegionHeld3
import Derived.Deep.DeepCutAuto
import Derived.KernelRfl
import Derived.Deep.OwnRows
import Derived.Laws.CopyOwn
import Derived.Laws.CopyRow
import Derived.StillTailTactics
import Derived.Deep.RegionLaw
import Derived.Test.YtehbonhdhblpgaaC13
namespace Go.Proofs.Ytehbonhdhblpgaa
open Go.RowKit
set_option linter.unusedVariables false
set_option linter.unusedSimpArgs false

/-- The ring from the hand on. -/
def rot (L : List K) (h : Nat) : List K := L.drop h ++ L.take h
theorem rot_length (L : List K) (h : Nat) : (rot L h).length = L.length := (rot_perm L h).length_eq
theorem rot_get (L : List K) (h i : Nat) (hh : h < L.length) (hi : i < L.length) : (rot L h)[i]? = L[(h + i) % L.length]? := by
  unfold rot
  by_cases hc : i < L.length - h
  · rw [List.getElem?_append_left (by rw [List.length_drop]; exact hc), List.getElem?_drop, Nat.mod_eq_of_lt (by omega)]
  · rw [List.getElem?_append_right (by rw [List.length_drop]; omega), List.length_drop, List.getElem?_take_of_lt (by omega)]
    congr 1
    rw [Nat.mod_eq_sub_mod (by omega), Nat.mod_eq_of_lt (by omega)]
    omega
theorem mod_int (h i n : Nat) : ((h : Int) + (i : Int)) % (n : Int) = (((h + i) % n : Nat) : Int) := by
  rw [← Int.natCast_add]
  exact (Int.natCast_emod _ _).symm
theorem tmod_int (h i n : Nat) : ((h : Int) + (i : Int)).tmod (n : Int) = (((h + i) % n : Nat) : Int) := by
  rw [Int.tmod_eq_emod_of_nonneg (by omega)]
  exact mod_int h i n
set_option maxRecDepth 100000 in
set_option maxHeartbeats 4000000 in
theorem rall_any (g : Nat) (F : List Nat) (L : List K) (h : Nat) (w : World) (r : RC w g F L h) (hm : L.length ≤ 1000) :
    Calls Try.prog 18 #[.pointer (some ⟨g, 0, none⟩)] w fun e w' => ∃ v, e = .returned v ∧ Told w' v ((rot L h).map K.key) ∧ Chg [] (vblk v) w w' := by
  obtain ⟨v, rfl, h1, h2, h3, h4⟩ := r
  obtain ⟨ao, cap, rfl, hnc, hcm⟩ := h3.slice
  have hg := lt_of_block h2
  have c0 := cell_of_row w g 0 _ 42 _ h2
  have c1 := cell_of_row w g 1 _ 42 _ h2
  replace c0 : w.cell? ⟨g, 0, none⟩ = some (.slice ao L.length cap) := c0
  replace c1 : w.cell? ⟨g, 1, none⟩ = some (.int .i64 (h : Nat)) := c1
  go_enter Try.func18, Try.ntmps18
  go_wp2_with fail
  obtain ⟨N, hN⟩ : ∃ N, L.length = N := ⟨_, rfl⟩
  have HN := Lib.hid hN
  rw [hN] at c0 hm hnc h4 h3
  clear hN
  go_loopw [3, 4] (fun o s wr => ∃ (i : Nat) (l : List S), i ≤ N ∧ s = .int .i64 (i : Nat) ∧ l = ((rot L h).take i).map K.key ∧ RowKit.Hid (Sq wr 24 2 o i (sc l) ∧ Chg [] (vblk o) w wr)) (fun _ s _ => N - (intOf s).toNat)
  case atStart => exact ⟨0, [], Nat.zero_le _, rfl, rfl, Lib.hid ⟨Sq.nil _ _ _, by rw [vblk_nil]; exact Chg.refl _ _⟩⟩
  case round =>
    obtain ⟨i, l, hi, rfl, hl, HR⟩ := hrel
    have hbr : Below w.heap.size w wr := HR.out.2.below (fun b hb => by simp at hb) (Nat.le_refl _)
    have c0r := cell_keep hbr c0
    have c1r := cell_keep hbr c1
    by_cases hlt : i < N
    · have hhN : h < N := by
        rcases h4 with h4 | ⟨rfl, _⟩
        · exact h4
        · have := HN.out; simp at this; omega
      have hk0 := rot_get L h i (by rw [HN.out]; exact hhN) (by rw [HN.out]; exact hlt)
      rw [HN.out] at hk0
      obtain ⟨P, hP⟩ : ∃ P, (h + i) % N = P := ⟨_, rfl⟩
      have hPN : P < N := by rw [← hP]; exact Nat.mod_lt _ (by omega)
      have hk := List.getElem?_eq_getElem (show P < L.length by rw [HN.out]; exact hPN)
      generalize L[P]'(by rw [HN.out]; exact hPN) = k at hk
      rw [hP, hk] at hk0
      obtain ⟨g0, g1, g2, g3⟩ := kc_get L P k hk
      rcases h3.cases with ⟨_, h0⟩ | ⟨b, cap', hv, _, _, hbl, hcell, _⟩
      · omega
      · cases hv
        have e0 := cell_keep hbr (hcell _ _ g0)
        have e1 := cell_keep hbr (hcell _ _ g1)
        have hw1 : IntKind.i64.wrap ((h : Int) + (i : Int)) = (h : Int) + (i : Int) := by rw [IntKind.wrap_i64]; omega
        have hm1 : ((h : Int) + (i : Int)).tmod (N : Int) = (P : Nat) := by rw [tmod_int, hP]
        have hm2 : ((h : Int) + (i : Int)) % (N : Int) = (P : Nat) := by rw [mod_int, hP]
        have hz : ¬ N = 0 := by omega
        have hPI : ((P : Nat) : Int) < ((N : Nat) : Int) := by omega
        have HP := Lib.hid hP
        have HL := Lib.hid hl
        obtain ⟨ao2, cap2, rfl, hnc2, hcm2⟩ := HR.out.1.slice
        have hA2 : Below wr.heap.size wr (wr.alloc (.cells #[.int .i64 k.s, .int .i64 k.p] 24)) := (Below.refl _ wr).alloc (Nat.le_refl _) _
        have hown0 := HR.out.1.below hA2
        have hnew := news_alloc wr #[.int .i64 k.s, .int .i64 k.p] 24
        have HC := Lib.hid (HR.out.2.trans (Chg.of_below hA2))
        have cA0 := cell_keep hA2 c0r
        have cA1 := cell_keep hA2 c1r
        clear hA2 HR hP hl g0 g1 g2 g3 hcell hbr c0 c1
        obtain ⟨i0, hi0, hz0, hz1, hz2⟩ := info_parts (show (Try.prog.info? 24).map (fun i => (i.zero, i.size, i.bytes)) = some (some (.agg #[.int .i64 0, .int .i64 0]), 2, 16) by kernel_rfl)
        go_wp2_with fail
        go_region_law (first | (refine step_append_any _ rfl (.tmp 14) (.tmp 34) 32 rfl 24 i0 (.agg #[.int .i64 0, .int .i64 0]) 2 16 Try.underlying32 hi0 hz0 hz1 hz2 rfl (by decide) (.slice ao2 i cap2) i (sc l) rfl hown0 (some ⟨wr.heap.size, 0, none⟩) 1 1 (sc [k.key]) rfl (fun h => by cases h) rfl (fun a ha => by cases ha; rw [sc_one]; exact hnew) (sc_onecell _) (by unfold maxLen; omega) (by omega) ?_; intro v' w3 hown hgr))
        all_goals go_wp2_with fail
        all_goals
          refine ⟨⟨i + 1, l ++ [k.key], hlt, by simp, by rw [take_succ' _ i k hk0, List.map_append, ← HL.out]; rfl, Lib.hid ⟨?_, HC.out.trans hgr⟩⟩, by simp [intOf]; omega⟩
          rw [sc_append]
          exact hown
    · have hi2 : i = N := by omega
      subst hi2
      have HL := Lib.hid hl
      clear hl
      go_wp2_with fail
      refine bodyPost_ret (results_tmp rfl _ _ _) rfl ⟨u3, rfl, ?_, HR.out.2⟩
      have hl := HL.out
      rw [List.take_of_length_le (by rw [rot_length, HN.out]; exact Nat.le_refl _)] at hl
      rw [← hl]
      unfold Told
      rw [hl, List.length_map, rot_length, HN.out, ← hl]
      exact HR.out.1

end Go.Proofs.Ytehbonhdhblpgaa

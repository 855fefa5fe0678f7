/- Parts of the proofs of layer 25 (clock): contracts of its functions, and the laws' walks. -/
import Derived.Test.YtehbonhdhblpgaaProg
import Derived.WalkKit
import Derived.WalkSpells
import Derived.WalkLawsBesides
import Derived.BigQuiet
import Derived.Deep.QuietTactic
import Derived.Lib.Hide
import Derived.Deep.RegionHeld3
import Derived.Deep.DeepCutAuto
import Derived.KernelRfl
import Derived.Deep.OwnRows
import Derived.Laws.CopyOwn
import Derived.Laws.CopyRow
import Derived.StillTailTactics
import Derived.Deep.RegionLaw
import Derived.Test.YtehbonhdhblpgaaC6
namespace Go.Proofs.Ytehbonhdhblpgaa
open Go.RowKit
set_option linter.unusedVariables false
set_option linter.unusedSimpArgs false

theorem Chg.out {F F' : List Nat} {w w' : World} {g : Nat} (h : Chg F F' w w') (hf : g ∉ F) (hg : g < w.heap.size) : g ∉ F' := fun hm => by
  rcases h.2.2.2.2.2 g hm with h | h
  · exact hf h
  · omega
theorem vblk_any (ao : Option Addr) (n c m d : Nat) : vblk (.slice ao n c) = vblk (.slice ao m d) := by cases ao <;> rfl
/-- A key taken out. -/
def delK (l : List K) (x : S) : List K := if idx l x < l.length then l.take (idx l x) ++ l.drop (idx l x + 1) else l
set_option maxRecDepth 100000 in
set_option maxHeartbeats 4000000 in
theorem del_any (g : Nat) (F : List Nat) (ks : List K) (x : S) (w : World) (h : Clk w g F ks) (hm : ks.length ≤ 1000) :
    Calls Try.prog 12 #[.pointer (some ⟨g, 0, none⟩), .agg #[.int .i64 x.s, .int .i64 x.p]] w fun e w' => e = .returned (.int .i64 (ecode ks x)) ∧ ∃ F', Chg F F' w w' ∧ Clk w' g F' (delK ks x) := by
  have hb0 : Below w.heap.size w (w.alloc (.cells #[.int .i64 x.s, .int .i64 x.p] 24)) := (Below.refl _ w).alloc (Nat.le_refl _) _
  have HM := Lib.hid (h.below hb0)
  clear h
  go_enter Try.func12, Try.ntmps12
  go_wp2_with fail
  have hs0 : (w.alloc (.cells #[.int .i64 x.s, .int .i64 x.p] 24)).heap.size = w.heap.size + 1 := World.size_alloc _ _
  generalize (w.alloc (.cells #[.int .i64 x.s, .int .i64 x.p] 24)) = w0 at hb0 hs0 HM ⊢
  refine (find_any g F ks x w0 HM.out hm).mono ?_
  rintro e w1 ⟨rfl, hb1⟩
  have HM1 := Lib.hid (HM.out.below hb1)
  have HB := Lib.hid (Chg.of_below (F := F) (hb0.trans (hb1.mono (by omega))))
  clear HM hb0 hb1 hs0
  by_cases hx : idx ks x < ks.length
  · rw [fres_in hx]
    have HR := Lib.hid (show ecode ks x = 0 from if_pos hx)
    have HT := Lib.hid (show delK ks x = ks.take (idx ks x) ++ ks.drop (idx ks x + 1) from if_pos hx)
    obtain ⟨v, rfl, h1, h2, h3⟩ := HM1.out
    have c0 := cell_of_one h2
    obtain ⟨ao, cap, rfl, hnc, hcm⟩ := h3.slice
    have hE := Sq.lit w1 #[] 59 4 0 (by unfold maxLen; omega) rfl
    have hbA : Below w1.heap.size w1 (w1.alloc (.cells #[] 59)) := (Below.refl _ w1).alloc (Nat.le_refl _) _
    have hA := h3.below hbA
    have hgA := (hbA.block g (lt_of_block h2)).trans h2
    have cA := cell_of_one hgA
    have hgl := lt_of_block h2
    have hbl := h3.lt
    have HC := Lib.hid (chg_new w1 (.cells #[] 59))
    generalize idx ks x = i at hx HT ⊢
    have hn2 : i ≤ cap := by omega
    have hn3 : i + 1 ≤ cap := by omega
    have hj0 : 0 ≤ (i : Int) + 1 := by omega
    have hj1 : (i : Int) + 1 ≤ (ks.length : Int) := by omega
    have hw1 : IntKind.i64.wrap ((i : Int) + 1) = (i : Int) + 1 := by rw [IntKind.wrap_i64]; omega
    obtain ⟨p1, p2⟩ := head_cells hA (Nat.le_of_lt hx)
    have hl1 : (kc (ks.take i)).length = i * 4 := by rw [kc_length, List.length_take, Nat.min_eq_left (Nat.le_of_lt hx)]
    have hl2 : (kc (ks.drop (i + 1))).length = (ks.length - (i + 1)) * 4 := by rw [kc_length, List.length_drop]
    obtain ⟨i0, hi0, hz0, hz1, hz2⟩ := info_parts (show (Try.prog.info? 59).map (fun i => (i.zero, i.size, i.bytes)) = some (some (.agg #[.int .i64 0, .int .i64 0, .bool false, .int .i64 0]), 4, 32) by kernel_rfl)
    go_upto_region 3 with fail
    go_region_law (first
    | (refine step_append_any _ rfl (.tmp 16) (.tmp 22) 55 rfl 59 i0 (.agg #[.int .i64 0, .int .i64 0, .bool false, .int .i64 0]) 4 32 Try.underlying55 hi0 hz0 hz1 hz2 rfl (by decide) (.slice (some ⟨w1.heap.size, 0, none⟩) 0 0) 0 [] rfl hE _ i cap (kc (ks.take i)) rfl p1 hl1 p2 (kc_onecell _) (by unfold maxLen; omega) (by omega) ?_; intro v1 w2 hown1 hgr1; rw [Nat.zero_add, List.nil_append] at hown1; have hA2 := hA.chg hgr1 (fun b hb hm => by rw [vblk_some] at hm; have := hbl b hb; simp at hm; omega); have hg2 := (hgr1.block (lt_of_block hgA) (fun hm => by rw [vblk_some] at hm; simp at hm; omega)).trans hgA; have c2 := cell_of_one hg2; obtain ⟨q1, q2⟩ := rest_cells hA2 hx)
    | (refine step_append_any _ rfl (.tmp 23) (.tmp 30) 55 rfl 59 i0 (.agg #[.int .i64 0, .int .i64 0, .bool false, .int .i64 0]) 4 32 Try.underlying55 hi0 hz0 hz1 hz2 rfl (by decide) v1 _ _ rfl hown1 _ (ks.length - (i + 1)) (cap - (i + 1)) (kc (ks.drop (i + 1))) rfl q1 hl2 q2 (kc_onecell _) (by unfold maxLen; omega) (by omega) ?_; intro v2 w3 hown2 hgr2; obtain ⟨ao3, cap3, rfl, hnc3, hcm3⟩ := Sq.slice hown2; have hgv : g ∉ vblk v1 := hgr1.out (fun hm => by rw [vblk_some] at hm; simp at hm; omega) (lt_of_block hgA); have hg3 := (hgr2.block (lt_of_block hg2) hgv).trans hg2; have c3 := cell_of_one hg3; have f3 := frozen_of_one hg3))
    all_goals go_wp2_with fail
    all_goals
      have hlen : (ks.take i ++ ks.drop (i + 1)).length = i + (ks.length - (i + 1)) := by rw [List.length_append, List.length_take, List.length_drop]; omega
      have hgv3 : g ∉ vblk (.slice ao3 (i + (ks.length - (i + 1))) cap3) := hgr2.out hgv (lt_of_block hg2)
      refine bodyPost_ret (results_tmp rfl _ _ _) rfl ⟨by rw [HR.out]; rfl, g :: vblk (.slice ao3 (i + (ks.length - (i + 1))) cap3), ?_, ?_⟩
      · have hT : Chg (g :: vblk (.slice ao ks.length cap)) (g :: vblk (.slice ao3 (i + (ks.length - (i + 1))) cap3)) w w3 := HB.out.trans ((((HC.out.trans hgr1.drew').trans hgr2).cons g).mono (fun b hb => by
          rcases List.mem_cons.1 hb with rfl | hb
          · simp
          · simp at hb))
        first | exact hT.setCell _ _ _ (List.mem_cons_self ..) | (rw [vblk_any ao ks.length (i + 1) ks.length cap]; exact hT.setCell _ _ _ (List.mem_cons_self ..))
      · rw [HT.out]
        refine ⟨_, rfl, hgv3, heap_setCell_one hg3 _, ?_⟩
        rw [hlen, kc_append]
        exact hown2.of_blocks fun b hb => Below.heap_setCell _ _ _ _ (fun e => hgv3 (by cases e; exact hb))
  · rw [fres_out hx]
    have HR := Lib.hid (show ecode ks x = 6 from if_neg hx)
    have HT := Lib.hid (show delK ks x = ks from if_neg hx)
    go_wp2_with fail
    exact bodyPost_ret (results_tmp rfl _ _ _) rfl ⟨by rw [HR.out]; rfl, F, HB.out, by rw [HT.out]; exact HM1.out⟩

end Go.Proofs.Ytehbonhdhblpgaa

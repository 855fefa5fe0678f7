/- Parts of the proofs of layer 25 (clock): contracts of its functions, and the laws' walks. -/
import Derived.Test.YtehbonhdhblpgaaProg
import Derived.WalkKit
import Derived.WalkSpells
import Derived.WalkLawsBesides
import Derived.BigQuiet
import Derived.Deep.QuietTactic
import Derived.Lib.Hide
import Derived.Deep.RegionHeld3
import Derived.Deep.DeepCutAuto
import Derived.KernelRfl
import Derived.Deep.OwnRows
import Derived.Laws.CopyOwn
import Derived.Laws.CopyRow
import Derived.StillTailTactics
import Derived.Deep.RegionLaw
import Derived.Test.YtehbonhdhblpgaaC2
namespace Go.Proofs.Ytehbonhdhblpgaa
open Go.RowKit
set_option linter.unusedVariables false
set_option linter.unusedSimpArgs false

/-- A key added. -/
def addK (l : List K) (x : S) : List K := if idx l x < l.length then l else l ++ [⟨x.s, x.p, true, 0⟩]
def acode (l : List K) (x : S) : Int := if idx l x < l.length then 7 else 0
theorem kc_one (k : K) : kc [k] = k.cs := by simp [kc]
theorem kc_append (a b : List K) : kc (a ++ b) = kc a ++ kc b := by simp [kc]
set_option maxRecDepth 100000 in
set_option maxHeartbeats 4000000 in
theorem add_any (g : Nat) (F : List Nat) (ks : List K) (x : S) (w : World) (h : Clk w g F ks) (hm : ks.length ≤ 999) :
    Calls Try.prog 11 #[.pointer (some ⟨g, 0, none⟩), .agg #[.int .i64 x.s, .int .i64 x.p]] w fun e w' => e = .returned (.int .i64 (acode ks x)) ∧ ∃ F', Chg F F' w w' ∧ Clk w' g F' (addK ks x) := by
  have hb0 : Below w.heap.size w (w.alloc (.cells #[.int .i64 x.s, .int .i64 x.p] 24)) := (Below.refl _ w).alloc (Nat.le_refl _) _
  have HM := Lib.hid (h.below hb0)
  have hx0 : ∀ i v, #[Value.int .i64 x.s, Value.int .i64 x.p][i]? = some v → (w.alloc (.cells #[.int .i64 x.s, .int .i64 x.p] 24)).cell? ⟨w.heap.size, i, none⟩ = some v := by
    intro i v h
    simp only [World.cell?, Deep.blk_alloc_new]
    exact h
  clear h
  go_enter Try.func11, Try.ntmps11
  go_wp2_with fail
  have hs0 : (w.alloc (.cells #[.int .i64 x.s, .int .i64 x.p] 24)).heap.size = w.heap.size + 1 := World.size_alloc _ _
  generalize (w.alloc (.cells #[.int .i64 x.s, .int .i64 x.p] 24)) = w0 at hb0 hs0 HM hx0 ⊢
  refine (find_any g F ks x w0 HM.out (by omega)).mono ?_
  rintro e w1 ⟨rfl, hb1⟩
  have HM1 := Lib.hid (HM.out.below hb1)
  have HB := Lib.hid (Chg.of_below (F := F) (hb0.trans (hb1.mono (by omega))))
  have d0 : w1.cell? ⟨w.heap.size, 0, none⟩ = some (.int .i64 x.s) := cell_keep hb1 (hx0 0 _ rfl)
  have d1 : w1.cell? ⟨w.heap.size, 1, none⟩ = some (.int .i64 x.p) := cell_keep hb1 (hx0 1 _ rfl)
  have hwl : w.heap.size < w1.heap.size := World.block_lt_of_cell? w1 _ d0
  clear HM hb0 hb1 hs0 hx0
  by_cases hx : idx ks x < ks.length
  · rw [fres_in hx]
    have HR := Lib.hid (show acode ks x = 7 from if_pos hx)
    have HT := Lib.hid (show addK ks x = ks from if_pos hx)
    go_wp2_with fail
    exact bodyPost_ret (results_tmp rfl _ _ _) rfl ⟨by rw [HR.out]; rfl, F, HB.out, by rw [HT.out]; exact HM1.out⟩
  · rw [fres_out hx]
    have HR := Lib.hid (show acode ks x = 0 from if_neg hx)
    have HT := Lib.hid (show addK ks x = ks ++ [⟨x.s, x.p, true, 0⟩] from if_neg hx)
    obtain ⟨v, rfl, h1, h2, h3⟩ := HM1.out
    have c0 := cell_of_one h2
    obtain ⟨ao, cap, rfl, hnc, hcm⟩ := h3.slice
    go_wp2_with fail
    have hbA : Below w1.heap.size w1 (w1.alloc (.cells #[.int .i64 x.s, .int .i64 x.p, .bool true, .int .i64 0] 59)) := (Below.refl w1.heap.size w1).alloc (Nat.le_refl _) _
    have hlit := Sq.lit w1 #[.int .i64 x.s, .int .i64 x.p, .bool true, .int .i64 0] 59 4 1 (by unfold maxLen; omega) rfl
    have hnew : ∀ j u, (kc [⟨x.s, x.p, true, 0⟩])[j]? = some u → (w1.alloc (.cells #[.int .i64 x.s, .int .i64 x.p, .bool true, .int .i64 0] 59)).cell? ((⟨w1.heap.size, 0, none⟩ : Addr).add j) = some u := by
      intro j u hj
      rcases hlit.cases with ⟨h, _⟩ | ⟨b, cap', hv, _, _, _, hcell, _⟩
      · cases h
      · cases hv
        rw [Addr.add_lit, Nat.zero_add]
        exact hcell j u (by rw [kc_one] at hj; exact hj)
    have h3A := h3.below hbA
    have hgA := (hbA.block g (lt_of_block h2)).trans h2
    have cA := cell_of_one hgA
    have dA0 := cell_keep hbA d0
    have dA1 := cell_keep hbA d1
    have hgl := lt_of_block hgA
    have HBA := Lib.hid (HB.out.trans (Chg.of_below hbA))
    obtain ⟨i0, hi0, hz0, hz1, hz2⟩ := info_parts (show (Try.prog.info? 59).map (fun i => (i.zero, i.size, i.bytes)) = some (some (.agg #[.int .i64 0, .int .i64 0, .bool false, .int .i64 0]), 4, 32) by kernel_rfl)
    go_region_law (first | (refine step_append_any _ rfl (.tmp 23) (.tmp 26) 55 rfl 59 i0 (.agg #[.int .i64 0, .int .i64 0, .bool false, .int .i64 0]) 4 32 Try.underlying55 hi0 hz0 hz1 hz2 rfl (by decide) (.slice ao ks.length cap) ks.length (kc ks) rfl h3A (some ⟨w1.heap.size, 0, none⟩) 1 1 (kc [⟨x.s, x.p, true, 0⟩]) rfl (fun h => by cases h) rfl (fun a ha => by cases ha; exact hnew) (by intro u hu; rw [kc_one] at hu; simp only [K.cs, List.mem_cons, List.not_mem_nil, or_false] at hu; rcases hu with rfl | rfl | rfl | rfl <;> rfl) (by unfold maxLen; omega) (by omega) ?_; intro v' w3 hown hgr; obtain ⟨ao', cap', rfl, hnc', hcm'⟩ := Sq.slice hown; have hg3 := (hgr.block hgl h1).trans hgA; have c3 := cell_of_one hg3; have f3 := frozen_of_one hg3))
    all_goals go_wp2_with fail
    all_goals
      have hlen : (ks ++ [⟨x.s, x.p, true, 0⟩] : List K).length = ks.length + 1 := by simp
      have hgv : g ∉ vblk (.slice ao' (ks.length + 1) cap') := fun h => by
        rcases hgr.2.2.2.2.2 g h with h | h
        · exact h1 h
        · exact absurd hgl (Nat.not_lt.2 h)
      refine bodyPost_ret (results_tmp rfl _ _ _) rfl ⟨by rw [HR.out]; rfl, g :: vblk (.slice ao' (ks.length + 1) cap'), ?_, ?_⟩
      · exact Chg.setCell (HBA.out.trans (hgr.cons g)) _ _ _ (by simp)
      · rw [HT.out]
        refine ⟨_, rfl, hgv, heap_setCell_one hg3 _, ?_⟩
        rw [hlen, kc_append]
        exact hown.of_blocks fun b hb => Below.heap_setCell _ _ _ _ (fun e => hgv (by cases e; exact hb))

end Go.Proofs.Ytehbonhdhblpgaa

/- Parts of the proofs of layer 6 (pick): contracts of its functions, and the laws' walks. -/
import Derived.Test.YtekkblhghbkdiaaProg
import Derived.WalkKit
import Derived.WalkSpells
import Derived.WalkLawsBesides
import Derived.BigQuiet
import Derived.Deep.QuietTactic
import Derived.Lib.Hide
import Derived.Deep.RegionHeld3
import Derived.Deep.DeepCutAuto
import Derived.KernelRfl
import Derived.Deep.OwnRows
import Derived.Laws.CopyOwn
import Derived.Laws.CopyRow
import Derived.StillTailTactics
import Derived.Deep.RegionLaw
import Derived.Test.YtekkblhghbkdiaaP15
namespace Go.Proofs.Ytekkblhghbkdiaa
open Go.RowKit
set_option linter.unusedVariables false
set_option linter.unusedSimpArgs false

theorem Rt.more {w wa w3 : World} {g : Nat} {F : List Nat} {L : List E} {x : E} {v v' : Value} (hg : w.heap[g]? = some (.cells #[v] 28 (0, 0))) (hF : F = g :: vblk v) (hgv : g ∉ vblk v) (hA : Below w.heap.size w wa)
    (hown : Sq w3 41 2 v' (L.length + 1) (rc L ++ rc [x])) (hgr : Chg (vblk v) (vblk v') wa w3) :
    Rt (w3.setCell ⟨g, 0, none⟩ v') g (g :: vblk v') (L ++ [x]) ∧ Chg F (g :: vblk v') w (w3.setCell ⟨g, 0, none⟩ v') ∧ w3.heap[g]? = some (.cells #[v] 28 (0, 0)) := by
  have hc : Chg (vblk v) (vblk v') w w3 := (Chg.of_below hA).trans hgr
  have gl := lt_of_block hg
  have r3 := (hc.block gl hgv).trans hg
  have n3 := hc.out hgv gl
  refine ⟨⟨v', (heap_setCell_same w3 g 0 _ 28 _ r3).trans rfl, (Told.one_more hown).set_other n3 _ _, rfl, n3⟩, ?_, r3⟩
  subst hF
  exact (hc.cons g).setCell _ _ _ (by simp)
set_option maxHeartbeats 2000000 in
theorem RPut_any (x : E) (g : Nat) (F : List Nat) (L : List E) (w : World) (h : Rt w g F L) (hm : L.length ≤ 2000) (hpw : L.Pairwise fun a b => a.f ≠ b.f) :
    Calls Try.prog 12 #[.pointer (some ⟨g, 0, none⟩), .int .i64 x.f, .int .i64 x.w] w fun e w' => e = .returned (.int .i64 (putE x.f)) ∧ ∃ F', Chg F F' w w' ∧ ∃ L', Rt w' g F' L' ∧ L'.Perm (putM x L) := by
  have HH := Lib.hid h
  by_cases h0 : x.f < 0
  · have HE := Lib.hid (And.intro (show putE x.f = 3 from if_neg (by omega)) (show putM x L = L from if_neg (by omega)))
    clear h
    go_enter Try.func12, Try.ntmps12
    go_wp2
    go_ret
    rw [HE.out.1, HE.out.2]
    exact ⟨rfl, F, Chg.refl _ _, L, HH.out, .refl _⟩
  · by_cases h1 : 1023 < x.f
    · have HE := Lib.hid (And.intro (show putE x.f = 3 from if_neg (by omega)) (show putM x L = L from if_neg (by omega)))
      clear h
      go_enter Try.func12, Try.ntmps12
      go_wp2
      go_ret
      rw [HE.out.1, HE.out.2]
      exact ⟨rfl, F, Chg.refl _ _, L, HH.out, .refl _⟩
    · have hr : 0 ≤ x.f ∧ x.f ≤ 1023 := by omega
      have HE := Lib.hid (And.intro (show putE x.f = 0 from if_pos hr) (show putM x L = x :: wo x.f L from if_pos hr))
      have HA := Lib.hid (RAt_any x.f g F L w h (by omega))
      obtain ⟨ao, cap, c0, hT, hgv, hF, hg⟩ := h.cells
      have HT := Lib.hid (And.intro hT (And.intro hgv (And.intro hF hg)))
      have HPW := Lib.hid hpw
      clear h hT hgv hF hg hpw
      obtain ⟨i0, hi0, hz0, hz1, hz2⟩ := info_parts (show (Try.prog.info? 41).map (fun i => (i.zero, i.size, i.bytes)) = some (some (.agg #[.int .i64 0, .int .i64 0]), 2, 16) by kernel_rfl)
      go_enter Try.func12, Try.ntmps12
      go_wp2_with fail
      refine HA.out.mono ?_
      rintro e w1 ⟨rfl, he⟩
      rcases he with ⟨hn, rfl⟩ | ⟨i, y, hy, hyf, rfl⟩
      · have HN := Lib.hid hn
        clear hn
        have hA : Below w.heap.size w (w.alloc (.cells #[.int .i64 x.f, .int .i64 x.w] 41)) := (Below.refl _ _).alloc (Nat.le_refl _) _
        have hown := Told.below HT.out.1 hA
        have hnew := news_alloc w #[.int .i64 x.f, .int .i64 x.w] 41
        have HAA := Lib.hid hA
        clear hA
        go_wp2_with (at_builtin; refine wpList_append_any _ rfl (.tmp 23) (.tmp 27) 26 rfl 41 i0 (.agg #[.int .i64 0, .int .i64 0]) 2 16 Try.underlying26 hi0 hz0 hz1 hz2 rfl (by decide) (.slice ao L.length cap) L.length (rc L) rfl hown (some ⟨w.heap.size, 0, none⟩) 1 1 (rc [x]) rfl (fun h => by cases h) rfl (fun a ha => by cases ha; rw [rc_one]; exact hnew) (rc_onecell _) (by unfold maxLen; omega) (by omega) ?_; intro v7 w7 hown7 hgr7; obtain ⟨ao7, cap7, rfl, _, _⟩ := Sq.slice hown7; obtain ⟨q1, q2, q3⟩ := Rt.more HT.out.2.2.2 HT.out.2.2.1 HT.out.2.1 HAA.out hown7 hgr7; have HQ := Lib.hid (And.intro q1 q2); have d0 := cell_of_one q3; have df := free_of_one q3; clear q1 q2 q3 hown7 hgr7 hown hnew c0 hi0 hz0 hz1 hz2)
        go_ret
        rw [HE.out.1, HE.out.2]
        refine ⟨rfl, _, HQ.out.2, _, HQ.out.1, ?_⟩
        rw [wo_self HN.out]
        exact List.perm_append_singleton x L
      · have hil : i < L.length := (List.getElem?_eq_some_iff.1 hy).1
        obtain ⟨bk, cap', hv, hnc, hcm, hb, hcell, hff⟩ := HT.out.1.read (ne_nil_of_lt hil)
        cases hv
        obtain ⟨i0', i1'⟩ := hcell i y hy
        have hiI : ((i : Nat) : Int) < ((L.length : Nat) : Int) := by omega
        have hinn : ¬ (((i : Nat) : Int) < 0) := by omega
        have ht1 := HT.out.1.stored rfl i x hil
        have HY := Lib.hid (And.intro hil (show x.f = (Ytekkblhghbkdiaa.g L i).f from by rw [Ytekkblhghbkdiaa.g_of hy]; exact hyf.symm))
        have HT1 := Lib.hid ht1
        clear ht1 hcell
        go_wp2_with fail
        go_ret
        rw [HE.out.1, HE.out.2]
        refine ⟨rfl, F, ?_, L.set i x, ⟨_, ?_, HT1.out, HT.out.2.2.1, HT.out.2.1⟩, set_perm HPW.out HY.out.1 HY.out.2⟩
        · rw [HT.out.2.2.1]
          exact ((Chg.refl _ w).setCell _ _ _ (by simp [vblk_some])).setCell _ _ _ (by simp [vblk_some])
        · have hne : g ≠ bk := fun e => HT.out.2.1 (by simp [vblk_some, e])
          exact ((Below.heap_setCell _ _ _ _ (fun e => hne e)).trans (Below.heap_setCell _ _ _ _ (fun e => hne e))).trans HT.out.2.2.2

end Go.Proofs.Ytekkblhghbkdiaa

/- Parts of the proofs of layer 20 (regions): contracts of its functions, and the laws' walks. -/
import Derived.Test.YtnakmjajpfilgaaProg
import Derived.WalkKit
import Derived.WalkSpells
import Derived.WalkLawsBesides
import Derived.BigQuiet
import Derived.Deep.QuietTactic
import Derived.Lib.Hide
import Derived.Deep.RegionHeld3
import Derived.Deep.DeepCutAuto
import Derived.KernelRfl
import Derived.Deep.OwnRows
import Derived.Laws.CopyOwn
import Derived.Laws.CopyRow
import Derived.StillTailTactics
import Derived.Deep.RegionLaw
import Derived.Test.YtnakmjajpfilgaaD4
namespace Go.Proofs.Ytnakmjajpfilgaa
open Go.RowKit
set_option linter.unusedVariables false
set_option linter.unusedSimpArgs false

/-- What the closure holds: the stretch that grows in block A, the row of those done in block B. -/
def PutSt (w : World) (A B : Nat) (st : List R2 × R2) (o : Value) : Prop :=
  Box w A st.2 ∧ w.heap[B]? = some (.cells #[o] 28 (0, 0)) ∧ Told w o st.1 ∧ A ≠ B ∧ A ∉ vblk o ∧ B ∉ vblk o
theorem PutSt.lt {w : World} {A B : Nat} {st : List R2 × R2} {o : Value} (h : PutSt w A B st o) : ∀ b, b ∈ A :: B :: vblk o → b < w.heap.size := fun b hb => by
  rcases List.mem_cons.1 hb with rfl | hb
  · exact h.1.lt
  · rcases List.mem_cons.1 hb with rfl | hb
    · exact lt_of_block h.2.1
    · exact h.2.2.1.lt b hb
theorem PutSt.below {w w' : World} {A B : Nat} {st : List R2 × R2} {o : Value} (h : PutSt w A B st o) (hb : Below w.heap.size w w') : PutSt w' A B st o :=
  ⟨h.1.below hb, (hb.block B (lt_of_block h.2.1)).trans h.2.1, h.2.2.1.below hb, h.2.2.2⟩
theorem PutSt.one {w : World} {A B : Nat} {l : List R2} {k : R2} {o : Value} (h : PutSt w A B (l, k) o) (x y : Int) :
    PutSt ((w.setCell ⟨A, 0, none⟩ (.int .i64 x)).setCell ⟨A, 1, none⟩ (.int .i64 y)) A B (l, ⟨x, y⟩) o ∧ Chg (A :: B :: vblk o) (A :: B :: vblk o) w ((w.setCell ⟨A, 0, none⟩ (.int .i64 x)).setCell ⟨A, 1, none⟩ (.int .i64 y)) := by
  obtain ⟨h1, h2, h3, h4, h5, h6⟩ := h
  refine ⟨⟨heap_setCell_same _ A 1 _ 30 _ (heap_setCell_same _ A 0 _ 30 _ h1), ?_, (h3.set_other h5 _ _).set_other h5 _ _, h4, h5, h6⟩, ((Chg.refl _ _).setCell _ _ _ (by simp)).setCell _ _ _ (by simp)⟩
  exact (Below.heap_setCell _ _ _ _ (Ne.symm h4)).trans ((Below.heap_setCell _ _ _ _ (Ne.symm h4)).trans h2)
theorem PutSt.more {w w3 : World} {A B : Nat} {l : List R2} {k r : R2} {o v' : Value} (h : PutSt w A B (l, k) o) (hT : Told w3 v' (l ++ [r])) (hc : Chg (vblk o) (vblk v') w w3) :
    PutSt (w3.setCell ⟨B, 0, none⟩ v') A B (l ++ [r], k) v' ∧ Chg (A :: B :: vblk o) (A :: B :: vblk v') w (w3.setCell ⟨B, 0, none⟩ v') := by
  have hlt := h.lt
  obtain ⟨h1, h2, h3, h4, h5, h6⟩ := h
  have hA := hc.out h5 (hlt A (by simp))
  have hB := hc.out h6 (hlt B (by simp))
  refine ⟨⟨(Below.heap_setCell _ _ _ _ h4).trans (h1.chg hc h5), heap_setCell_same _ B 0 _ 28 _ ((hc.block (hlt B (by simp)) h6).trans h2), hT.set_other hB _ _, h4, hA, hB⟩, ((hc.cons B).cons A).setCell _ _ _ (by simp)⟩
theorem stepA_length (st : List R2 × R2) (r : R2) : (stepA st r).1.length ≤ st.1.length + 1 := by
  unfold stepA
  split
  · rw [List.length_append]; exact Nat.le_refl _
  · split
    · rw [List.length_append]; exact Nat.le_refl _
    · exact Nat.le_succ _
set_option maxRecDepth 100000 in
set_option maxHeartbeats 8000000 in
theorem put_any (A B : Nat) (st : List R2 × R2) (r : R2) (o : Value) (w : World) (h : PutSt w A B st o) (hm : st.1.length ≤ 100000) :
    Calls Try.prog 30 #[.agg #[.int .i64 r.a, .int .i64 r.b], .pointer (some ⟨A, 0, none⟩), .pointer (some ⟨B, 0, none⟩)] w fun e w' => e = .returned (.tuple #[]) ∧ ∃ o', PutSt w' A B (stepA st r) o' ∧ Chg (A :: B :: vblk o) (A :: B :: vblk o') w w' := by
  obtain ⟨l, ⟨oa, ob⟩⟩ := st
  obtain ⟨ra, rb⟩ := r
  have hb0 : Below w.heap.size w (w.alloc (.cells #[.int .i64 ra, .int .i64 rb] 30)) := (Below.refl _ w).alloc (Nat.le_refl _) _
  have hX := Box.new w ⟨ra, rb⟩
  have hlt := h.lt
  have HP := Lib.hid h
  clear h
  dsimp only at hm hX ⊢
  obtain ⟨i0, hi0, hz0, hz1, hz2⟩ := info_parts (show (Try.prog.info? 30).map (fun i => (i.zero, i.size, i.bytes)) = some (some (.agg #[.int .i64 0, .int .i64 0]), 2, 16) by kernel_rfl)
  go_enter Try.func30, Try.ntmps30
  go_upto_region 2 with fail
  have hP := HP.out.below hb0
  obtain ⟨p1, p2, p3, p4, p5, p6⟩ := hP
  dsimp only at p1 p3
  obtain ⟨ao, cap, rfl, _, _⟩ := p3.slice
  generalize hw0 : w.alloc (.cells #[.int .i64 ra, .int .i64 rb] 30) = w0 at *
  obtain ⟨c0, c1⟩ := p1.cells
  obtain ⟨r0, r1⟩ := hX.cells
  have b0 := cell_of_one p2
  have fb := free_of_one p2
  have fa0 := p1.frozen 0
  have fa1 := p1.frozen 1
  dsimp only at c0 c1 r0 r1
  have hTA : w.heap.size ≠ A := fun e => Nat.lt_irrefl _ (e ▸ hlt A (by simp))
  have hTB : w.heap.size ≠ B := fun e => Nat.lt_irrefl _ (e ▸ hlt B (by simp))
  have hBA := Ne.symm p4
  clear hlt hw0
  by_cases h1 : rb < oa
  · have e : stepA (l, ⟨oa, ob⟩) ⟨ra, rb⟩ = (l ++ [⟨ra, rb⟩], ⟨oa, ob⟩) := if_pos h1
    have E := Lib.hid e
    clear e
    have hA : Below w0.heap.size w0 (w0.alloc (.cells #[.int .i64 ra, .int .i64 rb] 30)) := (Below.refl _ w0).alloc (Nat.le_refl _) _
    have hown := p3.below hA
    have hnew := news_alloc w0 #[.int .i64 ra, .int .i64 rb] 30
    have HPA := Lib.hid ((HP.out.below hb0).below hA)
    have HBA := Lib.hid (hb0.trans (hA.mono hb0.size))
    have hp2A := HPA.out.2.1
    have hlB := lt_of_block hp2A
    clear hA p1 p2 p3 hb0 fa0 fa1 hX
    go_wp2_with (at_builtin; refine wpList_append_any _ rfl (.tmp 21) (.tmp 23) 28 rfl 30 i0 (.agg #[.int .i64 0, .int .i64 0]) 2 16 Try.underlying28 hi0 hz0 hz1 hz2 rfl (by decide) (.slice ao l.length cap) l.length (rc l) rfl hown (some ⟨w0.heap.size, 0, none⟩) 1 1 (rc [⟨ra, rb⟩]) rfl (fun h => by cases h) rfl (fun a ha => by cases ha; rw [rc_one]; exact hnew) (rc_onecell _) (by unfold maxLen; omega) (by omega) ?_; intro v' w3 hown3 hgr; obtain ⟨ao3, cap3, rfl, _, _⟩ := Sq.slice hown3; have hb3 := (hgr.block hlB p6).trans hp2A; have b3 := cell_of_one hb3; have f3 := free_of_one hb3)
    go_end0
    obtain ⟨x1, x2⟩ := HPA.out.more (r := ⟨ra, rb⟩) (v' := .slice ao3 (l.length + 1) cap3) (by unfold Told; rw [List.length_append, rc_append]; exact hown3) hgr
    exact ⟨rfl, _, by rw [E.out]; exact x1, (Chg.of_below HBA.out).trans x2⟩
  · by_cases h2 : ob < ra
    · have e : stepA (l, ⟨oa, ob⟩) ⟨ra, rb⟩ = (l ++ [⟨oa, ob⟩], ⟨ra, rb⟩) := by
        unfold stepA
        dsimp only
        rw [if_neg h1, if_pos h2]
      have E := Lib.hid e
      clear e
      have hA : Below w0.heap.size w0 (w0.alloc (.cells #[.int .i64 oa, .int .i64 ob] 30)) := (Below.refl _ w0).alloc (Nat.le_refl _) _
      have hown := p3.below hA
      have hnew := news_alloc w0 #[.int .i64 oa, .int .i64 ob] 30
      have HPA := Lib.hid ((HP.out.below hb0).below hA)
      have HBA := Lib.hid (hb0.trans (hA.mono hb0.size))
      have HXA := Lib.hid (hX.below hA)
      have hTv : w.heap.size ∉ vblk (.slice ao l.length cap) := fun hm => by have := HP.out.2.2.1.lt _ hm; omega
      have HTV := Lib.hid hTv
      have hp2A := HPA.out.2.1
      have hlB := lt_of_block hp2A
      clear hA p1 p2 p3 hb0 hX hTv
      go_upto_region 6 with (at_builtin; refine wpList_append_any _ rfl (.tmp 31) (.tmp 33) 28 rfl 30 i0 (.agg #[.int .i64 0, .int .i64 0]) 2 16 Try.underlying28 hi0 hz0 hz1 hz2 rfl (by decide) (.slice ao l.length cap) l.length (rc l) rfl hown (some ⟨w0.heap.size, 0, none⟩) 1 1 (rc [⟨oa, ob⟩]) rfl (fun h => by cases h) rfl (fun a ha => by cases ha; rw [rc_one]; exact hnew) (rc_onecell _) (by unfold maxLen; omega) (by omega) ?_; intro v' w3 hown3 hgr; obtain ⟨ao3, cap3, rfl, _, _⟩ := Sq.slice hown3; have hb3 := (hgr.block hlB p6).trans hp2A; have b3 := cell_of_one hb3; have f3 := free_of_one hb3)
      obtain ⟨x1, x2⟩ := HPA.out.more (r := ⟨oa, ob⟩) (v' := .slice ao3 (l.length + 1) cap3) (by unfold Told; rw [List.length_append, rc_append]; exact hown3) hgr
      have hX4 : Box (w3.setCell ⟨B, 0, none⟩ (.slice ao3 (l.length + 1) cap3)) w.heap.size ⟨ra, rb⟩ := (Below.heap_setCell _ _ _ _ hTB).trans (HXA.out.chg hgr HTV.out)
      have HP4 := Lib.hid x1
      have HC4 := Lib.hid ((Chg.of_below HBA.out).trans x2)
      clear x1 x2 hgr hown3 hb3 b3 f3 b0 fb c0 c1 r0 r1 fa0 fa1 hown hnew hp2A hlB
      generalize w3.setCell ⟨B, 0, none⟩ (.slice ao3 (l.length + 1) cap3) = w4 at *
      obtain ⟨c0, c1⟩ := HP4.out.1.cells
      obtain ⟨r0, r1⟩ := hX4.cells
      have fa0 := HP4.out.1.frozen 0
      have fa1 := HP4.out.1.frozen 1
      dsimp only at c0 c1 r0 r1
      have HE := Lib.hid (HP4.out.one ra rb)
      go_wp2_with fail
      go_end0
      exact ⟨rfl, _, by rw [E.out]; exact HE.out.1, HC4.out.trans HE.out.2⟩
    · clear p1 p2 p3 hX
      by_cases m1 : ra < oa
      · by_cases m2 : ob < rb
        · have e : stepA (l, ⟨oa, ob⟩) ⟨ra, rb⟩ = (l, ⟨ra, rb⟩) := by
            unfold stepA
            dsimp only
            rw [if_neg h1, if_neg h2]
            simp only [Prod.mk.injEq, R2.mk.injEq, true_and]
            omega
          have E := Lib.hid e
          have HE := Lib.hid ((HP.out.below hb0).one ra rb)
          have HB0 := Lib.hid hb0
          clear hb0 e
          go_wp2_with fail
          go_end0
          exact ⟨rfl, _, by rw [E.out]; exact HE.out.1, (Chg.of_below HB0.out).trans HE.out.2⟩
        · have e : stepA (l, ⟨oa, ob⟩) ⟨ra, rb⟩ = (l, ⟨ra, ob⟩) := by
            unfold stepA
            dsimp only
            rw [if_neg h1, if_neg h2]
            simp only [Prod.mk.injEq, R2.mk.injEq, true_and]
            omega
          have E := Lib.hid e
          have HE := Lib.hid ((HP.out.below hb0).one ra ob)
          have HB0 := Lib.hid hb0
          clear hb0 e
          go_wp2_with fail
          go_end0
          exact ⟨rfl, _, by rw [E.out]; exact HE.out.1, (Chg.of_below HB0.out).trans HE.out.2⟩
      · by_cases m2 : ob < rb
        · have e : stepA (l, ⟨oa, ob⟩) ⟨ra, rb⟩ = (l, ⟨oa, rb⟩) := by
            unfold stepA
            dsimp only
            rw [if_neg h1, if_neg h2]
            simp only [Prod.mk.injEq, R2.mk.injEq, true_and]
            omega
          have E := Lib.hid e
          have HE := Lib.hid ((HP.out.below hb0).one oa rb)
          have HB0 := Lib.hid hb0
          clear hb0 e
          go_wp2_with fail
          go_end0
          exact ⟨rfl, _, by rw [E.out]; exact HE.out.1, (Chg.of_below HB0.out).trans HE.out.2⟩
        · have e : stepA (l, ⟨oa, ob⟩) ⟨ra, rb⟩ = (l, ⟨oa, ob⟩) := by
            unfold stepA
            dsimp only
            rw [if_neg h1, if_neg h2]
            simp only [Prod.mk.injEq, R2.mk.injEq, true_and]
            omega
          have E := Lib.hid e
          have HE := Lib.hid ((HP.out.below hb0).one oa ob)
          have HB0 := Lib.hid hb0
          clear hb0 e
          go_wp2_with fail
          go_end0
          exact ⟨rfl, _, by rw [E.out]; exact HE.out.1, (Chg.of_below HB0.out).trans HE.out.2⟩

end Go.Proofs.Ytnakmjajpfilgaa

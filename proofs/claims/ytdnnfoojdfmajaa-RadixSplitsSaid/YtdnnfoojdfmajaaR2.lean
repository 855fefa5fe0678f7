/- Parts of the proofs of layer 19 (radix): contracts of its functions, and the laws' walks. -/
import Derived.Test.YtdnnfoojdfmajaaProg
import Derived.WalkKit
import Derived.WalkSpells
import Derived.WalkLawsBesides
import Derived.BigQuiet
import Derived.Deep.QuietTactic
import Derived.Lib.Hide
import Derived.Deep.RegionHeld3
import Derived.Deep.DeepCutAuto
import Derived.KernelRfl
import Derived.Deep.OwnRows
import Derived.Laws.CopyOwn
import Derived.Laws.CopyRow
import Derived.StillTailTactics
import Derived.Deep.RegionLaw
import Derived.Handy
import Derived.Deep.CutRange
import Derived.Deep.CutBlock
import Derived.Test.YtdnnfoojdfmajaaR1
import Derived.OwnWalk
namespace Go.Proofs.Ytdnnfoojdfmajaa
open Go.RowKit
set_option linter.unusedVariables false
set_option linter.unusedSimpArgs false

theorem Rt.set {w w3 : World} {g : Nat} {F : List Nat} {L L' : List X} {v' : Value} (h : Rt w g F L) (hc : Chg [] (vblk v') w w3) (ht : Told w3 v' L') :
    Rt (w3.setCell ⟨g, 0, none⟩ v') g (g :: vblk v') L' ∧ Chg F (g :: vblk v') w (w3.setCell ⟨g, 0, none⟩ v') ∧ w3.cell? ⟨g, 0, none⟩ = w.cell? ⟨g, 0, none⟩ ∧ w3.frozen? ⟨g, 0, none⟩ = false := by
  obtain ⟨v, hg, h0, rfl, h1⟩ := h
  have gl := lt_of_block hg
  have r3 := (hc.block gl (by simp)).trans hg
  have n3 := hc.out (by simp) gl
  refine ⟨⟨v', (heap_setCell_same w3 g 0 _ 36 _ r3).trans rfl, Sq.of_blocks ht fun b hb => Below.heap_setCell _ _ _ _ (fun e => n3 (by cases e; exact hb)), rfl, n3⟩, ?_, ?_, free_of_one r3⟩
  · exact (hc.frame (F := g :: vblk v) (F' := g :: vblk v') (by grind) (by grind)).setCell _ _ _ (by simp)
  · rw [cell_of_one r3, cell_of_one hg]
theorem grow {w0 W w' : World} {v v' : Value} {D : List X} {k : X} {ob : Obj} (hown : Sq w' 40 6 v' (D.length + 1) (rc D ++ rc [k])) (hgr : Chg (vblk v) (vblk v') (W.alloc ob) w') (hc : Chg [] (vblk v) w0 W) :
    Told w' v' (D ++ [k]) ∧ Chg [] (vblk v') w0 w' := ⟨Told.one_more hown, (hc.trans (Chg.of_below ((Below.refl _ _).alloc (Nat.le_refl _) _))).trans hgr⟩
/-- What is left without n from the place i on. -/
def dl (i n : Nat) (L : List X) : List X := L.take i ++ L.drop (i + n)
theorem dl_one (i n : Nat) (M : List X) (k : X) : dl i n (M ++ [k]) = if M.length < i ∨ i + n ≤ M.length then dl i n M ++ [k] else dl i n M := by
  unfold dl
  by_cases h1 : M.length < i
  · rw [if_pos (.inl h1), List.take_of_length_le (by simp; omega), List.take_of_length_le (by omega), List.drop_of_length_le (by simp; omega), List.drop_of_length_le (by omega)]
    simp
  · by_cases h2 : i + n ≤ M.length
    · rw [if_pos (.inr h2), List.take_append_of_le_length (by omega), List.drop_append_of_le_length h2, List.append_assoc]
    · rw [if_neg (by omega), List.take_append_of_le_length (by omega), List.drop_of_length_le (l := M ++ [k]) (by simp; omega), List.drop_of_length_le (l := M) (by omega)]
theorem dl_len (i n : Nat) (M : List X) : (dl i n M).length ≤ M.length := by
  unfold dl
  simp
  omega
set_option maxHeartbeats 4000000 in
theorem Rdrop_any (i n : Nat) (g : Nat) (F : List Nat) (L : List X) (w : World) (h : Rt w g F L) (hm : L.length ≤ 5000) (hi5 : i ≤ 5000) (hn5 : n ≤ 5000) :
    Calls Try.prog 36 #[.pointer (some ⟨g, 0, none⟩), .int .i64 (i : Nat), .int .i64 (n : Nat)] w fun e w' => e = .returned (.tuple #[]) ∧ ∃ F', Chg F F' w w' ∧ Rt w' g F' (dl i n L) := by
  have HM := Lib.hid h
  clear h
  obtain ⟨i0, hi0, hz0, hz1, hz2⟩ := info_parts (show (Try.prog.info? 40).map (fun i => (i.zero, i.size, i.bytes)) = some (some (.agg #[.int .i64 0, .int .i64 0, .int .i64 0, .bool false, .bool false, .bool false]), 6, 32) by kernel_rfl)
  go_enter Try.func36, Try.ntmps36
  go_wp2_with fail
  go_loopw [6, 7] (fun o s wr => ∃ (j : Nat) (lo : List X), j ≤ L.length ∧ s = .int .i64 (j : Nat) ∧ lo.length ≤ j ∧ RowKit.Hid (lo = dl i n (L.take j) ∧ Told wr o lo ∧ Chg [] (vblk o) w wr)) (fun _ s _ => L.length - (intOf s).toNat)
  case atStart => exact ⟨0, [], Nat.zero_le _, rfl, Nat.zero_le _, Lib.hid ⟨by simp [dl], Sq.nil _ _ _, by rw [vblk_nil]; exact Chg.refl _ _⟩⟩
  case round =>
    obtain ⟨j, lo, hj, rfl, hlo, HL⟩ := hrel
    have hbr : Below w.heap.size w wr := HL.out.2.2.below (fun b hb => by simp at hb) (Nat.le_refl _)
    obtain ⟨al', cl', c0w, hT', _⟩ := HM.out.cells
    have c0 := cell_keep hbr c0w
    obtain ⟨ao, cap, rfl, _, _⟩ := HL.out.2.1.slice
    by_cases hjl : j < L.length
    · obtain ⟨bl, cl2, hv, _, _, hbl, hcell, _⟩ := (hT'.below hbr).read (ne_nil_of_lt hjl)
      cases hv
      have hk := List.getElem?_eq_getElem hjl
      generalize L[j] = k at hk
      obtain ⟨e0, e1, e2, e3, e4, e5⟩ := hcell j _ hk
      have hjI : ((j : Nat) : Int) < ((L.length : Nat) : Int) := by omega
      have HTK := Lib.hid (take_succ' L j _ hk)
      have HDK := Lib.hid (dl_one i n (L.take j) k)
      rw [show (L.take j).length = j from by rw [List.length_take]; omega] at HDK
      clear hcell hk hbl hbr c0w hT'
      by_cases m1 : j < i ∨ i + n ≤ j
      · rw [if_pos m1] at HDK
        have hA : Below wr.heap.size wr (wr.alloc (.cells #[.int .i64 ((k.p : Nat) : Int), .int .i64 (3 * ((k.k : Nat) : Int)), .int .i64 k.v, .bool k.a, .bool k.b, .bool k.c] 40)) := (Below.refl _ _).alloc (Nat.le_refl _) _
        have hown := Told.below HL.out.2.1 hA
        have hnew := news_alloc wr #[.int .i64 ((k.p : Nat) : Int), .int .i64 (3 * ((k.k : Nat) : Int)), .int .i64 k.v, .bool k.a, .bool k.b, .bool k.c] 40
        clear hA
        have HGO := Lib.hid (fun v7 w7 (hown7 : Sq w7 40 6 v7 (lo.length + 1) (rc lo ++ rc [k])) (hgr7 : Chg (vblk (.slice ao lo.length cap)) (vblk v7) (wr.alloc (.cells #[.int .i64 ((k.p : Nat) : Int), .int .i64 (3 * ((k.k : Nat) : Int)), .int .i64 k.v, .bool k.a, .bool k.b, .bool k.c] 40)) w7) => grow hown7 hgr7 HL.out.2.2)
        by_cases m2 : j < i
        · have m2I : ((j : Nat) : Int) < ((i : Nat) : Int) := by omega
          go_wp2_with (at_builtin; refine wpList_append_any _ rfl (.tmp 27) (.tmp 35) 34 rfl 40 i0 (.agg #[.int .i64 0, .int .i64 0, .int .i64 0, .bool false, .bool false, .bool false]) 6 32 Try.underlying34 hi0 hz0 hz1 hz2 rfl (by decide) (.slice ao lo.length cap) lo.length (rc lo) rfl hown (some ⟨wr.heap.size, 0, none⟩) 1 1 (rc [k]) rfl (fun h => by cases h) rfl (fun a ha => by cases ha; exact (by rw [rc_one]; exact hnew)) (rc_onecell _) (by unfold maxLen; omega) (by omega) ?_; intro v7 w7 hown7 hgr7; have HG := Lib.hid (HGO.out v7 w7 hown7 hgr7); clear hgr7; obtain ⟨ao7, cap7, rfl, _, _⟩ := Sq.slice hown7)
          exact ⟨⟨j + 1, lo ++ [k], hjl, by simp, by simp; omega, Lib.hid ⟨by rw [HTK.out, HDK.out, ← HL.out.1], HG.out.1, HG.out.2⟩⟩, by simp [intOf]; omega⟩
        · have m2I : ¬ (((j : Nat) : Int) < ((i : Nat) : Int)) := by omega
          have m3I : ((i : Nat) : Int) + ((n : Nat) : Int) ≤ ((j : Nat) : Int) := by omega
          go_wp2_with (at_builtin; refine wpList_append_any _ rfl (.tmp 27) (.tmp 35) 34 rfl 40 i0 (.agg #[.int .i64 0, .int .i64 0, .int .i64 0, .bool false, .bool false, .bool false]) 6 32 Try.underlying34 hi0 hz0 hz1 hz2 rfl (by decide) (.slice ao lo.length cap) lo.length (rc lo) rfl hown (some ⟨wr.heap.size, 0, none⟩) 1 1 (rc [k]) rfl (fun h => by cases h) rfl (fun a ha => by cases ha; exact (by rw [rc_one]; exact hnew)) (rc_onecell _) (by unfold maxLen; omega) (by omega) ?_; intro v7 w7 hown7 hgr7; have HG := Lib.hid (HGO.out v7 w7 hown7 hgr7); clear hgr7; obtain ⟨ao7, cap7, rfl, _, _⟩ := Sq.slice hown7)
          exact ⟨⟨j + 1, lo ++ [k], hjl, by simp, by simp; omega, Lib.hid ⟨by rw [HTK.out, HDK.out, ← HL.out.1], HG.out.1, HG.out.2⟩⟩, by simp [intOf]; omega⟩
      · rw [if_neg m1] at HDK
        have m2I : ¬ (((j : Nat) : Int) < ((i : Nat) : Int)) := by omega
        have m3I : ¬ (((i : Nat) : Int) + ((n : Nat) : Int) ≤ ((j : Nat) : Int)) := by omega
        go_wp2_with fail
        exact ⟨⟨j + 1, lo, hjl, by simp, by omega, Lib.hid ⟨by rw [HTK.out, HDK.out, ← HL.out.1], HL.out.2.1, HL.out.2.2⟩⟩, by simp [intOf]; omega⟩
    · have hjl2 : j = L.length := by omega
      have hlo2 := HL.out.1
      rw [hjl2, List.take_length] at hlo2
      obtain ⟨t1, t2, t3, t4⟩ := HM.out.set HL.out.2.2 HL.out.2.1
      rw [c0w] at t3
      have HS := Lib.hid (And.intro t1 t2)
      have HR1 := Lib.hid hlo2
      clear t1 t2 hlo2 c0 c0w hbr hT'
      go_wp2_with fail
      go_end0
      exact ⟨rfl, _, HS.out.2, by rw [← HR1.out]; exact HS.out.1⟩

end Go.Proofs.Ytdnnfoojdfmajaa

/- Parts of the proofs of layer 6 (pick): contracts of its functions, and the laws' walks. -/
import Derived.Test.YtekkblhghbkdiaaProg
import Derived.WalkKit
import Derived.WalkSpells
import Derived.WalkLawsBesides
import Derived.BigQuiet
import Derived.Deep.QuietTactic
import Derived.Lib.Hide
import Derived.Deep.RegionHeld3
import Derived.Deep.DeepCutAuto
import Derived.KernelRfl
import Derived.Deep.OwnRows
import Derived.Laws.CopyOwn
import Derived.Laws.CopyRow
import Derived.StillTailTactics
import Derived.Deep.RegionLaw
import Derived.Test.YtekkblhghbkdiaaP5
namespace Go.Proofs.Ytekkblhghbkdiaa
open Go.RowKit
set_option linter.unusedVariables false
set_option linter.unusedSimpArgs false

theorem assert54 (a b : Int) (w : World) : (Instr.typeAssert (.iface 54 (.agg #[.int .i64 a, .int .i64 b])) 20 54 true).run Try.prog w = .ok (.tuple #[.agg #[.int .i64 a, .int .i64 b], .bool true]) w := by kernel_rfl
theorem more_done {w w1 w2 wa w3 : World} {p b n : Nat} {F : List Nat} {L : List E} {x : E} {ψ : Int → Option Int} {v v' : Value} (hF : F = p :: b :: vblk v) (hpb : p ≠ b) (hpv : p ∉ vblk v) (hbv : b ∉ vblk v) (hc1 : Chg F F w w1) (hc2 : Chg [b] [b] w1 w2)
    (hp : w2.heap[p]? = some (.cells #[v, .map (some b), lsV] 59 (0, 0))) (hm : MX w2 b n ψ) (hA : Below w2.heap.size w2 wa) (hown : Sq w3 54 2 v' (L.length + 1) (rc L ++ rc [x])) (hgr : Chg (vblk v) (vblk v') wa.drew w3)
    (y3 : w3.heap[p]? = some (.cells #[v, .map (some b), lsV] 59 (0, 0))) : ∃ F', Chg F F' w (w3.setCell ⟨p, 0, none⟩ v') ∧ Pq (w3.setCell ⟨p, 0, none⟩ v') p F' (L ++ [x]) n ψ := by
  have hg : Chg (vblk v) (vblk v') w2 w3 := (Chg.of_below hA).trans hgr.drew'
  have hp3 := hg.out hpv (lt_of_block hp)
  have hb3 := hg.out hbv hm.lt
  refine ⟨p :: b :: vblk v', ?_, v', b, (heap_setCell_same w3 p 0 _ 59 _ y3).trans rfl, (Told.one_more hown).set_other hp3 _ _, ?_, rfl, hpb, hp3, hb3⟩
  · have e2 : Chg F F w1 w2 := hc2.frame (by rw [hF]; simp) (fun _ h => .inr h)
    have e3 : Chg F (p :: b :: vblk v') w2 w3 := hg.frame (by rw [hF]; intro y hy; simp [hy]) (fun y hy => by
      rcases List.mem_cons.1 hy with rfl | hy
      · exact .inr (by rw [hF]; simp)
      · rcases List.mem_cons.1 hy with rfl | hy
        · exact .inr (by rw [hF]; simp)
        · exact .inl hy)
    exact ((hc1.trans e2).trans e3).setCell _ _ _ (by simp)
  · exact (hm.of_block (hg.block hm.lt hbv)).of_block (Below.heap_setCell _ _ _ _ (fun e => hpb e.symm))
set_option maxHeartbeats 2000000 in
theorem push_any (p : Nat) (F : List Nat) (L : List E) (n : Nat) (φ : Int → Option Int) (x : E) (w : World) (h : Pq w p F L n φ) (hf : wf x.f) (hm : L.length ≤ 4000) (hn : n < maxLen) (hs : φ x.f = none) :
    Calls Try.prog 48 #[.pointer (some ⟨p, 0, none⟩), .iface 54 (.agg #[.int .i64 x.f, .int .i64 x.w])] w fun e w' => e = .returned (.tuple #[]) ∧ ∃ F', Chg F F' w w' ∧ Pq w' p F' (L ++ [x]) (n + 1) (upd φ x.f (some (L.length : Nat))) := by
  have HH := Lib.hid h
  clear h
  have hta : ∀ w0, (Instr.typeAssert (.iface 54 (.agg #[.int .i64 x.f, .int .i64 x.w])) 20 54 true).run Try.prog w0 = .ok (.tuple #[.agg #[.int .i64 x.f, .int .i64 x.w], .bool true]) w0 := fun w0 => assert54 x.f x.w w0
  have HBF := Lib.hid fun (o : Obj) => HH.out.below ((Below.refl w.heap.size w).alloc (Nat.le_refl _) o)
  go_enter Try.func48, Try.ntmps48
  go_upto_region 1 with fail
  have hx1 := heap_alloc_new w (.cells #[.int .i64 x.f, .int .i64 x.w] 54)
  have h1 := HBF.out (.cells #[.int .i64 x.f, .int .i64 x.w] 54)
  have HC1 := Lib.hid (show Chg F F w (w.alloc (.cells #[.int .i64 x.f, .int .i64 x.w] 54)) from Chg.of_below ((Below.refl w.heap.size w).alloc (Nat.le_refl _) _))
  have HBn := Lib.hid (show w.heap.size ∉ F from fun hb => Nat.lt_irrefl _ (HH.out.lt _ hb))
  clear hta HBF HH
  generalize w.alloc (.cells #[.int .i64 x.f, .int .i64 x.w] 54) = w1 at *
  generalize w.heap.size = B at *
  obtain ⟨ao, cap, b, c0, c1, c2, fz, ht, hmx, hp, hF, hpb, hpv, hbv⟩ := h1.cells
  have hBp : p ≠ B := fun e => HBn.out (by rw [hF, e]; simp)
  have hBb : b ≠ B := fun e => HBn.out (by rw [hF, e]; simp)
  have hBv : ∀ y ∈ vblk (.slice ao L.length cap), y ≠ B := fun y hy e => HBn.out (by rw [hF, ← e]; simp [hy])
  have x0 : w1.cell? ⟨B, 0, none⟩ = some (.int .i64 x.f) := cell_of_row w1 B 0 _ 54 _ hx1
  have hm1 : MX w1.drew b n φ := hmx
  obtain ⟨w2, hrun, hm2, htu⟩ := hm1.store hf (wf_small (x := (L.length : Nat)) (by omega)) hn
  rw [hs, if_neg (by simp)] at hm2
  have hc2 : Chg [b] [b] w1 w2 := (mapTurned_chg htu).drew'
  have hp2 := (hc2.block (lt_of_block hp) (by simpa using hpb)).trans hp
  have hx2 := (hc2.block (lt_of_block hx1) (by simpa using Ne.symm hBb)).trans hx1
  have ht2 := ht.chg hc2 (fun y hy hm => by simp at hm; exact hbv (hm ▸ hy))
  have HM2 := Lib.hid (And.intro hm2 (And.intro hc2 (And.intro hp2 ht2)))
  clear hm1 hmx htu h1 c2 fz ht hp hm2
  go_still_tail 11, (by kernel_rfl)
  change wpList _ _ _ _ _ (World.drew _)
  go_upto_region 2 with fail
  clear c0 c1 x0 hx1 hrun hc2
  have hA : Below w2.heap.size w2 (w2.alloc (.cells #[.int .i64 x.f, .int .i64 x.w] 54)) := (Below.refl _ _).alloc (Nat.le_refl _) _
  have hown := Told.below ht2 hA
  have hnew := news_alloc w2 #[.int .i64 x.f, .int .i64 x.w] 54
  have c0 : w2.cell? ⟨p, 0, none⟩ = some (.slice ao L.length cap) := cell_of_row w2 p 0 _ 59 _ hp2
  have x0 : w2.cell? ⟨B, 0, none⟩ = some (.int .i64 x.f) := cell_of_row w2 B 0 _ 54 _ hx2
  have x1 : w2.cell? ⟨B, 1, none⟩ = some (.int .i64 x.w) := cell_of_row w2 B 1 _ 54 _ hx2
  have c0A := cell_keep hA c0
  have x0A := cell_keep hA x0
  have x1A := cell_keep hA x1
  have HX := Lib.hid (And.intro (And.intro (hA.block _ (lt_of_block hp2)) (lt_of_block hp2)) hA)
  clear hA hp2 hx2 ht2
  obtain ⟨i0, hi0, hz0, hz1, hz2⟩ := info_parts (show (Try.prog.info? 54).map (fun i => (i.zero, i.size, i.bytes)) = some (some (.agg #[.int .i64 0, .int .i64 0]), 2, 16) by kernel_rfl)
  go_region_law (first | (refine step_append_any _ rfl (.tmp 26) (.tmp 28) 55 rfl 54 i0 (.agg #[.int .i64 0, .int .i64 0]) 2 16 Try.underlying55 hi0 hz0 hz1 hz2 rfl (by decide) (.slice ao L.length cap) L.length (rc L) rfl hown (some ⟨w2.heap.size, 0, none⟩) 1 1 (rc [x]) rfl (fun h => by cases h) rfl (fun a ha => by cases ha; rw [rc_one]; exact hnew) (rc_onecell _) (by unfold maxLen; omega) (by omega) ?_; intro v' w3 hown3 hgr; obtain ⟨ao3, cap3, rfl, _, _⟩ := Sq.slice hown3; have y3 := (hgr.block (by simp; have := HX.out.1.2; omega) hpv).trans (HX.out.1.1.trans HM2.out.2.2.1); have b3' := cell_of_row w3 p 0 _ 59 _ y3; have f3' := fun j => frozen_of_row w3 p j _ 59 y3))
  all_goals
    have HF := Lib.hid (And.intro hown3 (And.intro hgr y3))
    clear hown3 hgr y3 b3' f3' c0 x0 x1 c0A x0A x1A hown hnew hi0 hz0 hz1 hz2
    go_wp2_with fail
    go_end0
    exact ⟨rfl, more_done hF hpb hpv hbv HC1.out HM2.out.2.1 HM2.out.2.2.1 HM2.out.1 HX.out.2 HF.out.1 HF.out.2.1 HF.out.2.2⟩

end Go.Proofs.Ytekkblhghbkdiaa

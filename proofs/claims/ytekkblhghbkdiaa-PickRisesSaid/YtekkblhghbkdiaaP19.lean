/- Parts of the proofs of layer 6 (pick): contracts of its functions, and the laws' walks. -/
import Derived.Test.YtekkblhghbkdiaaProg
import Derived.WalkKit
import Derived.WalkSpells
import Derived.WalkLawsBesides
import Derived.BigQuiet
import Derived.Deep.QuietTactic
import Derived.Lib.Hide
import Derived.Deep.RegionHeld3
import Derived.Deep.DeepCutAuto
import Derived.KernelRfl
import Derived.Deep.OwnRows
import Derived.Laws.CopyOwn
import Derived.Laws.CopyRow
import Derived.StillTailTactics
import Derived.Deep.RegionLaw
import Derived.Test.YtekkblhghbkdiaaP18
import Derived.OwnWalk
namespace Go.Proofs.Ytekkblhghbkdiaa
open Go.RowKit
set_option linter.unusedVariables false
set_option linter.unusedSimpArgs false

theorem Rt.look {w : World} {g : Nat} {F : List Nat} {L : List E} (h : Rt w g F L) : ∃ ao cap, w.cell? ⟨g, 0, none⟩ = some (.slice ao L.length cap) ∧ Told 41 w (.slice ao L.length cap) L := by
  obtain ⟨ao, cap, h1, h2, _⟩ := h.cells
  exact ⟨ao, cap, h1, h2⟩
theorem putM_perm {x : E} {M R : List E} (h : M.Perm R) : (putM x M).Perm (putM x R) := by
  unfold putM
  split
  · exact List.Perm.cons x (wo_perm h)
  · exact h
/-- Both, apart; M: what the one holds, R: what the reference holds; their blocks no older than w0. -/
def Tv (B : Nat) (W : World) (p : Nat) (F1 : List Nat) (g : Nat) (F2 : List Nat) (M R : List E) : Prop := PH W p F1 M ∧ Rt W g F2 R ∧ Sep F1 F2 ∧ ∀ b, b ∈ F1 ++ F2 → B ≤ b
def Tw (w0 W : World) (p : Nat) (F1 : List Nat) (g : Nat) (F2 : List Nat) (M R : List E) : Prop := Tv w0.heap.size W p F1 g F2 M R ∧ Below w0.heap.size w0 W
theorem Tw.keep {w0 W W' : World} {p g : Nat} {F1 F2 : List Nat} {M R : List E} (h : Tw w0 W p F1 g F2 M R) (hb : Below W.heap.size W W') : Tw w0 W' p F1 g F2 M R :=
  ⟨⟨h.1.1.below hb, h.1.2.1.below hb, h.1.2.2.1, h.1.2.2.2⟩, h.2.trans (hb.mono h.2.size)⟩
theorem Tw.prog {w0 W W' : World} {p g : Nat} {F1 F1' F2 : List Nat} {M M' R : List E} (h : Tw w0 W p F1 g F2 M R) (hc : Chg F1 F1' W W') (hk : PH W' p F1' M') : Tw w0 W' p F1' g F2 M' R := by
  obtain ⟨⟨h1, h2, h3, h4⟩, h5⟩ := h
  refine ⟨⟨hk, h2.chg hc h3.symm, hc.sep h3 h2.lt, fun b hb => ?_⟩, h5.trans (hc.below (fun b hb => h4 b (by simp [hb])) h5.size)⟩
  rcases List.mem_append.1 hb with hb | hb
  · exact hc.ge (fun b hb => h4 b (by simp [hb])) h5.size b hb
  · exact h4 b (by simp [hb])
theorem Tw.ref {w0 W W' : World} {p g : Nat} {F1 F2 F2' : List Nat} {M R R' : List E} (h : Tw w0 W p F1 g F2 M R) (hc : Chg F2 F2' W W') (hk : Rt W' g F2' R') : Tw w0 W' p F1 g F2' M R' := by
  obtain ⟨⟨h1, h2, h3, h4⟩, h5⟩ := h
  refine ⟨⟨h1.chg hc h3, hk, (hc.sep h3.symm h1.lt).symm, fun b hb => ?_⟩, h5.trans (hc.below (fun b hb => h4 b (by simp [hb])) h5.size)⟩
  rcases List.mem_append.1 hb with hb | hb
  · exact h4 b (by simp [hb])
  · exact hc.ge (fun b hb => h4 b (by simp [hb])) h5.size b hb
theorem Tw.left {w0 W : World} {p g : Nat} {F1 F2 : List Nat} {M M' R : List E} (h : Tw w0 W p F1 g F2 M R) (hp : M.Perm M') : Tw w0 W p F1 g F2 M' R := ⟨⟨h.1.1.perm hp, h.1.2⟩, h.2⟩
theorem tw_start {w w1 : World} {p : Nat} {F1 : List Nat} (hc : Chg [] F1 w w1) (hk : PH w1 p F1 []) : Tw w (w1.alloc (.cells #[.slice none 0 0] 28)) p F1 w1.heap.size [w1.heap.size] [] [] := by
  have hA : Below w1.heap.size w1 (w1.alloc (.cells #[.slice none 0 0] 28)) := (Below.refl _ _).alloc (Nat.le_refl _) _
  have hb := hc.below (C := w.heap.size) (fun b hb => by simp at hb) (Nat.le_refl _)
  have hl := hk.lt
  refine ⟨⟨hk.below hA, ⟨_, heap_alloc_new w1 _, Sq.nil _ _ _, by simp [vblk_nil], by simp [vblk_nil]⟩, fun b hb hm => ?_, fun b hb' => ?_⟩, hb.trans (hA.mono hb.size)⟩
  · have := hl b hb
    simp at hm
    omega
  · rcases List.mem_append.1 hb' with hb' | hb'
    · exact hc.ge (fun b hb => by simp at hb) (Nat.le_refl _) b hb'
    · simp at hb'; have := hb.size; omega
/-- The calls that came in. -/
def Acts (w : World) (ao : Option Addr) (len : Nat) (z : Nat → Nat → Int) : Prop :=
  ∀ j, j < len → ∃ b o, ao = some ⟨b, o, none⟩ ∧ w.cell? ⟨b, o + j * 3, none⟩ = some (.int .i64 (z j 0)) ∧ w.cell? ⟨b, o + j * 3 + 1, none⟩ = some (.int .i64 (z j 1)) ∧ w.cell? ⟨b, o + j * 3 + 2, none⟩ = some (.int .i64 (z j 2)) ∧ wf (z j 1)
theorem Acts.below {w w' : World} {ao : Option Addr} {len : Nat} {z : Nat → Nat → Int} (h : Acts w ao len z) (hb : Below w.heap.size w w') : Acts w' ao len z := fun j hj => by
  obtain ⟨b, o, e, e0, e1, e2, e3⟩ := h j hj
  exact ⟨b, o, e, cell_keep hb e0, cell_keep hb e1, cell_keep hb e2, e3⟩
theorem Acts.drew {w : World} {ao : Option Addr} {len : Nat} {z : Nat → Nat → Int} (h : Acts w ao len z) : Acts w.drew ao len z := h
theorem lt_of_fst {M : List E} {x e : E} (h : IsFst M x) (he : e ∈ wo x.f M) : lt x e := by
  obtain ⟨h1, h2⟩ := mem_wo.1 he
  have := h.2 e h1
  unfold le lt at this
  unfold lt
  omega

end Go.Proofs.Ytekkblhghbkdiaa

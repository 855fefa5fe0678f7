/- Parts of the proofs of layer 18 (gap): contracts of its functions, and the laws' walks. -/
import Derived.Test.YtkaglggljomgdaaProg
import Derived.WalkKit
import Derived.WalkSpells
import Derived.WalkLawsBesides
import Derived.BigQuiet
import Derived.Deep.QuietTactic
import Derived.Lib.Hide
import Derived.Deep.RegionHeld3
import Derived.Deep.DeepCutAuto
import Derived.KernelRfl
import Derived.Deep.OwnRows
import Derived.Laws.CopyOwn
import Derived.Laws.CopyRow
import Derived.StillTailTactics
import Derived.Deep.RegionLaw
import Derived.Test.YtkaglggljomgdaaH24
import Derived.OwnWalk
namespace Go.Proofs.Ytkaglggljomgdaa
open Go.RowKit
set_option linter.unusedVariables false
set_option linter.unusedSimpArgs false

/-- A slice of calls that came in: its elements' fields. -/
def Acts (w : World) (ao : Option Addr) (len : Nat) (z : Nat → Nat → Int) : Prop :=
  ∀ j, j < len → ∃ b o, ao = some ⟨b, o, none⟩ ∧ w.cell? ⟨b, o + j * 4, none⟩ = some (.int .i64 (z j 0)) ∧ w.cell? ⟨b, o + j * 4 + 1, none⟩ = some (.int .i64 (z j 1)) ∧ w.cell? ⟨b, o + j * 4 + 2, none⟩ = some (.int .i64 (z j 2)) ∧ w.cell? ⟨b, o + j * 4 + 3, none⟩ = some (.int .i64 (z j 3))
theorem Acts.below {w w' : World} {ao : Option Addr} {len : Nat} {z : Nat → Nat → Int} (h : Acts w ao len z) (hb : Below w.heap.size w w') : Acts w' ao len z := fun j hj => by
  obtain ⟨b, o, e, e0, e1, e2, e3⟩ := h j hj
  exact ⟨b, o, e, cell_keep hb e0, cell_keep hb e1, cell_keep hb e2, cell_keep hb e3⟩
/-- Both trees behind some calls, their blocks no older than B. -/
def Made (B : Nat) (W : World) (g : Nat) (F1 : List Nat) (g2 : Nat) (F2 : List Nat) (L : List (Int × Int)) : Prop := Two W g F1 g2 F2 L ∧ ∀ b, b ∈ F1 ++ F2 → B ≤ b
theorem Made.below {B : Nat} {w w' : World} {g g2 : Nat} {F1 F2 : List Nat} {L : List (Int × Int)} (t : Made B w g F1 g2 F2 L) (hb : Below w.heap.size w w') : Made B w' g F1 g2 F2 L := ⟨t.1.below hb, t.2⟩
theorem Made.step {B : Nat} {w w' : World} {g g2 : Nat} {F1 F2 F1' F2' : List Nat} {L L' : List (Int × Int)} (t : Made B w g F1 g2 F2 L) (hB : B ≤ w.heap.size) (h : Two w' g F1' g2 F2' L') (hc : Chg (F1 ++ F2) (F1' ++ F2') w w') : Made B w' g F1' g2 F2' L' ∧ Below B w w' :=
  ⟨⟨h, hc.ge t.2 hB⟩, hc.below t.2 hB⟩
set_option maxRecDepth 100000 in
set_option maxHeartbeats 8000000 in
theorem made_any (ao : Option Addr) (len cap : Nat) (z : Nat → Nat → Int) (w : World) (hlc : len ≤ cap) (hcm : cap ≤ maxLen) (hA : Acts w ao len z) :
    Calls Try.prog 10 #[.slice ao len cap] w fun e w' => ∃ g g2 F1 F2 L, e = .returned (.tuple #[.pointer (some ⟨g, 0, none⟩), .pointer (some ⟨g2, 0, none⟩), .bool true]) ∧ Made w.heap.size w' g F1 g2 F2 L ∧ Below w.heap.size w w' := by
  have hlen : len ≤ 9223372036854775807 := by unfold maxLen at hcm; omega
  go_enter Try.func10, Try.ntmps10
  go_wp2_with fail
  refine (new_any w).mono ?_
  rintro e w1 ⟨rfl, hc1, hk1⟩
  have hb1 : Below w.heap.size w w1 := hc1.below (fun b hb => by simp at hb) (Nat.le_refl _)
  have hA2 : Below w1.heap.size w1 (w1.alloc (.cells #[.slice none 0 0] 41)) := (Below.refl _ _).alloc (Nat.le_refl _) _
  have hg2 := heap_alloc_new w1 (.cells #[.slice none 0 0] 41)
  have hlt := hk1.lt
  have HI : RowKit.Hid (Made w.heap.size (w1.alloc (.cells #[.slice none 0 0] 41)) w.heap.size [w.heap.size] w1.heap.size [w1.heap.size] [] ∧ Below w.heap.size w (w1.alloc (.cells #[.slice none 0 0] 41))) := Lib.hid ⟨⟨⟨hk1.below hA2, ⟨.slice none 0 0, hg2, Sq.nil _ _ _, by simp [vblk_nil], by simp [vblk_nil]⟩, fun b hb hm => by have := hlt b hb; simp at hm; omega⟩, fun b hb => by have := hb1.size; simp at hb; omega⟩, hb1.trans (hA2.mono hb1.size)⟩
  have HA := Lib.hid hA
  clear hA hb1 hA2 hg2 hlt hk1 hc1
  generalize hg : w.heap.size = g at HI ⊢
  have HG := Lib.hid hg
  clear hg
  go_upto_region 2 with fail
  generalize w1.alloc (.cells #[.slice none 0 0] 41) = w2 at *
  generalize w1.heap.size = g2 at *
  go_wp2_with fail
  go_loopw [7] (fun s wr => ∃ i F1 F2 L, i ≤ len ∧ i ≤ 90 ∧ s = .int .i64 (i : Nat) ∧ RowKit.Hid (Made g wr g F1 g2 F2 L ∧ Below g w wr)) (fun s _ => len - (intOf s).toNat)
  case atStart => exact ⟨0, _, _, _, Nat.zero_le _, Nat.zero_le _, rfl, HI⟩
  case round =>
    obtain ⟨i, F1, F2, L, hi, hi80, rfl, HM⟩ := hrel
    by_cases hlt : i < len ∧ i < 90
    · obtain ⟨hlt, h80⟩ := hlt
      obtain ⟨lb, lo, rfl, e0, e1, e2, e3⟩ := (HA.out.below (by rw [HG.out]; exact HM.out.2)) i hlt
      go_wp2_with fail
      refine (do_any g F1 g2 F2 L _ _ _ _ wr HM.out.1.1).mono ?_
      rintro e w5 ⟨rfl, F1', F2', L', ht', hc'⟩
      obtain ⟨hm', hb'⟩ := HM.out.1.step (by rw [← HG.out]; exact HM.out.2.size) ht' hc'
      have HN := Lib.hid (And.intro hm' (HM.out.2.trans hb'))
      clear ht' hc' hm' hb' e0 e1 e2 e3
      go_wp2_with fail
      exact ⟨⟨i + 1, F1', F2', L', hlt, h80, by simp, HN⟩, by simp [intOf]; omega⟩
    · by_cases hil : i < len
      · have h6 : decide ((i : Int) < 90) = false := decide_eq_false (by omega)
        have h5 : decide ((i : Int) < (len : Int)) = true := decide_eq_true (by omega)
        clear hlt
        go_wp2_with fail
        refine bodyPost_ret (by simp [results, Try.results10, go_sem]) rfl ⟨g, g2, F1, F2, L, rfl, ?_⟩
        rw [HG.out]
        exact HM.out
      · have h5 : decide ((i : Int) < (len : Int)) = false := decide_eq_false (by omega)
        clear hlt
        go_wp2_with fail
        refine bodyPost_ret (by simp [results, Try.results10, go_sem]) rfl ⟨g, g2, F1, F2, L, rfl, ?_⟩
        rw [HG.out]
        exact HM.out

end Go.Proofs.Ytkaglggljomgdaa

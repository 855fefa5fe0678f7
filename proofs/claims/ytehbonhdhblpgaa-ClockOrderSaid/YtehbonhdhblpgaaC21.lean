/- Parts of the proofs of layer 25 (clock): contracts of its functions, and the laws' walks. -/
import Derived.Test.YtehbonhdhblpgaaProg
import Derived.WalkKit
import Derived.WalkSpells
import Derived.WalkLawsBesides
import Derived.BigQuiet
import Derived.Deep.QuietTactic
import Derived.Lib.Hide
import Derived.Deep.RegionHeld3
import Derived.Deep.DeepCutAuto
import Derived.KernelRfl
import Derived.Deep.OwnRows
import Derived.Laws.CopyOwn
import Derived.Laws.CopyRow
import Derived.StillTailTactics
import Derived.Deep.RegionLaw
import Derived.Test.YtehbonhdhblpgaaC20
namespace Go.Proofs.Ytehbonhdhblpgaa
open Go.RowKit
set_option linter.unusedVariables false
set_option linter.unusedSimpArgs false

theorem RC.new (w : World) : RC (w.alloc (.cells #[.slice none 0 0, .int .i64 0] 42)) w.heap.size [w.heap.size] [] 0 :=
  ⟨.slice none 0 0, rfl, by simp [vblk_nil], heap_alloc_new _ _, Sq.nil _ _ _, .inr ⟨rfl, rfl⟩⟩
/-- Both clocks behind some calls, their blocks no older than B. -/
def Made (B : Nat) (w : World) (g : Nat) (F1 : List Nat) (g2 : Nat) (F2 : List Nat) (ks L : List K) (h m : Nat) : Prop := Two w g F1 g2 F2 ks L h ∧ (ks.length ≤ m ∧ AgeOk ks m) ∧ ∀ b, b ∈ F1 ++ F2 → B ≤ b
theorem Made.more {B m m' : Nat} {w : World} {g g2 h : Nat} {F1 F2 : List Nat} {ks L : List K} (t : Made B w g F1 g2 F2 ks L h m) (hm : m ≤ m') : Made B w g F1 g2 F2 ks L h m' :=
  ⟨t.1, ⟨Nat.le_trans t.2.1.1 hm, fun k hk => by have := t.2.1.2 k hk; omega⟩, t.2.2⟩
theorem Made.step {B m : Nat} {w w' : World} {g g2 h : Nat} {F1 F2 : List Nat} {ks L : List K} (t : Made B w g F1 g2 F2 ks L h m) (hB : B ≤ w.heap.size) (hm : m ≤ 1000) (p : DoPost w g F1 g2 F2 ks w') :
    ∃ F1' F2' ks' L' h', Made B w' g F1' g2 F2' ks' L' h' (m + 1) ∧ Below B w w' := by
  obtain ⟨F1', F2', ks', L', h', h1, h2, h3, h4⟩ := p
  exact ⟨F1', F2', ks', L', h', ⟨h1, ⟨by have := t.2.1.1; omega, h4 m hm t.2.1.2⟩, h2.ge t.2.2 hB⟩, h2.below t.2.2 hB⟩
set_option maxRecDepth 100000 in
set_option maxHeartbeats 8000000 in
theorem made_any (ao : Option Addr) (len cap : Nat) (z : Nat → Nat → Int) (w : World) (hlc : len ≤ cap) (hcm : cap ≤ maxLen) (hA : Acts w ao len z) :
    Calls Try.prog 16 #[.slice ao len cap] w fun e w' => ∃ g g2 F1 F2 ks L h, e = .returned (.tuple #[.pointer (some ⟨g, 0, none⟩), .pointer (some ⟨g2, 0, none⟩), .bool true]) ∧ Made w.heap.size w' g F1 g2 F2 ks L h 80 ∧ Below w.heap.size w w' := by
  have hlen : len ≤ 9223372036854775807 := by unfold maxLen at hcm; omega
  go_enter Try.func16, Try.ntmps16
  go_wp2_with fail
  refine (new_any w).mono ?_
  rintro e w1 ⟨rfl, hb1, hk1⟩
  have hA2 : Below w1.heap.size w1 (w1.alloc (.cells #[.slice none 0 0, .int .i64 0] 42)) := (Below.refl _ w1).alloc (Nat.le_refl _) _
  have hr := RC.new w1
  have hlt := hk1.lt
  have HI : RowKit.Hid (Made w.heap.size (w1.alloc (.cells #[.slice none 0 0, .int .i64 0] 42)) w.heap.size [w.heap.size] w1.heap.size [w1.heap.size] [] [] 0 0 ∧ Below w.heap.size w (w1.alloc (.cells #[.slice none 0 0, .int .i64 0] 42))) := Lib.hid (by
    refine ⟨⟨⟨hk1.below hA2, hr, ?_, Rel.nil⟩, ⟨Nat.le_refl _, fun k hk => by simp at hk⟩, ?_⟩, hb1.trans (hA2.mono hb1.size)⟩
    · intro b hb hm
      have := hlt b hb
      simp at hm
      omega
    · intro b hb
      simp at hb
      have := hb1.size
      omega)
  have HA := Lib.hid hA
  clear hA hb1 hk1 hA2 hr hlt
  go_upto_region 4 with fail
  generalize (w1.alloc (.cells #[.slice none 0 0, .int .i64 0] 42)) = w2 at HI ⊢
  generalize w1.heap.size = g2 at HI ⊢
  generalize hg : w.heap.size = g at HI ⊢
  have HG := Lib.hid hg
  clear hg
  go_wp2_with fail
  go_loopw [7] (fun s wr => ∃ i F1 F2 ks L h, i ≤ len ∧ i ≤ 80 ∧ s = .int .i64 (i : Nat) ∧ RowKit.Hid (Made g wr g F1 g2 F2 ks L h i ∧ Below g w wr)) (fun s _ => len - (intOf s).toNat)
  case atStart => exact ⟨0, _, _, _, _, _, Nat.zero_le _, Nat.zero_le _, rfl, HI⟩
  case round =>
    obtain ⟨i, F1, F2, ks, L, h, hi, hi80, rfl, HM⟩ := hrel
    by_cases hlt : i < len ∧ i < 80
    · obtain ⟨hlt, h80⟩ := hlt
      obtain ⟨lb, lo, rfl, e0, e1, e2, e3, e4⟩ := (HA.out.below (by rw [HG.out]; exact HM.out.2)) i hlt
      go_wp2_with fail
      refine (do_any g F1 g2 F2 ks L h _ _ _ _ _ wr HM.out.1.1 (by have := HM.out.1.2.1.1; omega)).mono ?_
      rintro e w5 ⟨rfl, hp⟩
      obtain ⟨F1', F2', ks', L', h', hm', hb'⟩ := HM.out.1.step (by rw [← HG.out]; exact HM.out.2.size) (by omega) hp
      have HN := Lib.hid (And.intro hm' (HM.out.2.trans hb'))
      clear hp hm' hb' e0 e1 e2 e3 e4
      go_wp2_with fail
      exact ⟨⟨i + 1, F1', F2', ks', L', h', hlt, h80, by simp, HN⟩, by simp [intOf]; omega⟩
    · have HMM : RowKit.Hid (Made g wr g F1 g2 F2 ks L h 80 ∧ Below g w wr) := Lib.hid ⟨HM.out.1.more hi80, HM.out.2⟩
      by_cases hil : i < len
      · have h6 : decide ((i : Int) < 80) = false := decide_eq_false (by omega)
        have h5 : decide ((i : Int) < (len : Int)) = true := decide_eq_true (by omega)
        clear hlt
        go_wp2_with fail
        refine bodyPost_ret (by simp [results, Try.results16, go_sem]) rfl ⟨g, g2, F1, F2, ks, L, h, rfl, ?_⟩
        rw [HG.out]
        exact HMM.out
      · have h5 : decide ((i : Int) < (len : Int)) = false := decide_eq_false (by omega)
        clear hlt
        go_wp2_with fail
        refine bodyPost_ret (by simp [results, Try.results16, go_sem]) rfl ⟨g, g2, F1, F2, ks, L, h, rfl, ?_⟩
        rw [HG.out]
        exact HMM.out

end Go.Proofs.Ytehbonhdhblpgaa

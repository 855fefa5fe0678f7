/- Parts of the proofs of layer 19 (radix): contracts of its functions, and the laws' walks. -/
import Derived.Test.YtdnnfoojdfmajaaProg
import Derived.WalkKit
import Derived.WalkSpells
import Derived.WalkLawsBesides
import Derived.BigQuiet
import Derived.Deep.QuietTactic
import Derived.Lib.Hide
import Derived.Deep.RegionHeld3
import Derived.Deep.DeepCutAuto
import Derived.KernelRfl
import Derived.Deep.OwnRows
import Derived.Laws.CopyOwn
import Derived.Laws.CopyRow
import Derived.StillTailTactics
import Derived.Deep.RegionLaw
import Derived.Handy
import Derived.Deep.CutRange
import Derived.Deep.CutBlock
import Derived.Test.YtdnnfoojdfmajaaA12
namespace Go.Proofs.Ytdnnfoojdfmajaa
open Go.RowKit
set_option linter.unusedVariables false
set_option linter.unusedSimpArgs false

structure Ac where
  kind : Int
  page : Int
  o : Int
  v : Int
  mark : Int
  on : Bool
/-- The calls that came in. -/
def Acts (w : World) (ao : Option Addr) (len : Nat) (z : Nat → Ac) : Prop :=
  ∀ j, j < len → ∃ b o, ao = some ⟨b, o, none⟩ ∧ w.cell? ⟨b, o + j * 6, none⟩ = some (.int .i64 (z j).kind) ∧ w.cell? ⟨b, o + j * 6 + 1, none⟩ = some (.int .i64 (z j).page) ∧ w.cell? ⟨b, o + j * 6 + 2, none⟩ = some (.int .i64 (z j).o) ∧ w.cell? ⟨b, o + j * 6 + 3, none⟩ = some (.int .i64 (z j).v) ∧ w.cell? ⟨b, o + j * 6 + 4, none⟩ = some (.int .i64 (z j).mark) ∧ w.cell? ⟨b, o + j * 6 + 5, none⟩ = some (.bool (z j).on)
theorem Acts.below {w w' : World} {ao : Option Addr} {len : Nat} {z : Nat → Ac} (h : Acts w ao len z) (hb : Below w.heap.size w w') : Acts w' ao len z := fun j hj => by
  obtain ⟨b, o, e, e0, e1, e2, e3, e4, e5⟩ := h j hj
  exact ⟨b, o, e, cell_keep hb e0, cell_keep hb e1, cell_keep hb e2, cell_keep hb e3, cell_keep hb e4, cell_keep hb e5⟩
theorem Tw.new (w : World) : Tw ((w.alloc (treeO none 0 0)).alloc (.cells #[.slice none 0 0] 36)) w.heap.size (w.alloc (treeO none 0 0)).heap.size σ0 [] [w.heap.size] [(w.alloc (treeO none 0 0)).heap.size] := by
  have hb : Below (w.alloc (treeO none 0 0)).heap.size (w.alloc (treeO none 0 0)) ((w.alloc (treeO none 0 0)).alloc (.cells #[.slice none 0 0] 36)) := (Below.refl _ _).alloc (Nat.le_refl _) _
  have hc0 : ((cntN σ0.N : Nat) : Int) = 0 := by
    have : cntN σ0.N = 0 := by
      unfold cntN
      rw [List.countP_eq_zero]
      intro x _
      simp [σ0]
    rw [this]
    rfl
  refine ⟨by rw [hc0]; exact (new_Hp w).below hb, ⟨.slice none 0 0, heap_alloc_new _ _, Sq.nil _ _ _, by simp [vblk_nil], by simp [vblk_nil]⟩, ab_nil, good_nil, fun b h1 h2 => ?_⟩
  have := (new_Hp w).lt b h1
  simp only [List.mem_singleton] at h2
  omega
/-- Both behind some calls, their blocks no older than B. -/
def Made (B : Nat) (w : World) (t r : Nat) (σ : St) (L : List X) (F G : List Nat) : Prop := Tw w t r σ L F G ∧ ∀ b, b ∈ F ++ G → B ≤ b
theorem Made.step {B : Nat} {w w' : World} {t r : Nat} {σ : St} {L : List X} {F G : List Nat} {kind page : Int} {e : Ending} (h : Made B w t r σ L F G) (hB : B ≤ w.heap.size) (p : DoOk w t r L F G kind page e w') : ∃ σ' L' F' G', Made B w' t r σ' L' F' G' ∧ Below B w w' := by
  obtain ⟨_, σ', L', F', G', h1, h2, _⟩ := p
  exact ⟨σ', L', F', G', ⟨h1, h2.ge h.2 hB⟩, h2.below h.2 hB⟩
set_option maxRecDepth 100000 in
set_option maxHeartbeats 8000000 in
theorem made_any (ao : Option Addr) (len cap : Nat) (z : Nat → Ac) (w : World) (hlc : len ≤ cap) (hcm : cap ≤ maxLen) (hA : Acts w ao len z) :
    Calls Try.prog 9 #[.slice ao len cap] w fun e w' => ∃ t r σ L F G, e = .returned (.tuple #[.pointer (some ⟨t, 0, none⟩), .pointer (some ⟨r, 0, none⟩), .bool true]) ∧ Made w.heap.size w' t r σ L F G ∧ Below w.heap.size w w' := by
  have hlen : len ≤ 9223372036854775807 := by unfold maxLen at hcm; omega
  have hs : (w.alloc (treeO none 0 0)).heap.size = w.heap.size + 1 := by simp
  have hT := Tw.new w
  rw [hs] at hT
  have hbA : Below w.heap.size w ((w.alloc (treeO none 0 0)).alloc (.cells #[.slice none 0 0] 36)) := ((Below.refl _ _).alloc (Nat.le_refl _) _).alloc (by simp) _
  go_enter Try.func9, Try.ntmps9
  go_wp2_with fail
  refine (New_any w).mono ?_
  rintro e w1 ⟨rfl, rfl⟩
  have HI : RowKit.Hid (Made w.heap.size ((w.alloc (treeO none 0 0)).alloc (.cells #[.slice none 0 0] 36)) w.heap.size (w.heap.size + 1) σ0 [] [w.heap.size] [w.heap.size + 1] ∧ Below w.heap.size w ((w.alloc (treeO none 0 0)).alloc (.cells #[.slice none 0 0] 36))) := Lib.hid ⟨⟨hT, fun b hb => by simp at hb; omega⟩, hbA⟩
  have HA := Lib.hid hA
  clear hA hT hbA hs
  go_upto_region 2 with fail
  generalize (w.alloc (treeO none 0 0)).alloc (.cells #[.slice none 0 0] 36) = w2 at HI ⊢
  generalize w.heap.size + 1 = g2 at HI ⊢
  generalize hg : w.heap.size = g at HI ⊢
  have HG := Lib.hid hg
  clear hg
  go_wp2_with fail
  go_loopw [7] (fun s wr => ∃ i σ L F G, i ≤ len ∧ i ≤ 40 ∧ s = .int .i64 (i : Nat) ∧ RowKit.Hid (Made g wr g g2 σ L F G ∧ Below g w wr)) (fun s _ => len - (intOf s).toNat)
  case atStart => exact ⟨0, _, _, _, _, Nat.zero_le _, Nat.zero_le _, rfl, HI⟩
  case round =>
    obtain ⟨i, σ, L, F, G, hi, hi80, rfl, HM⟩ := hrel
    by_cases hlt : i < len ∧ i < 40
    · obtain ⟨hlt, h80⟩ := hlt
      obtain ⟨lb, lo, rfl, e0, e1, e2, e3, e4, e5⟩ := (HA.out.below (by rw [HG.out]; exact HM.out.2)) i hlt
      have HZ := Lib.hid (do_any (z i).kind (z i).page (z i).o (z i).v (z i).mark (z i).on g g2 σ L F G wr HM.out.1.1)
      generalize (z i).kind = a0 at *
      generalize (z i).page = a1 at *
      generalize (z i).o = a2 at *
      generalize (z i).v = a3 at *
      generalize (z i).mark = a4 at *
      generalize (z i).on = a5 at *
      go_wp2_with fail
      refine HZ.out.mono ?_
      intro e w5 hp
      obtain rfl := hp.1
      obtain ⟨σ', L', F', G', hm', hb'⟩ := HM.out.1.step (by rw [← HG.out]; exact HM.out.2.size) hp
      have HN := Lib.hid (And.intro hm' (HM.out.2.trans hb'))
      clear hp hm' hb' e0 e1 e2 e3 e4 e5
      go_wp2_with fail
      exact ⟨⟨i + 1, σ', L', F', G', hlt, h80, by simp, HN⟩, by simp [intOf]; omega⟩
    · by_cases hil : i < len
      · have h6 : decide ((i : Int) < 40) = false := decide_eq_false (by omega)
        have h5 : decide ((i : Int) < (len : Int)) = true := decide_eq_true (by omega)
        clear hlt
        go_wp2_with fail
        refine bodyPost_ret (by simp [results, Try.results9, go_sem]) rfl ⟨g, g2, σ, L, F, G, rfl, ?_⟩
        rw [HG.out]
        exact HM.out
      · have h5 : decide ((i : Int) < (len : Int)) = false := decide_eq_false (by omega)
        clear hlt
        go_wp2_with fail
        refine bodyPost_ret (by simp [results, Try.results9, go_sem]) rfl ⟨g, g2, σ, L, F, G, rfl, ?_⟩
        rw [HG.out]
        exact HM.out

end Go.Proofs.Ytdnnfoojdfmajaa

/- Parts of the proofs of layer 19 (radix): contracts of its functions, and the laws' walks. -/
import Derived.Test.YtdnnfoojdfmajaaProg
import Derived.WalkKit
import Derived.WalkSpells
import Derived.WalkLawsBesides
import Derived.BigQuiet
import Derived.Deep.QuietTactic
import Derived.Lib.Hide
import Derived.Deep.RegionHeld3
import Derived.Deep.DeepCutAuto
import Derived.KernelRfl
import Derived.Deep.OwnRows
import Derived.Laws.CopyOwn
import Derived.Laws.CopyRow
import Derived.StillTailTactics
import Derived.Deep.RegionLaw
import Derived.Handy
import Derived.Deep.CutRange
import Derived.Deep.CutBlock
import Derived.Test.YtdnnfoojdfmajaaX7
namespace Go.Proofs.Ytdnnfoojdfmajaa
open Go.RowKit
set_option linter.unusedVariables false
set_option linter.unusedSimpArgs false

def setB (M : Nat → Nat → Nat → Bool) (k q m : Nat) (v : Bool) : Nat → Nat → Nat → Bool := fun k' q' m' => if k' = k ∧ q' = q ∧ m' = m then v else M k' q' m'
theorem setB_at (M : Nat → Nat → Nat → Bool) (k q m : Nat) (v : Bool) : setB M k q m v k q m = v := if_pos ⟨rfl, rfl, rfl⟩
theorem setB_ne {M : Nat → Nat → Nat → Bool} {k q m k' q' m' : Nat} {v : Bool} (h : ¬ (k' = k ∧ q' = q ∧ m' = m)) : setB M k q m v k' q' m' = M k' q' m' := if_neg h
theorem row_bit {σ : St} {k p m s : Nat} (hm : m < 3) (hs : s < 8) (v : Bool) {i : Nat} (hi : i < 20) :
    ({σ with M := setB σ.M k (8 * p + s) m v} : St).row k p i = if i = 16 + m then .int .u8 (byt (put (fun s => σ.M k (8 * p + s) m) s v)) else σ.row k p i := by
  unfold St.row
  by_cases h1 : i < 8
  · rw [if_pos h1, if_neg (by omega), if_pos h1]; rfl
  · by_cases h2 : i < 16
    · rw [if_neg h1, if_pos h2, if_neg (by omega), if_neg h1, if_pos h2]
    · by_cases h3 : i < 19
      · rw [if_neg h1, if_neg h2, if_pos h3]
        by_cases h4 : i = 16 + m
        · rw [if_pos h4]
          congr 1
          refine byt_congr fun j hj => ?_
          show setB σ.M k (8 * p + s) m v k (8 * p + j) (i - 16) = _
          rw [show i - 16 = m from by omega]
          unfold put
          by_cases h5 : j = s
          · rw [if_pos h5, h5, setB_at]
          · rw [if_neg h5, setB_ne (by omega)]
        · rw [if_neg h4, if_neg h1, if_neg h2, if_pos h3]
          congr 1
          refine byt_congr fun j hj => ?_
          exact setB_ne (by omega)
      · rw [if_neg h1, if_neg h2, if_neg h3, if_neg (by omega), if_neg h1, if_neg h2, if_neg h3]; rfl
theorem row_bit_other {σ : St} {k p m s k' p' : Nat} (hs : s < 8) (v : Bool) (hne : ¬ (k' = k ∧ p' = p)) (i : Nat) :
    ({σ with M := setB σ.M k (8 * p + s) m v} : St).row k' p' i = σ.row k' p' i := by
  unfold St.row
  by_cases h1 : i < 8
  · rw [if_pos h1, if_pos h1]; rfl
  · by_cases h2 : i < 16
    · rw [if_neg h1, if_pos h2, if_neg h1, if_pos h2]
    · by_cases h3 : i < 19
      · rw [if_neg h1, if_neg h2, if_pos h3, if_neg h1, if_neg h2, if_pos h3]
        congr 1
        refine byt_congr fun j hj => ?_
        exact setB_ne (by omega)
      · rw [if_neg h1, if_neg h2, if_neg h3, if_neg h1, if_neg h2, if_neg h3]; rfl
/-- One bit of a mark. -/
theorem Hp.bit {w : World} {t : Nat} {σ : St} {many nodes : Int} {F : List Nat} (h : Hp w t σ many nodes F) {k p b m s : Nat} (hb : σ.N k p = some b) (hm : m < 3) (hs : s < 8) (v : Bool) :
    Hp (w.setCell ⟨b, 16 + m, none⟩ (.int .u8 (byt (put (fun s => σ.M k (8 * p + s) m) s v)))) t {σ with M := setB σ.M k (8 * p + s) m v} many nodes F ∧
      Chg F F w (w.setCell ⟨b, 16 + m, none⟩ (.int .u8 (byt (put (fun s => σ.M k (8 * p + s) m) s v)))) := by
  have hbF := (h.nd k p b hb).2
  have hoth : ∀ b' u, b' ≠ b → (w.setCell ⟨b, 16 + m, none⟩ u).heap[b']? = w.heap[b']? := fun b' u hne => Below.heap_setCell _ _ _ _ hne
  refine ⟨⟨(hoth t _ (fun e => h.nt hb e.symm)).trans h.tr, fun k' p' b' hN => ?_, fun k' q e hE => ?_, h.tF, fun b' hb' => by simpa using h.lt b' hb', h.i1, h.i2⟩, (Chg.refl F w).setCell b _ _ hbF⟩
  · refine ⟨?_, (h.nd k' p' b' hN).2⟩
    by_cases hk : k' = k ∧ p' = p
    · obtain ⟨rfl, rfl⟩ := hk
      have hN' : σ.N k' p' = some b' := hN
      rw [hb] at hN'
      obtain rfl := Option.some.inj hN'
      exact (nodeO_set (h.nd k' p' b hb).1 (by omega) _).trans (congrArg some (nodeO_congr fun i hi => (row_bit hm hs v hi).symm))
    · have hne : b' ≠ b := fun e => hk (by subst e; have := h.i1 k' p' k p b' hN hb; exact this)
      exact ((hoth b' _ hne).trans (h.nd k' p' b' hN).1).trans (congrArg some (nodeO_congr fun i hi => (row_bit_other hs v hk i).symm))
  · have hne : e ≠ b := fun x => h.ne hb hE x.symm
    exact ⟨(hoth e _ hne).trans (h.en k' q e hE).1, (h.en k' q e hE).2⟩

end Go.Proofs.Ytdnnfoojdfmajaa

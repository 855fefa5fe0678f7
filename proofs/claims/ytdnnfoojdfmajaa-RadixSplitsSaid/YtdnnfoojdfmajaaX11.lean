/- Parts of the proofs of layer 19 (radix): contracts of its functions, and the laws' walks. -/
import Derived.Test.YtdnnfoojdfmajaaProg
import Derived.WalkKit
import Derived.WalkSpells
import Derived.WalkLawsBesides
import Derived.BigQuiet
import Derived.Deep.QuietTactic
import Derived.Lib.Hide
import Derived.Deep.RegionHeld3
import Derived.Deep.DeepCutAuto
import Derived.KernelRfl
import Derived.Deep.OwnRows
import Derived.Laws.CopyOwn
import Derived.Laws.CopyRow
import Derived.StillTailTactics
import Derived.Deep.RegionLaw
import Derived.Handy
import Derived.Deep.CutRange
import Derived.Deep.CutBlock
import Derived.Test.YtdnnfoojdfmajaaX10
namespace Go.Proofs.Ytdnnfoojdfmajaa
open Go.RowKit
set_option linter.unusedVariables false
set_option linter.unusedSimpArgs false

theorem Hp.upd1 {w w' : World} {t : Nat} {σ : St} {many nodes : Int} {F : List Nat} (h : Hp w t σ many nodes F) {k p b : Nat} (hb : σ.N k p = some b) (σ' : St)
    (hw : w'.heap[b]? = some (nodeO (σ'.row k p))) (hoth : ∀ b', b' ≠ b → w'.heap[b']? = w.heap[b']?) (hsz : w'.heap.size = w.heap.size)
    (hN : ∀ k p b, σ'.N k p = some b → σ.N k p = some b) (hE : ∀ k q e, σ'.E k q = some e → σ.E k q = some e ∧ σ'.V k q = σ.V k q) (hroot : σ'.N 3 0 = σ.N 3 0)
    (hrow : ∀ k' p', ¬ (k' = k ∧ p' = p) → σ'.N k' p' ≠ none → ∀ i, i < 20 → σ'.row k' p' i = σ.row k' p' i) : Hp w' t σ' many nodes F := by
  refine ⟨by rw [hroot]; exact (hoth t (fun e => h.nt hb e.symm)).trans h.tr, fun k' p' b' hN' => ?_, fun k' q e hE' => ?_, h.tF, fun b' hb' => by rw [hsz]; exact h.lt b' hb', fun k1 p1 k2 p2 b' h1 h2 => h.i1 k1 p1 k2 p2 b' (hN _ _ _ h1) (hN _ _ _ h2), fun k1 p1 k2 p2 b' h1 h2 => h.i2 k1 p1 k2 p2 b' (hE _ _ _ h1).1 (hE _ _ _ h2).1⟩
  · have h0 := hN k' p' b' hN'
    refine ⟨?_, (h.nd k' p' b' h0).2⟩
    by_cases hk : k' = k ∧ p' = p
    · obtain ⟨rfl, rfl⟩ := hk
      rw [hb] at h0
      obtain rfl := Option.some.inj h0
      exact hw
    · have hne : b' ≠ b := fun e => hk (by subst e; exact h.i1 k' p' k p b' h0 hb)
      exact ((hoth b' hne).trans (h.nd k' p' b' h0).1).trans (congrArg some (nodeO_congr fun i hi => (hrow k' p' hk (by rw [hN']; simp) i hi).symm))
  · obtain ⟨h0, hv⟩ := hE k' q e hE'
    have hne : e ≠ b := fun x => h.ne hb h0 x.symm
    rw [hv]
    exact ⟨(hoth e hne).trans (h.en k' q e h0).1, (h.en k' q e h0).2⟩
def setO (f : Nat → Nat → Option Nat) (k q : Nat) (v : Option Nat) : Nat → Nat → Option Nat := fun k' q' => if k' = k ∧ q' = q then v else f k' q'
theorem setO_at (f : Nat → Nat → Option Nat) (k q : Nat) (v : Option Nat) : setO f k q v k q = v := if_pos ⟨rfl, rfl⟩
theorem setO_ne {f : Nat → Nat → Option Nat} {k q k' q' : Nat} {v : Option Nat} (h : ¬ (k' = k ∧ q' = q)) : setO f k q v k' q' = f k' q' := if_neg h
theorem bel_wE (σ : St) (E : Nat → Nat → Option Nat) (k q : Nat) : ({σ with E := E} : St).bel k q = σ.bel k q := rfl
/-- An entry is taken out of its slot. -/
theorem Hp.dropE {w : World} {t : Nat} {σ : St} {many nodes : Int} {F : List Nat} (h : Hp w t σ many nodes F) {k p b s x : Nat} (hb : σ.N k p = some b) (hs : s < 8) (hx : σ.E k (8 * p + s) = some x) (hbel : σ.bel k (8 * p + s) = none) :
    Hp ((w.setCell ⟨b, 8 + s, none⟩ (.pointer none)).setCell ⟨b, 19, none⟩ (.int .i64 ((σ.used k p : Nat) - 1))) t {σ with E := setO σ.E k (8 * p + s) none} many nodes F ∧
      Chg F F w ((w.setCell ⟨b, 8 + s, none⟩ (.pointer none)).setCell ⟨b, 19, none⟩ (.int .i64 ((σ.used k p : Nat) - 1))) := by
  have hbF := (h.nd k p b hb).2
  have r1 := nodeO_set (h.nd k p b hb).1 (j := 8 + s) (by omega) (.pointer none)
  have r2 := nodeO_set r1 (j := 19) (by omega) (.int .i64 ((σ.used k p : Nat) - 1))
  have hocc : ∀ j, j < 8 → ({σ with E := setO σ.E k (8 * p + s) none} : St).occ k (8 * p + j) = Go.Proofs.Ytdnnfoojdfmajaa.put (fun j => σ.occ k (8 * p + j)) s false j := fun j hj => by
    unfold St.occ Go.Proofs.Ytdnnfoojdfmajaa.put
    rw [bel_wE]
    by_cases hjs : j = s
    · subst hjs
      rw [if_pos rfl, hbel]
      show (false || (setO σ.E k (8 * p + j) none k (8 * p + j)).isSome) = false
      rw [setO_at]; rfl
    · rw [if_neg hjs]
      show (_ || (setO σ.E k (8 * p + s) none k (8 * p + j)).isSome) = _
      rw [setO_ne (by omega)]
  have hu : ({σ with E := setO σ.E k (8 * p + s) none} : St).used k p + 1 = σ.used k p := by
    unfold St.used
    rw [cnt8_congr hocc]
    have := cnt8_put (f := fun j => σ.occ k (8 * p + j)) hs false
    have e : σ.occ k (8 * p + s) = true := by unfold St.occ; rw [hx]; simp
    rw [e] at this
    simpa using this
  refine ⟨h.upd1 hb _ (r2.trans (congrArg some (nodeO_congr fun i hi => ?_))) (fun b' hne => (Below.heap_setCell _ ⟨b, 19, none⟩ _ b' hne).trans (Below.heap_setCell _ ⟨b, 8 + s, none⟩ _ b' hne)) (by simp) (fun k p b h => h) (fun k' q e he => ?_) rfl (fun k' p' hk _ i hi => ?_), ((Chg.refl F w).setCell b _ _ hbF).setCell b _ _ hbF⟩
  · unfold St.row
    by_cases h1 : i = 19
    · subst h1
      rw [if_pos rfl, if_neg (by omega), if_neg (by omega), if_neg (by omega)]
      congr 1
      omega
    · rw [if_neg h1]
      by_cases h2 : i = 8 + s
      · subst h2
        rw [if_pos rfl, if_neg (by omega), if_pos (by omega), show 8 + s - 8 = s from by omega]
        show _ = pt (setO σ.E k (8 * p + s) none k (8 * p + s))
        rw [setO_at]
        rfl
      · rw [if_neg h2]
        by_cases h3 : i < 8
        · rw [if_pos h3, if_pos h3]; rfl
        · by_cases h4 : i < 16
          · rw [if_neg h3, if_pos h4, if_neg h3, if_pos h4]
            show _ = pt (setO σ.E k (8 * p + s) none k (8 * p + (i - 8)))
            rw [setO_ne (by omega)]
          · rw [if_neg h3, if_neg h4, if_pos (by omega), if_neg h3, if_neg h4, if_pos (by omega)]
  · have he' : setO σ.E k (8 * p + s) none k' q = some e := he
    unfold setO at he'
    split at he'
    · cases he'
    · exact ⟨he', rfl⟩
  · unfold St.row
    by_cases h3 : i < 8
    · rw [if_pos h3, if_pos h3]; rfl
    · by_cases h4 : i < 16
      · rw [if_neg h3, if_pos h4, if_neg h3, if_pos h4]
        show pt (setO σ.E k (8 * p + s) none k' (8 * p' + (i - 8))) = _
        rw [setO_ne (by omega)]
      · by_cases h5 : i < 19
        · rw [if_neg h3, if_neg h4, if_pos h5, if_neg h3, if_neg h4, if_pos h5]
        · rw [if_neg h3, if_neg h4, if_neg h5, if_neg h3, if_neg h4, if_neg h5]
          congr 2
          unfold St.used
          refine cnt8_congr fun j hj => ?_
          unfold St.occ
          rw [bel_wE]
          show (_ || (setO σ.E k (8 * p + s) none k' (8 * p' + j)).isSome) = _
          rw [setO_ne (by omega)]
/-- A node that has nothing is taken out of its slot. -/
theorem Hp.dropN {w : World} {t : Nat} {σ : St} {many nodes : Int} {F : List Nat} (h : Hp w t σ many nodes F) {k p b s c : Nat} (hk3 : k ≤ 2) (hb : σ.N (k + 1) p = some b) (hs : s < 8) (hc : σ.N k (8 * p + s) = some c) (hx : σ.E (k + 1) (8 * p + s) = none) :
    Hp ((w.setCell ⟨b, s, none⟩ (.pointer none)).setCell ⟨b, 19, none⟩ (.int .i64 ((σ.used (k + 1) p : Nat) - 1))) t {σ with N := setO σ.N k (8 * p + s) none} many nodes F ∧
      Chg F F w ((w.setCell ⟨b, s, none⟩ (.pointer none)).setCell ⟨b, 19, none⟩ (.int .i64 ((σ.used (k + 1) p : Nat) - 1))) := by
  have hbF := (h.nd _ p b hb).2
  have r1 := nodeO_set (h.nd _ p b hb).1 (j := s) (by omega) (.pointer none)
  have r2 := nodeO_set r1 (j := 19) (by omega) (.int .i64 ((σ.used (k + 1) p : Nat) - 1))
  have hbelne : ∀ k' q, ¬ (k' = k + 1 ∧ q = 8 * p + s) → ({σ with N := setO σ.N k (8 * p + s) none} : St).bel k' q = σ.bel k' q := fun k' q hne => by
    unfold St.bel
    by_cases h0 : k' = 0
    · rw [if_pos h0, if_pos h0]
    · rw [if_neg h0, if_neg h0]
      exact setO_ne (by omega)
  have hbelat : ({σ with N := setO σ.N k (8 * p + s) none} : St).bel (k + 1) (8 * p + s) = none := by
    unfold St.bel
    rw [if_neg (by omega)]
    exact setO_at _ _ _ _
  have hocc : ∀ j, j < 8 → ({σ with N := setO σ.N k (8 * p + s) none} : St).occ (k + 1) (8 * p + j) = Go.Proofs.Ytdnnfoojdfmajaa.put (fun j => σ.occ (k + 1) (8 * p + j)) s false j := fun j hj => by
    unfold Go.Proofs.Ytdnnfoojdfmajaa.put
    by_cases hjs : j = s
    · subst hjs
      rw [if_pos rfl]
      unfold St.occ
      rw [hbelat]
      show (false || (σ.E (k + 1) (8 * p + j)).isSome) = false
      rw [hx]; rfl
    · rw [if_neg hjs]
      unfold St.occ
      rw [hbelne _ _ (by omega)]
  have hu : ({σ with N := setO σ.N k (8 * p + s) none} : St).used (k + 1) p + 1 = σ.used (k + 1) p := by
    unfold St.used
    rw [cnt8_congr hocc]
    have := cnt8_put (f := fun j => σ.occ (k + 1) (8 * p + j)) hs false
    have e : σ.occ (k + 1) (8 * p + s) = true := by unfold St.occ St.bel; rw [if_neg (by omega)]; simp [hc]
    rw [e] at this
    simpa using this
  refine ⟨h.upd1 hb _ (r2.trans (congrArg some (nodeO_congr fun i hi => ?_))) (fun b' hne => (Below.heap_setCell _ ⟨b, 19, none⟩ _ b' hne).trans (Below.heap_setCell _ ⟨b, s, none⟩ _ b' hne)) (by simp) (fun k' q e he => ?_) (fun k' q e he => ⟨he, rfl⟩) (setO_ne (by omega)) (fun k' p' hk _ i hi => ?_), ((Chg.refl F w).setCell b _ _ hbF).setCell b _ _ hbF⟩
  · unfold St.row
    by_cases h1 : i = 19
    · subst h1
      rw [if_pos rfl, if_neg (by omega), if_neg (by omega), if_neg (by omega)]
      congr 1
      omega
    · rw [if_neg h1]
      by_cases h2 : i = s
      · subst h2
        rw [if_pos rfl, if_pos hs, hbelat]
        rfl
      · rw [if_neg h2]
        by_cases h3 : i < 8
        · rw [if_pos h3, if_pos h3, hbelne _ _ (by omega)]
        · by_cases h4 : i < 16
          · rw [if_neg h3, if_pos h4, if_neg h3, if_pos h4]
          · rw [if_neg h3, if_neg h4, if_pos (by omega), if_neg h3, if_neg h4, if_pos (by omega)]
  · have he' : setO σ.N k (8 * p + s) none k' q = some e := he
    unfold setO at he'
    split at he'
    · cases he'
    · exact he'
  · unfold St.row
    by_cases h3 : i < 8
    · rw [if_pos h3, if_pos h3, hbelne _ _ (by omega)]
    · by_cases h4 : i < 16
      · rw [if_neg h3, if_pos h4, if_neg h3, if_pos h4]
      · by_cases h5 : i < 19
        · rw [if_neg h3, if_neg h4, if_pos h5, if_neg h3, if_neg h4, if_pos h5]
        · rw [if_neg h3, if_neg h4, if_neg h5, if_neg h3, if_neg h4, if_neg h5]
          congr 2
          unfold St.used
          refine cnt8_congr fun j hj => ?_
          unfold St.occ
          rw [hbelne _ _ (by omega)]
/-- The tree's own cells. -/
theorem Hp.setT {w w' : World} {t : Nat} {σ σ' : St} {many nodes many' nodes' : Int} {F : List Nat} (h : Hp w t σ many nodes F) (hw : w'.heap[t]? = some (treeO (σ'.N 3 0) many' nodes')) (hoth : ∀ b', b' ≠ t → w'.heap[b']? = w.heap[b']?) (hsz : w'.heap.size = w.heap.size)
    (hN : ∀ k p b, σ'.N k p = some b → σ.N k p = some b) (hE : σ'.E = σ.E) (hV : σ'.V = σ.V) (hrow : ∀ k' p', σ'.N k' p' ≠ none → ∀ i, i < 20 → σ'.row k' p' i = σ.row k' p' i) : Hp w' t σ' many' nodes' F :=
  ⟨hw, fun k p b hN' => ⟨((hoth b (h.nt (hN k p b hN'))).trans (h.nd k p b (hN k p b hN')).1).trans (congrArg some (nodeO_congr fun i hi => (hrow k p (by rw [hN']; simp) i hi).symm)), (h.nd k p b (hN k p b hN')).2⟩,
    fun k q e hE' => by rw [hE] at hE'; rw [hV]; exact ⟨(hoth e (h.et hE')).trans (h.en k q e hE').1, (h.en k q e hE').2⟩, h.tF, fun b hb => by rw [hsz]; exact h.lt b hb,
    fun k1 p1 k2 p2 b' h1 h2 => h.i1 k1 p1 k2 p2 b' (hN _ _ _ h1) (hN _ _ _ h2), fun k1 p1 k2 p2 b' h1 h2 => h.i2 k1 p1 k2 p2 b' (by rw [hE] at h1; exact h1) (by rw [hE] at h2; exact h2)⟩
theorem Hp.setMany {w : World} {t : Nat} {σ : St} {many nodes : Int} {F : List Nat} (h : Hp w t σ many nodes F) (v : Int) : Hp (w.setCell ⟨t, 1, none⟩ (.int .i64 v)) t σ v nodes F ∧ Chg F F w (w.setCell ⟨t, 1, none⟩ (.int .i64 v)) :=
  ⟨h.setT ((heap_setCell_same w t 1 _ 71 _ h.tr).trans rfl) (fun b' hne => Below.heap_setCell _ _ _ b' hne) (by simp) (fun _ _ _ h => h) rfl rfl (fun _ _ _ _ _ => rfl), (Chg.refl F w).setCell t _ _ h.tF⟩
theorem Hp.setNodes {w : World} {t : Nat} {σ : St} {many nodes : Int} {F : List Nat} (h : Hp w t σ many nodes F) (v : Int) : Hp (w.setCell ⟨t, 2, none⟩ (.int .i64 v)) t σ many v F ∧ Chg F F w (w.setCell ⟨t, 2, none⟩ (.int .i64 v)) :=
  ⟨h.setT ((heap_setCell_same w t 2 _ 71 _ h.tr).trans rfl) (fun b' hne => Below.heap_setCell _ _ _ b' hne) (by simp) (fun _ _ _ h => h) rfl rfl (fun _ _ _ _ _ => rfl), (Chg.refl F w).setCell t _ _ h.tF⟩
/-- The root is taken off. -/
theorem Hp.dropRoot {w : World} {t : Nat} {σ : St} {many nodes : Int} {F : List Nat} (h : Hp w t σ many nodes F) (hN4 : ∀ p, σ.N 4 p = none) : Hp (w.setCell ⟨t, 0, none⟩ (.pointer none)) t {σ with N := setO σ.N 3 0 none} many nodes F ∧ Chg F F w (w.setCell ⟨t, 0, none⟩ (.pointer none)) := by
  refine ⟨h.setT ((heap_setCell_same w t 0 _ 71 _ h.tr).trans ?_) (fun b' hne => Below.heap_setCell _ _ _ b' hne) (by simp) (fun k p b he => ?_) rfl rfl (fun k p hne i hi => ?_), (Chg.refl F w).setCell t _ _ h.tF⟩
  · show _ = some (treeO (setO σ.N 3 0 none 3 0) many nodes)
    rw [setO_at]; rfl
  · have he' : setO σ.N 3 0 none k p = some b := he
    unfold setO at he'
    split at he'
    · cases he'
    · exact he'
  · have hk4 : k ≠ 4 := fun e => hne (by subst e; exact (show setO σ.N 3 0 none 4 p = σ.N 4 p from setO_ne (fun h => by omega)).trans (hN4 p))
    have hbel : ∀ q, ({σ with N := setO σ.N 3 0 none} : St).bel k q = σ.bel k q := fun q => by
      unfold St.bel
      by_cases h0 : k = 0
      · rw [if_pos h0, if_pos h0]
      · rw [if_neg h0, if_neg h0]
        exact setO_ne (fun h => by omega)
    unfold St.row St.used St.occ
    simp only [hbel]

end Go.Proofs.Ytdnnfoojdfmajaa

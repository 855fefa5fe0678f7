/- Parts of the proofs of layer 19 (radix): contracts of its functions, and the laws' walks. -/
import Derived.Test.YtdnnfoojdfmajaaProg
import Derived.WalkKit
import Derived.WalkSpells
import Derived.WalkLawsBesides
import Derived.BigQuiet
import Derived.Deep.QuietTactic
import Derived.Lib.Hide
import Derived.Deep.RegionHeld3
import Derived.Deep.DeepCutAuto
import Derived.KernelRfl
import Derived.Deep.OwnRows
import Derived.Laws.CopyOwn
import Derived.Laws.CopyRow
import Derived.StillTailTactics
import Derived.Deep.RegionLaw
import Derived.Handy
import Derived.Deep.CutRange
import Derived.Deep.CutBlock
import Derived.Test.YtdnnfoojdfmajaaX13
namespace Go.Proofs.Ytdnnfoojdfmajaa
open Go.RowKit
set_option linter.unusedVariables false
set_option linter.unusedSimpArgs false

/-- The new node of a split: n entries laid, μ marks. -/
def xrow (c n : Nat) (ms : Nat → Bool) (μ i : Nat) : Value :=
  if i < 8 then .pointer none else if i < 16 then (if i - 8 < n then pt (some (c + 1 + (i - 8))) else .pointer none) else if i < 19 then .int .u8 (if i - 16 < μ ∧ ms (i - 16) = true then 255 else 0) else .int .i64 8
theorem xrow_zero (c : Nat) (ms : Nat → Bool) : Obj.cells #[.pointer none, .pointer none, .pointer none, .pointer none, .pointer none, .pointer none, .pointer none, .pointer none, .pointer none, .pointer none, .pointer none, .pointer none, .pointer none, .pointer none, .pointer none, .pointer none, .int .u8 0, .int .u8 0, .int .u8 0, .int .i64 8] 67 = nodeO (xrow c 0 ms 0) := by
  kernel_rfl
theorem xrow_ent {w : World} {c n : Nat} {ms : Nat → Bool} (h : w.heap[c]? = some (nodeO (xrow c n ms 0))) (hn : n < 8) : (w.setCell ⟨c, 8 + n, none⟩ (.pointer (some ⟨c + 1 + n, 0, none⟩))).heap[c]? = some (nodeO (xrow c (n + 1) ms 0)) := by
  refine (nodeO_set h (j := 8 + n) (by omega) _).trans (congrArg some (nodeO_congr fun i hi => ?_))
  unfold xrow
  by_cases h1 : i = 8 + n
  · subst h1
    rw [if_pos rfl, if_neg (by omega), if_pos (by omega), if_pos (by omega), show 8 + n - 8 = n from by omega]
    rfl
  · rw [if_neg h1]
    by_cases h2 : i < 8
    · rw [if_pos h2, if_pos h2]
    · by_cases h3 : i < 16
      · rw [if_neg h2, if_pos h3, if_neg h2, if_pos h3]
        by_cases h4 : i - 8 < n
        · rw [if_pos h4, if_pos (by omega)]
        · rw [if_neg h4, if_neg (by omega)]
      · rw [if_neg h2, if_neg h3, if_neg h2, if_neg h3]
theorem xrow_skip {c : Nat} {ms : Nat → Bool} {μ : Nat} (h : ms μ = false) : nodeO (xrow c 8 ms μ) = nodeO (xrow c 8 ms (μ + 1)) := by
  refine nodeO_congr fun i hi => ?_
  unfold xrow
  by_cases h2 : i < 8
  · rw [if_pos h2, if_pos h2]
  · by_cases h3 : i < 16
    · rw [if_neg h2, if_pos h3, if_neg h2, if_pos h3]
    · by_cases h4 : i < 19
      · rw [if_neg h2, if_neg h3, if_pos h4, if_neg h2, if_neg h3, if_pos h4]
        by_cases h5 : i - 16 = μ
        · rw [h5, if_neg (by omega), if_neg (by simp [h])]
        · by_cases h6 : i - 16 < μ ∧ ms (i - 16) = true
          · rw [if_pos h6, if_pos ⟨by omega, h6.2⟩]
          · rw [if_neg h6, if_neg (fun h7 => h6 ⟨by omega, h7.2⟩)]
      · rw [if_neg h2, if_neg h3, if_neg h4, if_neg h2, if_neg h3, if_neg h4]
theorem xrow_mark {w : World} {c μ : Nat} {ms : Nat → Bool} (h : w.heap[c]? = some (nodeO (xrow c 8 ms μ))) (hn : μ < 3) (hm : ms μ = true) : (w.setCell ⟨c, 16 + μ, none⟩ (.int .u8 255)).heap[c]? = some (nodeO (xrow c 8 ms (μ + 1))) := by
  refine (nodeO_set h (j := 16 + μ) (by omega) _).trans (congrArg some (nodeO_congr fun i hi => ?_))
  unfold xrow
  by_cases h1 : i = 16 + μ
  · subst h1
    rw [if_pos rfl, if_neg (by omega), if_neg (by omega), if_pos (by omega), show 16 + μ - 16 = μ from by omega, if_pos ⟨by omega, hm⟩]
  · rw [if_neg h1]
    by_cases h2 : i < 8
    · rw [if_pos h2, if_pos h2]
    · by_cases h3 : i < 16
      · rw [if_neg h2, if_pos h3, if_neg h2, if_pos h3]
      · by_cases h4 : i < 19
        · rw [if_neg h2, if_neg h3, if_pos h4, if_neg h2, if_neg h3, if_pos h4]
          by_cases h6 : i - 16 < μ ∧ ms (i - 16) = true
          · rw [if_pos h6, if_pos ⟨by omega, h6.2⟩]
          · rw [if_neg h6, if_neg (fun h7 => h6 ⟨by omega, h7.2⟩)]
        · rw [if_neg h2, if_neg h3, if_neg h4, if_neg h2, if_neg h3, if_neg h4]
/-- The tree with one entry made eight. -/
def St.split (σ : St) (κ q c : Nat) (v step : Int) : St :=
  ⟨setO σ.N (κ - 1) q (some c), fun k' q' => if k' = κ ∧ q' = q then none else if k' = κ - 1 ∧ q' / 8 = q then some (c + 1 + q' % 8) else σ.E k' q',
    fun k' q' => if k' = κ - 1 ∧ q' / 8 = q then v + ((q' % 8 : Nat) : Int) * step else σ.V k' q', fun k' q' m => if k' = κ - 1 ∧ q' / 8 = q ∧ m < 3 then σ.M κ q m else σ.M k' q' m⟩
def fresh8 (c : Nat) : List Nat := [c, c + 1, c + 1 + 1, c + 1 + 2, c + 1 + 3, c + 1 + 4, c + 1 + 5, c + 1 + 6, c + 1 + 7]
theorem fresh8_mem {c i : Nat} (h : i < 8) : c + 1 + i ∈ fresh8 c := by
  unfold fresh8
  match i, h with
  | 0, _ | 1, _ | 2, _ | 3, _ | 4, _ | 5, _ | 6, _ | 7, _ => simp
theorem fresh8_ge {c b : Nat} (h : b ∈ fresh8 c) : c ≤ b ∧ b < c + 9 := by
  unfold fresh8 at h
  simp at h
  omega
section
variable {σ : St} {κ P s c x : Nat} {v step : Int}
theorem split_bel_at (hκ : κ ≠ 0) : (σ.split κ (8 * P + s) c v step).bel κ (8 * P + s) = some c := by
  unfold St.bel
  rw [if_neg hκ]
  exact setO_at _ _ _ _
theorem split_bel_ne (hκ : κ ≠ 0) {k q : Nat} (h : ¬ (k = κ ∧ q = 8 * P + s)) : (σ.split κ (8 * P + s) c v step).bel k q = σ.bel k q := by
  unfold St.bel
  by_cases h0 : k = 0
  · rw [if_pos h0, if_pos h0]
  · rw [if_neg h0, if_neg h0]
    exact setO_ne (by omega)
theorem split_E_at : (σ.split κ (8 * P + s) c v step).E κ (8 * P + s) = none := if_pos ⟨rfl, rfl⟩
theorem split_E_new (hκ : κ ≠ 0) {i : Nat} (hi : i < 8) : (σ.split κ (8 * P + s) c v step).E (κ - 1) (8 * (8 * P + s) + i) = some (c + 1 + i) := by
  show (if κ - 1 = κ ∧ _ then none else if κ - 1 = κ - 1 ∧ (8 * (8 * P + s) + i) / 8 = 8 * P + s then some (c + 1 + (8 * (8 * P + s) + i) % 8) else _) = _
  rw [if_neg (by omega), if_pos ⟨rfl, by omega⟩]
  congr 1
  omega
theorem split_E_ne {k q : Nat} (h : ¬ (k = κ ∧ q = 8 * P + s)) (h2 : ¬ (k = κ - 1 ∧ q / 8 = 8 * P + s)) : (σ.split κ (8 * P + s) c v step).E k q = σ.E k q := by
  show (if k = κ ∧ q = 8 * P + s then none else if k = κ - 1 ∧ q / 8 = 8 * P + s then _ else _) = _
  rw [if_neg h, if_neg h2]
theorem split_M_ne {k q m : Nat} (h : ¬ (k = κ - 1 ∧ q / 8 = 8 * P + s)) : (σ.split κ (8 * P + s) c v step).M k q m = σ.M k q m := if_neg (fun h2 => h ⟨h2.1, h2.2.1⟩)
theorem split_used (hκ : κ ≠ 0) (hs : s < 8) (hx : σ.E κ (8 * P + s) = some x) : (σ.split κ (8 * P + s) c v step).used κ P = σ.used κ P := by
  unfold St.used
  refine cnt8_congr fun j hj => ?_
  unfold St.occ
  by_cases hjs : j = s
  · subst hjs
    rw [split_bel_at hκ, hx]; simp
  · rw [split_bel_ne hκ (by omega), split_E_ne (by omega) (by omega)]
theorem split_row_other (hκ : κ ≠ 0) (hs : s < 8) {k p : Nat} (h1 : ¬ (k = κ ∧ p = P)) (h2 : ¬ (k = κ - 1 ∧ p = 8 * P + s)) (i : Nat) : (σ.split κ (8 * P + s) c v step).row k p i = σ.row k p i := by
  unfold St.row
  by_cases h3 : i < 8
  · rw [if_pos h3, if_pos h3, split_bel_ne hκ (by omega)]
  · by_cases h4 : i < 16
    · rw [if_neg h3, if_pos h4, if_neg h3, if_pos h4, split_E_ne (by omega) (by omega)]
    · by_cases h5 : i < 19
      · rw [if_neg h3, if_neg h4, if_pos h5, if_neg h3, if_neg h4, if_pos h5]
        congr 1
        exact byt_congr fun j hj => split_M_ne (by omega)
      · rw [if_neg h3, if_neg h4, if_neg h5, if_neg h3, if_neg h4, if_neg h5]
        congr 2
        unfold St.used
        refine cnt8_congr fun j hj => ?_
        unfold St.occ
        rw [split_bel_ne hκ (by omega), split_E_ne (by omega) (by omega)]
theorem split_row_new (hκ : κ ≠ 0) (hbel0 : ∀ i, i < 8 → σ.bel (κ - 1) (8 * (8 * P + s) + i) = none) {i : Nat} (hi : i < 20) : (σ.split κ (8 * P + s) c v step).row (κ - 1) (8 * P + s) i = xrow c 8 (fun m => σ.M κ (8 * P + s) m) 3 i := by
  unfold St.row xrow
  by_cases h3 : i < 8
  · rw [if_pos h3, if_pos h3, split_bel_ne hκ (by omega), hbel0 i h3]; rfl
  · by_cases h4 : i < 16
    · rw [if_neg h3, if_pos h4, if_neg h3, if_pos h4, split_E_new hκ (by omega), if_pos (by omega)]
    · by_cases h5 : i < 19
      · rw [if_neg h3, if_neg h4, if_pos h5, if_neg h3, if_neg h4, if_pos h5]
        congr 1
        have e : (byt fun j => (σ.split κ (8 * P + s) c v step).M (κ - 1) (8 * (8 * P + s) + j) (i - 16)) = byt fun _ => σ.M κ (8 * P + s) (i - 16) := byt_congr fun j hj => if_pos ⟨rfl, by omega, by omega⟩
        rw [e]
        cases hm : σ.M κ (8 * P + s) (i - 16)
        · rw [if_neg (fun h => absurd (hm.symm.trans h.2) (by decide))]; rfl
        · rw [if_pos ⟨by omega, hm⟩]; rfl
      · rw [if_neg h3, if_neg h4, if_neg h5, if_neg h3, if_neg h4, if_neg h5]
        congr 2
        unfold St.used
        have e : (cnt8 fun j => (σ.split κ (8 * P + s) c v step).occ (κ - 1) (8 * (8 * P + s) + j)) = cnt8 fun _ => true := cnt8_congr fun j hj => by
          unfold St.occ
          rw [split_E_new hκ hj]; simp
        rw [e]; rfl
theorem Hp.split {w : World} {t : Nat} {many nodes : Int} {F : List Nat} {b : Nat} (h : Hp w t σ many nodes F) (hκ : κ ≠ 0) (hκ3 : κ ≤ 3) (hs : s < 8) (hb : σ.N κ P = some b) (hx : σ.E κ (8 * P + s) = some x)
    (hbel0 : ∀ i, i < 8 → σ.bel (κ - 1) (8 * (8 * P + s) + i) = none) (hcF : ∀ b', b' ∈ F → b' < c)
    (hc : w.heap[c]? = some (nodeO (xrow c 8 (fun m => σ.M κ (8 * P + s) m) 3))) (hent : ∀ i, i < 8 → w.heap[c + 1 + i]? = some (entO (v + ((i : Nat) : Int) * step))) (hsz : w.heap.size = c + 9) :
    Hp ((w.setCell ⟨b, 8 + s, none⟩ (.pointer none)).setCell ⟨b, s, none⟩ (.pointer (some ⟨c, 0, none⟩))) t (σ.split κ (8 * P + s) c v step) many nodes (fresh8 c ++ F) := by
  have hbF := (h.nd _ _ b hb).2
  have hbc := hcF b hbF
  have hoth : ∀ b', b' ≠ b → ((w.setCell ⟨b, 8 + s, none⟩ (.pointer none)).setCell ⟨b, s, none⟩ (.pointer (some ⟨c, 0, none⟩))).heap[b']? = w.heap[b']? := fun b' hne => (Below.heap_setCell _ ⟨b, s, none⟩ _ b' hne).trans (Below.heap_setCell _ ⟨b, 8 + s, none⟩ _ b' hne)
  have hrt : (σ.split κ (8 * P + s) c v step).N 3 0 = σ.N 3 0 := setO_ne (by omega)
  have hNc : ∀ {k p b'}, (σ.split κ (8 * P + s) c v step).N k p = some b' → (k = κ - 1 ∧ p = 8 * P + s ∧ b' = c) ∨ (¬ (k = κ - 1 ∧ p = 8 * P + s) ∧ σ.N k p = some b') := fun {k p b'} hN => by
    have hN' : setO σ.N (κ - 1) (8 * P + s) (some c) k p = some b' := hN
    unfold setO at hN'
    split at hN'
    · rename_i hk
      exact .inl ⟨hk.1, hk.2, (Option.some.inj hN').symm⟩
    · rename_i hk
      exact .inr ⟨hk, hN'⟩
  have hEc : ∀ {k q e}, (σ.split κ (8 * P + s) c v step).E k q = some e → (k = κ - 1 ∧ q / 8 = 8 * P + s ∧ e = c + 1 + q % 8) ∨ (¬ (k = κ - 1 ∧ q / 8 = 8 * P + s) ∧ σ.E k q = some e) := fun {k q e} hE => by
    have hE' : (if k = κ ∧ q = 8 * P + s then none else if k = κ - 1 ∧ q / 8 = 8 * P + s then some (c + 1 + q % 8) else σ.E k q) = some e := hE
    split at hE'
    · cases hE'
    · split at hE'
      · rename_i hk
        exact .inl ⟨hk.1, hk.2, (Option.some.inj hE').symm⟩
      · rename_i hk
        exact .inr ⟨hk, hE'⟩
  refine ⟨by rw [hrt]; exact (hoth t (fun e => h.nt hb e.symm)).trans h.tr, fun k p b' hN => ?_, fun k q e hE => ?_, List.mem_append_right _ h.tF, fun b' hb' => ?_, fun k1 p1 k2 p2 b' h1 h2 => ?_, fun k1 p1 k2 p2 e h1 h2 => ?_⟩
  · rcases hNc hN with ⟨rfl, rfl, rfl⟩ | ⟨hne, hN0⟩
    · exact ⟨((hoth b' (by omega)).trans hc).trans (congrArg some (nodeO_congr fun i hi => (split_row_new hκ hbel0 hi).symm)), List.mem_append_left _ (by unfold fresh8; simp)⟩
    · refine ⟨?_, List.mem_append_right _ (h.nd k p b' hN0).2⟩
      by_cases hk : k = κ ∧ p = P
      · obtain ⟨rfl, rfl⟩ := hk
        rw [hb] at hN0
        obtain rfl := Option.some.inj hN0
        have r1 := nodeO_set (h.nd _ _ b hb).1 (j := 8 + s) (by omega) (.pointer none)
        have r2 := nodeO_set r1 (j := s) (by omega) (.pointer (some ⟨c, 0, none⟩))
        refine r2.trans (congrArg some (nodeO_congr fun i hi => ?_))
        unfold St.row
        by_cases h1 : i = s
        · subst h1
          rw [if_pos rfl, if_pos hs, split_bel_at hκ]; rfl
        · rw [if_neg h1]
          by_cases h2 : i = 8 + s
          · subst h2
            rw [if_pos rfl, if_neg (by omega), if_pos (by omega), show 8 + s - 8 = s from by omega, split_E_at]; rfl
          · rw [if_neg h2]
            by_cases h3 : i < 8
            · rw [if_pos h3, if_pos h3, split_bel_ne hκ (by omega)]
            · by_cases h4 : i < 16
              · rw [if_neg h3, if_pos h4, if_neg h3, if_pos h4, split_E_ne (by omega) (by omega)]
              · by_cases h5 : i < 19
                · rw [if_neg h3, if_neg h4, if_pos h5, if_neg h3, if_neg h4, if_pos h5]
                  congr 1
                  exact (byt_congr fun j hj => split_M_ne (by omega)).symm
                · rw [if_neg h3, if_neg h4, if_neg h5, if_neg h3, if_neg h4, if_neg h5, split_used hκ hs hx]
      · have hne2 : b' ≠ b := fun e => hk (by subst e; exact h.i1 k p κ P b' hN0 hb)
        exact ((hoth b' hne2).trans (h.nd k p b' hN0).1).trans (congrArg some (nodeO_congr fun i hi => (split_row_other hκ hs hk hne i).symm))
  · rcases hEc hE with ⟨rfl, hq, rfl⟩ | ⟨hne, hE0⟩
    · refine ⟨?_, List.mem_append_left _ (fresh8_mem (Nat.mod_lt _ (by omega)))⟩
      have e : (σ.split κ (8 * P + s) c v step).V (κ - 1) q = v + ((q % 8 : Nat) : Int) * step := if_pos ⟨rfl, hq⟩
      rw [e]
      exact (hoth _ (by omega)).trans (hent (q % 8) (Nat.mod_lt _ (by omega)))
    · have e1 : (σ.split κ (8 * P + s) c v step).V k q = σ.V k q := if_neg hne
      rw [e1]
      exact ⟨(hoth e (fun x => h.ne hb hE0 x.symm)).trans (h.en k q e hE0).1, List.mem_append_right _ (h.en k q e hE0).2⟩
  · rcases List.mem_append.1 hb' with hb' | hb'
    · have := fresh8_ge hb'; simp; omega
    · have := hcF b' hb'; simp; omega
  · rcases hNc h1 with ⟨e1, e2, e3⟩ | ⟨_, g1⟩
    · rcases hNc h2 with ⟨e4, e5, _⟩ | ⟨_, g2⟩
      · exact ⟨e1.trans e4.symm, e2.trans e5.symm⟩
      · have := hcF _ (h.nd _ _ _ g2).2; omega
    · rcases hNc h2 with ⟨_, _, e3⟩ | ⟨_, g2⟩
      · have := hcF _ (h.nd _ _ _ g1).2; omega
      · exact h.i1 _ _ _ _ _ g1 g2
  · rcases hEc h1 with ⟨e1, e2, e3⟩ | ⟨_, g1⟩
    · rcases hEc h2 with ⟨e4, e5, e6⟩ | ⟨_, g2⟩
      · exact ⟨e1.trans e4.symm, by omega⟩
      · have := hcF _ (h.en _ _ _ g2).2; omega
    · rcases hEc h2 with ⟨_, _, e3⟩ | ⟨_, g2⟩
      · have := hcF _ (h.en _ _ _ g1).2; omega
      · exact h.i2 _ _ _ _ _ g1 g2
end

end Go.Proofs.Ytdnnfoojdfmajaa

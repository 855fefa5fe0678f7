/- Parts of the proofs of layer 19 (radix): contracts of its functions, and the laws' walks. -/
import Derived.Test.YtdnnfoojdfmajaaProg
import Derived.WalkKit
import Derived.WalkSpells
import Derived.WalkLawsBesides
import Derived.BigQuiet
import Derived.Deep.QuietTactic
import Derived.Lib.Hide
import Derived.Deep.RegionHeld3
import Derived.Deep.DeepCutAuto
import Derived.KernelRfl
import Derived.Deep.OwnRows
import Derived.Laws.CopyOwn
import Derived.Laws.CopyRow
import Derived.StillTailTactics
import Derived.Deep.RegionLaw
import Derived.Handy
import Derived.Deep.CutRange
import Derived.Deep.CutBlock
import Derived.Test.YtdnnfoojdfmajaaX20
namespace Go.Proofs.Ytdnnfoojdfmajaa
open Go.RowKit
set_option linter.unusedVariables false
set_option linter.unusedSimpArgs false

/-- All places of nodes. -/
def allN : List (Nat × Nat) := (List.range 512).map (fun p => (0, p)) ++ ((List.range 64).map (fun p => (1, p)) ++ ((List.range 8).map (fun p => (2, p)) ++ [(3, 0)]))
theorem allN_mem {k p : Nat} : (k, p) ∈ allN ↔ k ≤ 3 ∧ p < 8 ^ (3 - k) := by
  unfold allN
  simp only [List.mem_append, List.mem_map, List.mem_range, Prod.mk.injEq, List.mem_singleton]
  constructor
  · rintro (⟨a, h, rfl, rfl⟩ | ⟨a, h, rfl, rfl⟩ | ⟨a, h, rfl, rfl⟩ | ⟨rfl, rfl⟩)
    · exact ⟨by omega, h⟩
    · exact ⟨by omega, h⟩
    · exact ⟨by omega, h⟩
    · exact ⟨by omega, by decide⟩
  · rintro ⟨h1, h2⟩
    rcases k4 h1 with rfl | rfl | rfl | rfl
    · exact .inl ⟨p, h2, rfl, rfl⟩
    · exact .inr (.inl ⟨p, h2, rfl, rfl⟩)
    · exact .inr (.inr (.inl ⟨p, h2, rfl, rfl⟩))
    · exact .inr (.inr (.inr ⟨rfl, by have : p < 1 := h2; omega⟩))
theorem allN_nodup : allN.Nodup := by
  unfold allN
  have hm : ∀ (k n : Nat), ((List.range n).map fun p => (k, p)).Nodup := fun k n => by
    unfold List.Nodup
    rw [List.pairwise_map]
    exact (List.nodup_range (n := n)).imp fun h e => h (by simpa using e)
  refine List.nodup_append.2 ⟨hm 0 512, List.nodup_append.2 ⟨hm 1 64, List.nodup_append.2 ⟨hm 2 8, by simp, ?_⟩, ?_⟩, ?_⟩
  all_goals (
    intro a ha b hb e
    subst e
    simp only [List.mem_append, List.mem_map, List.mem_range, List.mem_singleton] at ha hb
    obtain ⟨x, _, rfl⟩ := ha
    simp at hb)
def cntN (N : Nat → Nat → Option Nat) : Nat := allN.countP fun x => (N x.1 x.2).isSome
theorem countP_update {α : Type} [DecidableEq α] {l : List α} (hn : l.Nodup) {a : α} (ha : a ∈ l) {f g : α → Bool} (h : ∀ x, x ≠ a → f x = g x) : l.countP f + (g a).toNat = l.countP g + (f a).toNat := by
  induction l with
  | nil => simp at ha
  | cons b l ih =>
    rw [List.nodup_cons] at hn
    rcases List.mem_cons.1 ha with rfl | ha
    · have e : l.countP f = l.countP g := List.countP_congr fun x hx => by rw [h x (fun e => hn.1 (e ▸ hx))]
      rw [List.countP_cons, List.countP_cons, e]
      cases f a <;> cases g a <;> simp <;> omega
    · have hb : b ≠ a := fun e => hn.1 (e ▸ ha)
      have := ih hn.2 ha
      rw [List.countP_cons, List.countP_cons, h b hb]
      omega
theorem cntN_some {N : Nat → Nat → Option Nat} {k p c : Nat} (hm : k ≤ 3 ∧ p < 8 ^ (3 - k)) (h : N k p = none) : cntN (setO N k p (some c)) = cntN N + 1 := by
  have := countP_update allN_nodup (allN_mem.2 hm) (f := fun x => (setO N k p (some c) x.1 x.2).isSome) (g := fun x => (N x.1 x.2).isSome) (fun x hx => by
    rw [setO_ne (fun e => hx (Prod.ext e.1 e.2))])
  unfold cntN
  simp only [setO_at, h] at this
  simpa using this
theorem cntN_none {N : Nat → Nat → Option Nat} {k p c : Nat} (hm : k ≤ 3 ∧ p < 8 ^ (3 - k)) (h : N k p = some c) : cntN (setO N k p none) + 1 = cntN N := by
  have := countP_update allN_nodup (allN_mem.2 hm) (f := fun x => (setO N k p none x.1 x.2).isSome) (g := fun x => (N x.1 x.2).isSome) (fun x hx => by
    rw [setO_ne (fun e => hx (Prod.ext e.1 e.2))])
  unfold cntN
  simp only [setO_at, h] at this
  simpa using this
theorem cntN_le (N : Nat → Nat → Option Nat) : cntN N ≤ 585 := by
  unfold cntN
  have := List.countP_le_length (p := fun x => (N x.1 x.2).isSome) (l := allN)
  have e : allN.length = 585 := by unfold allN; simp
  omega
theorem path_in {g k : Nat} (hg : g < 4096) (hk : k ≤ 3) : k ≤ 3 ∧ g / 8 ^ (k + 1) < 8 ^ (3 - k) := by
  refine ⟨hk, ?_⟩
  rcases k4 hk with rfl | rfl | rfl | rfl
  · show g / 8 < 512; omega
  · show g / 64 < 64; omega
  · show g / 512 < 8; omega
  · show g / 4096 < 1; omega
theorem zrow_zero : Obj.cells #[.pointer none, .pointer none, .pointer none, .pointer none, .pointer none, .pointer none, .pointer none, .pointer none, .pointer none, .pointer none, .pointer none, .pointer none, .pointer none, .pointer none, .pointer none, .pointer none, .int .u8 0, .int .u8 0, .int .u8 0, .int .i64 0] 67 = nodeO (fun i => if i < 16 then .pointer none else if i < 19 then .int .u8 0 else .int .i64 0) := by kernel_rfl
/-- An empty node's row. -/
theorem empty_row {σ : St} {k q : Nat} (hb : ∀ i, i < 8 → σ.bel k (8 * q + i) = none) (hE : ∀ i, i < 8 → σ.E k (8 * q + i) = none) (hM : ∀ i, i < 8 → ∀ m, m < 3 → σ.M k (8 * q + i) m = false) : Obj.cells #[.pointer none, .pointer none, .pointer none, .pointer none, .pointer none, .pointer none, .pointer none, .pointer none, .pointer none, .pointer none, .pointer none, .pointer none, .pointer none, .pointer none, .pointer none, .pointer none, .int .u8 0, .int .u8 0, .int .u8 0, .int .i64 0] 67 = nodeO (σ.row k q) := by
  rw [zrow_zero]
  refine nodeO_congr fun i hi => ?_
  unfold St.row
  by_cases h1 : i < 8
  · rw [if_pos (by omega), if_pos h1, hb i h1]; rfl
  · by_cases h2 : i < 16
    · rw [if_pos h2, if_neg h1, if_pos h2, hE _ (by omega)]; rfl
    · by_cases h3 : i < 19
      · rw [if_neg h2, if_pos h3, if_neg h1, if_neg h2, if_pos h3]
        congr 1
        have e : (byt fun s => σ.M k (8 * q + s) (i - 16)) = byt fun _ => false := byt_congr fun j hj => hM j hj _ (by omega)
        rw [e]; rfl
      · rw [if_neg h2, if_neg h3, if_neg h1, if_neg h2, if_neg h3]
        congr 1
        unfold St.used
        have e : (cnt8 fun s => σ.occ k (8 * q + s)) = cnt8 fun _ => false := cnt8_congr fun j hj => by unfold St.occ; rw [hb j hj, hE j hj]; rfl
        rw [e]; rfl
section
variable {σ : St}
theorem bel_setN_at {k q c : Nat} : ({σ with N := setO σ.N k q (some c)} : St).bel (k + 1) q = some c := by
  unfold St.bel
  rw [if_neg (by omega)]
  exact setO_at _ _ _ _
theorem bel_setN_ne {k q c k' q' : Nat} (h : ¬ (k' = k + 1 ∧ q' = q)) : ({σ with N := setO σ.N k q (some c)} : St).bel k' q' = σ.bel k' q' := by
  unfold St.bel
  by_cases h0 : k' = 0
  · rw [if_pos h0, if_pos h0]
  · rw [if_neg h0, if_neg h0]
    exact setO_ne (by omega)
theorem Hp.addN {w : World} {t : Nat} {many nodes : Int} {F : List Nat} (h : Hp w t σ many nodes F) {k P b s : Nat} (hk : k ≤ 2) (hb : σ.N (k + 1) P = some b) (hs : s < 8) (hn : σ.N k (8 * P + s) = none) (hx : σ.E (k + 1) (8 * P + s) = none)
    (h1 : ∀ i, i < 8 → σ.bel k (8 * (8 * P + s) + i) = none) (h2 : ∀ i, i < 8 → σ.E k (8 * (8 * P + s) + i) = none) (h3 : ∀ i, i < 8 → ∀ m, m < 3 → σ.M k (8 * (8 * P + s) + i) m = false) :
    Hp (((w.alloc (.cells #[.pointer none, .pointer none, .pointer none, .pointer none, .pointer none, .pointer none, .pointer none, .pointer none, .pointer none, .pointer none, .pointer none, .pointer none, .pointer none, .pointer none, .pointer none, .pointer none, .int .u8 0, .int .u8 0, .int .u8 0, .int .i64 0] 67)).setCell ⟨b, s, none⟩ (.pointer (some ⟨w.heap.size, 0, none⟩))).setCell ⟨b, 19, none⟩ (.int .i64 ((σ.used (k + 1) P : Nat) + 1))) t {σ with N := setO σ.N k (8 * P + s) (some w.heap.size)} many nodes (w.heap.size :: F) := by
  have hbF := (h.nd _ _ b hb).2
  have hbl := h.lt b hbF
  have hA : Below w.heap.size w (w.alloc (.cells #[.pointer none, .pointer none, .pointer none, .pointer none, .pointer none, .pointer none, .pointer none, .pointer none, .pointer none, .pointer none, .pointer none, .pointer none, .pointer none, .pointer none, .pointer none, .pointer none, .int .u8 0, .int .u8 0, .int .u8 0, .int .i64 0] 67)) := (Below.refl _ _).alloc (Nat.le_refl _) _
  have hA' := h.below hA
  have hnew := heap_alloc_new w (.cells #[.pointer none, .pointer none, .pointer none, .pointer none, .pointer none, .pointer none, .pointer none, .pointer none, .pointer none, .pointer none, .pointer none, .pointer none, .pointer none, .pointer none, .pointer none, .pointer none, .int .u8 0, .int .u8 0, .int .u8 0, .int .i64 0] 67)
  have r1 := nodeO_set (hA'.nd _ _ b hb).1 (j := s) (by omega) (.pointer (some ⟨w.heap.size, 0, none⟩))
  have r2 := nodeO_set r1 (j := 19) (by omega) (.int .i64 ((σ.used (k + 1) P : Nat) + 1))
  have hoth : ∀ b', b' ≠ b → (((w.alloc (.cells #[.pointer none, .pointer none, .pointer none, .pointer none, .pointer none, .pointer none, .pointer none, .pointer none, .pointer none, .pointer none, .pointer none, .pointer none, .pointer none, .pointer none, .pointer none, .pointer none, .int .u8 0, .int .u8 0, .int .u8 0, .int .i64 0] 67)).setCell ⟨b, s, none⟩ (.pointer (some ⟨w.heap.size, 0, none⟩))).setCell ⟨b, 19, none⟩ (.int .i64 ((σ.used (k + 1) P : Nat) + 1))).heap[b']? = (w.alloc (.cells #[.pointer none, .pointer none, .pointer none, .pointer none, .pointer none, .pointer none, .pointer none, .pointer none, .pointer none, .pointer none, .pointer none, .pointer none, .pointer none, .pointer none, .pointer none, .pointer none, .int .u8 0, .int .u8 0, .int .u8 0, .int .i64 0] 67)).heap[b']? := fun b' hne => (Below.heap_setCell _ ⟨b, 19, none⟩ _ b' hne).trans (Below.heap_setCell _ ⟨b, s, none⟩ _ b' hne)
  have hrt : ({σ with N := setO σ.N k (8 * P + s) (some w.heap.size)} : St).N 3 0 = σ.N 3 0 := setO_ne (by omega)
  have hNc : ∀ {k' p b'}, ({σ with N := setO σ.N k (8 * P + s) (some w.heap.size)} : St).N k' p = some b' → (k' = k ∧ p = 8 * P + s ∧ b' = w.heap.size) ∨ (¬ (k' = k ∧ p = 8 * P + s) ∧ σ.N k' p = some b') := fun {k' p b'} hN => by
    have hN' : setO σ.N k (8 * P + s) (some w.heap.size) k' p = some b' := hN
    unfold setO at hN'
    split at hN'
    · rename_i hk
      exact .inl ⟨hk.1, hk.2, (Option.some.inj hN').symm⟩
    · rename_i hk
      exact .inr ⟨hk, hN'⟩
  have hocc : ∀ j, j < 8 → ({σ with N := setO σ.N k (8 * P + s) (some w.heap.size)} : St).occ (k + 1) (8 * P + j) = Go.Proofs.Ytdnnfoojdfmajaa.put (fun j => σ.occ (k + 1) (8 * P + j)) s true j := fun j hj => by
    unfold Go.Proofs.Ytdnnfoojdfmajaa.put
    by_cases hjs : j = s
    · subst hjs
      rw [if_pos rfl]
      unfold St.occ
      rw [bel_setN_at]; rfl
    · rw [if_neg hjs]
      unfold St.occ
      rw [bel_setN_ne (by omega)]
  have hu : ({σ with N := setO σ.N k (8 * P + s) (some w.heap.size)} : St).used (k + 1) P = σ.used (k + 1) P + 1 := by
    unfold St.used
    rw [cnt8_congr hocc]
    have := cnt8_put (f := fun j => σ.occ (k + 1) (8 * P + j)) hs true
    have e : σ.occ (k + 1) (8 * P + s) = false := by unfold St.occ St.bel; rw [if_neg (by omega), Nat.add_sub_cancel, hn, hx]; rfl
    rw [e] at this
    simpa using this
  refine ⟨by rw [hrt]; exact (hoth t (fun e => hA'.nt hb e.symm)).trans hA'.tr, fun k' p b' hN => ?_, fun k' q e hE => ⟨(hoth e (fun x => hA'.ne hb hE x.symm)).trans (hA'.en k' q e hE).1, List.mem_cons_of_mem _ (hA'.en k' q e hE).2⟩, List.mem_cons_of_mem _ h.tF, fun b' hb' => ?_, fun k1 p1 k2 p2 b' g1 g2 => ?_, h.i2⟩
  · rcases hNc hN with ⟨rfl, rfl, rfl⟩ | ⟨hne, hN0⟩
    · refine ⟨((hoth _ (by omega)).trans hnew).trans (congrArg some (empty_row (fun i hi => ?_) h2 h3)), by simp⟩
      rw [bel_setN_ne (by omega)]
      exact h1 i hi
    · refine ⟨?_, List.mem_cons_of_mem _ (h.nd k' p b' hN0).2⟩
      by_cases hkk : k' = k + 1 ∧ p = P
      · obtain ⟨rfl, rfl⟩ := hkk
        rw [hb] at hN0
        obtain rfl := Option.some.inj hN0
        refine r2.trans (congrArg some (nodeO_congr fun i hi => ?_))
        unfold St.row
        by_cases g1 : i = 19
        · subst g1
          rw [if_pos rfl, if_neg (by omega), if_neg (by omega), if_neg (by omega), hu]
          simp
        · rw [if_neg g1]
          by_cases g2 : i = s
          · subst g2
            rw [if_pos rfl, if_pos hs, bel_setN_at]; rfl
          · rw [if_neg g2]
            by_cases g3 : i < 8
            · rw [if_pos g3, if_pos g3, bel_setN_ne (by omega)]
            · by_cases g4 : i < 16
              · rw [if_neg g3, if_pos g4, if_neg g3, if_pos g4]
              · rw [if_neg g3, if_neg g4, if_pos (by omega), if_neg g3, if_neg g4, if_pos (by omega)]
      · have hne2 : b' ≠ b := fun e => hkk (by subst e; exact h.i1 k' p (k + 1) P b' hN0 hb)
        refine ((hoth b' hne2).trans (hA'.nd k' p b' hN0).1).trans (congrArg some (nodeO_congr fun i hi => ?_))
        unfold St.row
        by_cases g3 : i < 8
        · rw [if_pos g3, if_pos g3, bel_setN_ne (by omega)]
        · by_cases g4 : i < 16
          · rw [if_neg g3, if_pos g4, if_neg g3, if_pos g4]
          · by_cases g5 : i < 19
            · rw [if_neg g3, if_neg g4, if_pos g5, if_neg g3, if_neg g4, if_pos g5]
            · rw [if_neg g3, if_neg g4, if_neg g5, if_neg g3, if_neg g4, if_neg g5]
              congr 2
              unfold St.used
              refine cnt8_congr fun j hj => ?_
              unfold St.occ
              rw [bel_setN_ne (by omega)]
  · rcases List.mem_cons.1 hb' with rfl | hb'
    · simp
    · have := h.lt b' hb'; simp; omega
  · rcases hNc g1 with ⟨e1, e2, e3⟩ | ⟨_, f1⟩
    · rcases hNc g2 with ⟨e4, e5, _⟩ | ⟨_, f2⟩
      · exact ⟨e1.trans e4.symm, e2.trans e5.symm⟩
      · have := h.lt _ (h.nd _ _ _ f2).2; omega
    · rcases hNc g2 with ⟨_, _, e3⟩ | ⟨_, f2⟩
      · have := h.lt _ (h.nd _ _ _ f1).2; omega
      · exact h.i1 _ _ _ _ _ f1 f2
theorem Hp.addE {w : World} {t : Nat} {many nodes : Int} {F : List Nat} (h : Hp w t σ many nodes F) {k P b s : Nat} (v : Int) (hb : σ.N k P = some b) (hs : s < 8) (hn : σ.bel k (8 * P + s) = none) (hx : σ.E k (8 * P + s) = none) :
    Hp (((w.alloc (.cells #[.int .i64 v] 77)).setCell ⟨b, 8 + s, none⟩ (.pointer (some ⟨w.heap.size, 0, none⟩))).setCell ⟨b, 19, none⟩ (.int .i64 ((σ.used k P : Nat) + 1))) t {σ with E := setO σ.E k (8 * P + s) (some w.heap.size), V := fun k' q' => if k' = k ∧ q' = 8 * P + s then v else σ.V k' q'} many nodes (w.heap.size :: F) := by
  have hbF := (h.nd _ _ b hb).2
  have hbl := h.lt b hbF
  have hA : Below w.heap.size w (w.alloc (.cells #[.int .i64 v] 77)) := (Below.refl _ _).alloc (Nat.le_refl _) _
  have hA' := h.below hA
  have hnew := heap_alloc_new w (.cells #[.int .i64 v] 77)
  have r1 := nodeO_set (hA'.nd _ _ b hb).1 (j := 8 + s) (by omega) (.pointer (some ⟨w.heap.size, 0, none⟩))
  have r2 := nodeO_set r1 (j := 19) (by omega) (.int .i64 ((σ.used k P : Nat) + 1))
  have hoth : ∀ b', b' ≠ b → (((w.alloc (.cells #[.int .i64 v] 77)).setCell ⟨b, 8 + s, none⟩ (.pointer (some ⟨w.heap.size, 0, none⟩))).setCell ⟨b, 19, none⟩ (.int .i64 ((σ.used k P : Nat) + 1))).heap[b']? = (w.alloc (.cells #[.int .i64 v] 77)).heap[b']? := fun b' hne => (Below.heap_setCell _ ⟨b, 19, none⟩ _ b' hne).trans (Below.heap_setCell _ ⟨b, 8 + s, none⟩ _ b' hne)
  obtain ⟨E', hE'⟩ : ∃ E', setO σ.E k (8 * P + s) (some w.heap.size) = E' := ⟨_, rfl⟩
  have hEat : E' k (8 * P + s) = some w.heap.size := by rw [← hE']; exact setO_at _ _ _ _
  have hEne : ∀ {k' q'}, ¬ (k' = k ∧ q' = 8 * P + s) → E' k' q' = σ.E k' q' := fun {k' q'} hne => by rw [← hE']; exact setO_ne hne
  rw [hE']
  have hbel : ∀ k' q', ({σ with E := E', V := fun k' q' => if k' = k ∧ q' = 8 * P + s then v else σ.V k' q'} : St).bel k' q' = σ.bel k' q' := fun _ _ => rfl
  have hocc : ∀ j, j < 8 → ({σ with E := E', V := fun k' q' => if k' = k ∧ q' = 8 * P + s then v else σ.V k' q'} : St).occ k (8 * P + j) = Go.Proofs.Ytdnnfoojdfmajaa.put (fun j => σ.occ k (8 * P + j)) s true j := fun j hj => by
    unfold Go.Proofs.Ytdnnfoojdfmajaa.put St.occ
    rw [hbel]
    by_cases hjs : j = s
    · subst hjs
      rw [if_pos rfl]
      show (_ || (E' k (8 * P + j)).isSome) = true
      rw [hEat]; simp
    · rw [if_neg hjs]
      show (_ || (E' k (8 * P + j)).isSome) = _
      rw [hEne (by omega)]
  have hu : ({σ with E := E', V := fun k' q' => if k' = k ∧ q' = 8 * P + s then v else σ.V k' q'} : St).used k P = σ.used k P + 1 := by
    unfold St.used
    rw [cnt8_congr hocc]
    have := cnt8_put (f := fun j => σ.occ k (8 * P + j)) hs true
    have e : σ.occ k (8 * P + s) = false := by unfold St.occ; rw [hn, hx]; rfl
    rw [e] at this
    simpa using this
  refine ⟨(hoth t (fun e => hA'.nt hb e.symm)).trans hA'.tr, fun k' p b' hN => ⟨?_, List.mem_cons_of_mem _ (h.nd k' p b' hN).2⟩, fun k' q e hE => ?_, List.mem_cons_of_mem _ h.tF, fun b' hb' => ?_, h.i1, fun k1 p1 k2 p2 e g1 g2 => ?_⟩
  · by_cases hkk : k' = k ∧ p = P
    · obtain ⟨rfl, rfl⟩ := hkk
      have hN0 : σ.N k' p = some b' := hN
      rw [hb] at hN0
      obtain rfl := Option.some.inj hN0
      refine r2.trans (congrArg some (nodeO_congr fun i hi => ?_))
      unfold St.row
      by_cases g1 : i = 19
      · subst g1
        rw [if_pos rfl, if_neg (by omega), if_neg (by omega), if_neg (by omega), hu]
        simp
      · rw [if_neg g1]
        by_cases g2 : i = 8 + s
        · subst g2
          rw [if_pos rfl, if_neg (by omega), if_pos (by omega), show 8 + s - 8 = s from by omega]
          show _ = pt (E' k' (8 * p + s))
          rw [hEat]; rfl
        · rw [if_neg g2]
          by_cases g3 : i < 8
          · rw [if_pos g3, if_pos g3, hbel]
          · by_cases g4 : i < 16
            · rw [if_neg g3, if_pos g4, if_neg g3, if_pos g4]
              show _ = pt (E' k' (8 * p + (i - 8)))
              rw [hEne (by omega)]
            · rw [if_neg g3, if_neg g4, if_pos (by omega), if_neg g3, if_neg g4, if_pos (by omega)]
    · have hne2 : b' ≠ b := fun e => hkk (by subst e; exact h.i1 k' p k P b' hN hb)
      refine ((hoth b' hne2).trans (hA'.nd k' p b' hN).1).trans (congrArg some (nodeO_congr fun i hi => ?_))
      unfold St.row
      by_cases g3 : i < 8
      · rw [if_pos g3, if_pos g3, hbel]
      · by_cases g4 : i < 16
        · rw [if_neg g3, if_pos g4, if_neg g3, if_pos g4]
          show _ = pt (E' k' (8 * p + (i - 8)))
          rw [hEne (by omega)]
        · by_cases g5 : i < 19
          · rw [if_neg g3, if_neg g4, if_pos g5, if_neg g3, if_neg g4, if_pos g5]
          · rw [if_neg g3, if_neg g4, if_neg g5, if_neg g3, if_neg g4, if_neg g5]
            congr 2
            unfold St.used
            refine cnt8_congr fun j hj => ?_
            unfold St.occ
            rw [hbel]
            show _ = (_ || (E' k' (8 * p + j)).isSome)
            rw [hEne (by omega)]
  · have hE0 : E' k' q = some e := hE
    by_cases hkq : k' = k ∧ q = 8 * P + s
    · obtain ⟨rfl, rfl⟩ := hkq
      rw [hEat] at hE0
      obtain rfl := Option.some.inj hE0
      refine ⟨?_, by simp⟩
      show _ = some (entO (if k' = k' ∧ 8 * P + s = 8 * P + s then v else _))
      rw [if_pos ⟨rfl, rfl⟩]
      exact (hoth _ (by omega)).trans hnew
    · rw [hEne hkq] at hE0
      refine ⟨?_, List.mem_cons_of_mem _ (h.en k' q e hE0).2⟩
      show _ = some (entO (if k' = k ∧ q = 8 * P + s then v else σ.V k' q))
      rw [if_neg hkq]
      exact (hoth e (fun x => hA'.ne hb hE0 x.symm)).trans (hA'.en k' q e hE0).1
  · rcases List.mem_cons.1 hb' with rfl | hb'
    · simp
    · have := h.lt b' hb'; simp; omega
  · have g1' : E' k1 p1 = some e := g1
    have g2' : E' k2 p2 = some e := g2
    by_cases f1 : k1 = k ∧ p1 = 8 * P + s
    · by_cases f2 : k2 = k ∧ p2 = 8 * P + s
      · exact ⟨f1.1.trans f2.1.symm, f1.2.trans f2.2.symm⟩
      · rw [f1.1, f1.2, hEat] at g1'
        rw [hEne f2] at g2'
        have := h.lt _ (h.en _ _ _ g2').2
        have := Option.some.inj g1'
        omega
    · by_cases f2 : k2 = k ∧ p2 = 8 * P + s
      · rw [f2.1, f2.2, hEat] at g2'
        rw [hEne f1] at g1'
        have := h.lt _ (h.en _ _ _ g1').2
        have := Option.some.inj g2'
        omega
      · rw [hEne f1] at g1'
        rw [hEne f2] at g2'
        exact h.i2 _ _ _ _ _ g1' g2'
theorem Hp.addRoot {w : World} {t : Nat} {many nodes : Int} {F : List Nat} (h : Hp w t σ many nodes F) (hn : σ.N 3 0 = none) (hN4 : ∀ p, σ.N 4 p = none) (h1 : ∀ i, i < 8 → σ.bel 3 i = none) (h2 : ∀ i, i < 8 → σ.E 3 i = none) (h3 : ∀ i, i < 8 → ∀ m, m < 3 → σ.M 3 i m = false) :
    Hp ((w.alloc (.cells #[.pointer none, .pointer none, .pointer none, .pointer none, .pointer none, .pointer none, .pointer none, .pointer none, .pointer none, .pointer none, .pointer none, .pointer none, .pointer none, .pointer none, .pointer none, .pointer none, .int .u8 0, .int .u8 0, .int .u8 0, .int .i64 0] 67)).setCell ⟨t, 0, none⟩ (.pointer (some ⟨w.heap.size, 0, none⟩))) t {σ with N := setO σ.N 3 0 (some w.heap.size)} many nodes (w.heap.size :: F) := by
  have htl := h.lt t h.tF
  have hA : Below w.heap.size w (w.alloc (.cells #[.pointer none, .pointer none, .pointer none, .pointer none, .pointer none, .pointer none, .pointer none, .pointer none, .pointer none, .pointer none, .pointer none, .pointer none, .pointer none, .pointer none, .pointer none, .pointer none, .int .u8 0, .int .u8 0, .int .u8 0, .int .i64 0] 67)) := (Below.refl _ _).alloc (Nat.le_refl _) _
  have hA' := h.below hA
  have hnew := heap_alloc_new w (.cells #[.pointer none, .pointer none, .pointer none, .pointer none, .pointer none, .pointer none, .pointer none, .pointer none, .pointer none, .pointer none, .pointer none, .pointer none, .pointer none, .pointer none, .pointer none, .pointer none, .int .u8 0, .int .u8 0, .int .u8 0, .int .i64 0] 67)
  have hoth : ∀ b', b' ≠ t → ((w.alloc (.cells #[.pointer none, .pointer none, .pointer none, .pointer none, .pointer none, .pointer none, .pointer none, .pointer none, .pointer none, .pointer none, .pointer none, .pointer none, .pointer none, .pointer none, .pointer none, .pointer none, .int .u8 0, .int .u8 0, .int .u8 0, .int .i64 0] 67)).setCell ⟨t, 0, none⟩ (.pointer (some ⟨w.heap.size, 0, none⟩))).heap[b']? = (w.alloc (.cells #[.pointer none, .pointer none, .pointer none, .pointer none, .pointer none, .pointer none, .pointer none, .pointer none, .pointer none, .pointer none, .pointer none, .pointer none, .pointer none, .pointer none, .pointer none, .pointer none, .int .u8 0, .int .u8 0, .int .u8 0, .int .i64 0] 67)).heap[b']? := fun b' hne => Below.heap_setCell _ ⟨t, 0, none⟩ _ b' hne
  have hNc : ∀ {k' p b'}, ({σ with N := setO σ.N 3 0 (some w.heap.size)} : St).N k' p = some b' → (k' = 3 ∧ p = 0 ∧ b' = w.heap.size) ∨ (¬ (k' = 3 ∧ p = 0) ∧ σ.N k' p = some b') := fun {k' p b'} hN => by
    have hN' : setO σ.N 3 0 (some w.heap.size) k' p = some b' := hN
    unfold setO at hN'
    split at hN'
    · rename_i hk
      exact .inl ⟨hk.1, hk.2, (Option.some.inj hN').symm⟩
    · rename_i hk
      exact .inr ⟨hk, hN'⟩
  refine ⟨?_, fun k' p b' hN => ?_, fun k' q e hE => ⟨(hoth e (hA'.et hE)).trans (hA'.en k' q e hE).1, List.mem_cons_of_mem _ (hA'.en k' q e hE).2⟩, List.mem_cons_of_mem _ h.tF, fun b' hb' => ?_, fun k1 p1 k2 p2 b' g1 g2 => ?_, h.i2⟩
  · refine (heap_setCell_same _ t 0 _ 71 _ hA'.tr).trans ?_
    show _ = some (treeO (setO σ.N 3 0 (some w.heap.size) 3 0) many nodes)
    rw [setO_at]; rfl
  · rcases hNc hN with ⟨rfl, rfl, rfl⟩ | ⟨hne, hN0⟩
    · refine ⟨((hoth _ (by omega)).trans hnew).trans (congrArg some (empty_row (fun i hi => ?_) (fun i hi => by rw [Nat.mul_zero, Nat.zero_add]; exact h2 i hi) (fun i hi m hm => by rw [Nat.mul_zero, Nat.zero_add]; exact h3 i hi m hm))), by simp⟩
      rw [bel_setN_ne (by omega), Nat.mul_zero, Nat.zero_add]
      exact h1 i hi
    · refine ⟨((hoth b' (hA'.nt hN0)).trans (hA'.nd k' p b' hN0).1).trans (congrArg some (nodeO_congr fun i hi => ?_)), List.mem_cons_of_mem _ (h.nd k' p b' hN0).2⟩
      have hk4 : k' ≠ 4 := fun e => by subst e; rw [hN4] at hN0; cases hN0
      unfold St.row
      by_cases g3 : i < 8
      · rw [if_pos g3, if_pos g3, bel_setN_ne (by omega)]
      · by_cases g4 : i < 16
        · rw [if_neg g3, if_pos g4, if_neg g3, if_pos g4]
        · by_cases g5 : i < 19
          · rw [if_neg g3, if_neg g4, if_pos g5, if_neg g3, if_neg g4, if_pos g5]
          · rw [if_neg g3, if_neg g4, if_neg g5, if_neg g3, if_neg g4, if_neg g5]
            congr 2
            unfold St.used
            refine cnt8_congr fun j hj => ?_
            unfold St.occ
            rw [bel_setN_ne (by omega)]
  · rcases List.mem_cons.1 hb' with rfl | hb'
    · simp
    · have := h.lt b' hb'; simp; omega
  · rcases hNc g1 with ⟨e1, e2, e3⟩ | ⟨_, f1⟩
    · rcases hNc g2 with ⟨e4, e5, _⟩ | ⟨_, f2⟩
      · exact ⟨e1.trans e4.symm, e2.trans e5.symm⟩
      · have := h.lt _ (h.nd _ _ _ f2).2; omega
    · rcases hNc g2 with ⟨_, _, e3⟩ | ⟨_, f2⟩
      · have := h.lt _ (h.nd _ _ _ f1).2; omega
      · exact h.i1 _ _ _ _ _ f1 f2
end

end Go.Proofs.Ytdnnfoojdfmajaa

/- Parts of the proofs of layer 6 (pick): contracts of its functions, and the laws' walks. -/
import Derived.Test.YtekkblhghbkdiaaProg
import Derived.WalkKit
import Derived.WalkSpells
import Derived.WalkLawsBesides
import Derived.BigQuiet
import Derived.Deep.QuietTactic
import Derived.Lib.Hide
import Derived.Deep.RegionHeld3
import Derived.Deep.DeepCutAuto
import Derived.KernelRfl
import Derived.Deep.OwnRows
import Derived.Laws.CopyOwn
import Derived.Laws.CopyRow
import Derived.StillTailTactics
import Derived.Deep.RegionLaw
import Derived.Test.YtekkblhghbkdiaaP2
import Derived.Test.YtekkblhghbkdiaaSl
import Derived.Test.YtekkblhghbkdiaaSq
namespace Go.Proofs.Ytekkblhghbkdiaa
open Go.RowKit
set_option linter.unusedVariables false
set_option linter.unusedSimpArgs false

theorem Chg.frame {F F' G G' : List Nat} {w w' : World} (h : Chg G G' w w') (hF : ∀ b, b ∈ G → b ∈ F) (hF' : ∀ b, b ∈ F' → b ∈ G' ∨ b ∈ F) : Chg F F' w w' := by
  obtain ⟨h1, h2, h3, h4, h5, h6⟩ := h
  refine ⟨h1, h2, h3, h4, fun b hb hm => h5 b hb fun hg => hm (hF b hg), fun b hb => ?_⟩
  rcases hF' b hb with h | h
  · exact (h6 b h).imp (hF b) id
  · exact .inl h
theorem Chg.out {F F' : List Nat} {w w' : World} {g : Nat} (h : Chg F F' w w') (hf : g ∉ F) (hg : g < w.heap.size) : g ∉ F' := fun hm => by
  rcases h.2.2.2.2.2 g hm with h | h
  · exact hf h
  · omega
theorem below_undrew {B : Nat} {w w' : World} (h : Below B w.drew w') : Below B w w' := ⟨h.os, h.tape, h.output, h.size, h.block⟩
theorem below_drewN {B : Nat} {w w' : World} (h : Below B w w') (k : Nat) : Below B w (w'.drewN k) := ⟨h.os, h.tape, h.output, h.size, h.block⟩
def cs (e : E) : List Value := [.int .i64 e.f, .int .i64 e.w]
theorem cs_length (e : E) : (cs e).length = 2 := rfl
def rc (l : List E) : List Value := l.flatMap cs
theorem rc_length (l : List E) : (rc l).length = l.length * 2 := flat_length _ 2 cs_length l
theorem rc_get (l : List E) (i : Nat) (k : E) (h : l[i]? = some k) : (rc l)[i * 2]? = some (.int .i64 k.f) ∧ (rc l)[i * 2 + 1]? = some (.int .i64 k.w) := by
  have h0 := flat_get cs 2 cs_length l i 0 (by decide)
  have h1 := flat_get cs 2 cs_length l i 1 (by decide)
  rw [h] at h0 h1
  exact ⟨h0, h1⟩
theorem rc_one (k : E) : rc [k] = cs k := by simp [rc]
theorem rc_append (a b : List E) : rc (a ++ b) = rc a ++ rc b := by simp [rc]
theorem rc_onecell (l : List E) : ∀ u ∈ rc l, u.oneCell' = true := by
  intro u hu
  obtain ⟨k, _, hk⟩ := List.mem_flatMap.1 hu
  simp only [cs, List.mem_cons, List.not_mem_nil, or_false] at hk
  rcases hk with rfl | rfl <;> rfl
theorem news_alloc (w : World) (cs : Array Value) (e : TypeId) : ∀ j u, cs.toList[j]? = some u → (w.alloc (.cells cs e)).cell? ((⟨w.heap.size, 0, none⟩ : Addr).add j) = some u := by
  intro j u hj
  rw [Addr.add_lit, Nat.zero_add]
  simp only [World.cell?, Deep.blk_alloc_new]
  simpa using hj
theorem take_succ' {α : Type} (l : List α) (i : Nat) (a : α) (h : l[i]? = some a) : l.take (i + 1) = l.take i ++ [a] := by rw [List.take_add_one, h]; rfl
theorem ne_nil_of_lt {α : Type} {l : List α} {i : Nat} (h : i < l.length) : l ≠ [] := fun e => by rw [e] at h; simp at h
/-- A row of frames and worths; e: the elements' type. -/
def Told (e : TypeId) (w : World) (v : Value) (l : List E) : Prop := Sq w e 2 v l.length (rc l)
theorem Told.lt {e : TypeId} {w : World} {v : Value} {l : List E} (h : Told e w v l) : ∀ b, b ∈ vblk v → b < w.heap.size := Sq.lt h
theorem Told.below {e : TypeId} {w w' : World} {v : Value} {l : List E} (h : Told e w v l) (hb : Below w.heap.size w w') : Told e w' v l := Sq.below h hb
theorem Told.chg {e : TypeId} {w w' : World} {v : Value} {l : List E} {F F' : List Nat} (h : Told e w v l) (hc : Chg F F' w w') (hs : Sep (vblk v) F) : Told e w' v l := Sq.chg h hc hs
theorem Told.of_blocks {e : TypeId} {w w' : World} {v : Value} {l : List E} (h : Told e w v l) (hb : ∀ b, b ∈ vblk v → w'.heap[b]? = w.heap[b]?) : Told e w' v l := Sq.of_blocks h hb
theorem Told.slice {e : TypeId} {w : World} {v : Value} {l : List E} (h : Told e w v l) : ∃ ao cap, v = .slice ao l.length cap ∧ l.length ≤ cap ∧ cap ≤ maxLen := Sq.slice h
theorem Told.read {e : TypeId} {w : World} {v : Value} {l : List E} (h : Told e w v l) (hl : l ≠ []) : ∃ b cap, v = .slice (some ⟨b, 0, none⟩) l.length cap ∧ l.length ≤ cap ∧ cap ≤ maxLen ∧ b < w.heap.size ∧ (∀ i k, l[i]? = some k → w.cell? ⟨b, i * 2, none⟩ = some (.int .i64 k.f) ∧ w.cell? ⟨b, i * 2 + 1, none⟩ = some (.int .i64 k.w)) ∧ ∀ j, w.frozen? ⟨b, j, none⟩ = false := by
  rcases Sq.cases h with ⟨_, h0⟩ | ⟨b, cap, rfl, h1, h2, hb, hcell, hf⟩
  · exact (hl (List.eq_nil_of_length_eq_zero h0)).elim
  · exact ⟨b, cap, rfl, h1, h2, hb, fun i k hk => ⟨hcell _ _ (rc_get l i k hk).1, hcell _ _ (rc_get l i k hk).2⟩, hf⟩
theorem Told.set_other {e : TypeId} {w : World} {v : Value} {l : List E} (h : Told e w v l) {c : Nat} (hc : c ∉ vblk v) (j : Nat) (u : Value) : Told e (w.setCell ⟨c, j, none⟩ u) v l :=
  Sq.of_blocks h fun b hb => Below.heap_setCell _ _ _ _ (fun e => hc (by cases e; exact hb))
theorem Told.one_more {e : TypeId} {w : World} {v : Value} {l : List E} {k : E} (h : Sq w e 2 v (l.length + 1) (rc l ++ rc [k])) : Told e w v (l ++ [k]) := by
  unfold Told
  rw [List.length_append, rc_append]
  exact h
/-- One element is stored anew, both its cells. -/
theorem Told.stored {e : TypeId} {w : World} {b n cap : Nat} {l : List E} (h : Told e w (.slice (some ⟨b, 0, none⟩) n cap) l) (hn : n = l.length) (i : Nat) (k : E) (hi : i < l.length) :
    Told e ((w.setCell ⟨b, i * 2, none⟩ (.int .i64 k.f)).setCell ⟨b, i * 2 + 1, none⟩ (.int .i64 k.w)) (.slice (some ⟨b, 0, none⟩) n cap) (l.set i k) := by
  subst hn
  have h1 := Sq.stored (Sq.stored h (i * 2) (.int .i64 k.f)) (i * 2 + 1) (.int .i64 k.w)
  have ha := List.getElem?_eq_getElem hi
  have e1 := flat_set cs 2 cs_length 0 (.int .i64 k.f) (by decide) l[i] ⟨k.f, l[i].w⟩ rfl l i ha
  have e2 := flat_set cs 2 cs_length 1 (.int .i64 k.w) (by decide) ⟨k.f, l[i].w⟩ k rfl (l.set i ⟨k.f, l[i].w⟩) i (by simp [hi])
  unfold Told
  rw [List.length_set]
  have e3 : rc (l.set i k) = ((rc l).set (i * 2) (.int .i64 k.f)).set (i * 2 + 1) (.int .i64 k.w) := by
    unfold rc
    rw [show i * 2 = i * 2 + 0 from rfl, e1, e2, List.set_set]
  rw [e3]
  exact h1
theorem Told.stored_w {e : TypeId} {w : World} {b n cap : Nat} {l : List E} (h : Told e w (.slice (some ⟨b, 0, none⟩) n cap) l) (hn : n = l.length) (i : Nat) (k : E) (x : Int) (hk : l[i]? = some k) :
    Told e (w.setCell ⟨b, i * 2 + 1, none⟩ (.int .i64 x)) (.slice (some ⟨b, 0, none⟩) n cap) (l.set i ⟨k.f, x⟩) := by
  subst hn
  have h1 := Sq.stored h (i * 2 + 1) (.int .i64 x)
  have e2 := flat_set cs 2 cs_length 1 (.int .i64 x) (by decide) k ⟨k.f, x⟩ rfl l i hk
  unfold Told
  rw [List.length_set, show rc (l.set i ⟨k.f, x⟩) = _ from e2.symm]
  exact h1
abbrev lsV : Value := .func (Fn.func 21) #[] #[]
/-- The heap's rows: their struct in block p, its slice's row, its map. -/
def Pq (w : World) (p : Nat) (F : List Nat) (L : List E) (n : Nat) (φ : Int → Option Int) : Prop :=
  ∃ v b, w.heap[p]? = some (.cells #[v, .map (some b), lsV] 59 (0, 0)) ∧ Told 54 w v L ∧ MX w b n φ ∧ F = p :: b :: vblk v ∧ p ≠ b ∧ p ∉ vblk v ∧ b ∉ vblk v
theorem Pq.lt {w : World} {p : Nat} {F : List Nat} {L : List E} {n : Nat} {φ : Int → Option Int} (h : Pq w p F L n φ) : ∀ b, b ∈ F → b < w.heap.size := by
  obtain ⟨v, b, hp, ht, hm, rfl, _⟩ := h
  intro x hx
  rcases List.mem_cons.1 hx with rfl | hx
  · exact lt_of_block hp
  · rcases List.mem_cons.1 hx with rfl | hx
    · exact hm.lt
    · exact ht.lt x hx
theorem Pq.of_blocks {w w' : World} {p : Nat} {F : List Nat} {L : List E} {n : Nat} {φ : Int → Option Int} (h : Pq w p F L n φ) (hb : ∀ b, b ∈ F → w'.heap[b]? = w.heap[b]?) : Pq w' p F L n φ := by
  obtain ⟨v, b, hp, ht, hm, rfl, r⟩ := h
  exact ⟨v, b, (hb p (by simp)).trans hp, ht.of_blocks fun x hx => hb x (by simp [hx]), hm.of_block (hb b (by simp)), rfl, r⟩
theorem Pq.chg {w w' : World} {p : Nat} {F G G' : List Nat} {L : List E} {n : Nat} {φ : Int → Option Int} (h : Pq w p F L n φ) (hc : Chg G G' w w') (hs : Sep F G) : Pq w' p F L n φ :=
  h.of_blocks fun b hb => hc.block (h.lt b hb) (hs b hb)
theorem Pq.below {w w' : World} {p : Nat} {F : List Nat} {L : List E} {n : Nat} {φ : Int → Option Int} (h : Pq w p F L n φ) (hc : Below w.heap.size w w') : Pq w' p F L n φ :=
  h.of_blocks fun b hb => hc.block b (h.lt b hb)
theorem Pq.drewN {w : World} {p : Nat} {F : List Nat} {L : List E} {n : Nat} {φ : Int → Option Int} (h : Pq w p F L n φ) (k : Nat) : Pq (w.drewN k) p F L n φ := h.of_blocks fun _ _ => rfl
theorem Pq.drew {w : World} {p : Nat} {F : List Nat} {L : List E} {n : Nat} {φ : Int → Option Int} (h : Pq w p F L n φ) : Pq w.drew p F L n φ := h.of_blocks fun _ _ => rfl
theorem Pq.congr {w : World} {p : Nat} {F : List Nat} {L : List E} {n : Nat} {φ ψ : Int → Option Int} (h : Pq w p F L n φ) (he : ∀ f, wf f → ψ f = φ f) : Pq w p F L n ψ := by
  obtain ⟨v, b, hp, ht, hm, r⟩ := h
  exact ⟨v, b, hp, ht, hm.congr he, r⟩
/-- The three cells, and what they lead to. -/
theorem Pq.cells {w : World} {p : Nat} {F : List Nat} {L : List E} {n : Nat} {φ : Int → Option Int} (h : Pq w p F L n φ) : ∃ ao cap b, w.cell? ⟨p, 0, none⟩ = some (.slice ao L.length cap) ∧ w.cell? ⟨p, 1, none⟩ = some (.map (some b)) ∧ w.cell? ⟨p, 2, none⟩ = some lsV ∧ (∀ j, w.frozen? ⟨p, j, none⟩ = false) ∧
    Told 54 w (.slice ao L.length cap) L ∧ MX w b n φ ∧ w.heap[p]? = some (.cells #[.slice ao L.length cap, .map (some b), lsV] 59 (0, 0)) ∧ F = p :: b :: vblk (.slice ao L.length cap) ∧ p ≠ b ∧ p ∉ vblk (.slice ao L.length cap) ∧ b ∉ vblk (.slice ao L.length cap) := by
  obtain ⟨v, b, hp, ht, hm, r⟩ := h
  obtain ⟨ao, cap, rfl, _, _⟩ := ht.slice
  exact ⟨ao, cap, b, cell_of_row w p 0 _ 59 _ hp, cell_of_row w p 1 _ 59 _ hp, cell_of_row w p 2 _ 59 _ hp, fun j => frozen_of_row w p j _ 59 hp, ht, hm, hp, r⟩
theorem mapTurned_chg {w w' : World} {b : Nat} (h : w.mapTurned w' b) : Chg [b] [b] w w' := by
  have g := h.grown
  exact ⟨g.os, g.tape, g.output, g.size, fun x hx hm => g.block x hx (by simp at hm ⊢; exact fun e => hm e), fun x hx => .inl hx⟩
theorem len_any (p : Nat) (F : List Nat) (L : List E) (n : Nat) (φ : Int → Option Int) (w : World) (h : Pq w p F L n φ) :
    Calls Try.prog 45 #[.pointer (some ⟨p, 0, none⟩)] w fun e w' => e = .returned (.int .i64 (L.length : Nat)) ∧ w = w' := by
  obtain ⟨ao, cap, b, c0, c1, c2, fz, ht, hm, _⟩ := h.cells
  clear h ht hm
  go_enter Try.func45, Try.ntmps45
  go_wp2
  go_ret
  exact ⟨rfl, rfl⟩
theorem ahead_any (a b : E) (w : World) : Calls Try.prog 21 #[.agg #[.int .i64 a.f, .int .i64 a.w], .agg #[.int .i64 b.f, .int .i64 b.w]] w fun e w' => e = .returned (.bool (decide (lt a b))) ∧ Below w.heap.size w w' := by
  obtain ⟨af, aw⟩ := a
  obtain ⟨bf, bw⟩ := b
  by_cases h1 : aw < bw
  · have HR := Lib.hid (show decide (lt ⟨af, aw⟩ ⟨bf, bw⟩) = true from decide_eq_true (.inl h1))
    go_enter Try.func21, Try.ntmps21
    go_wp2
    go_ret
    rw [HR.out]
    exact ⟨rfl, ((Below.refl _ _).alloc (Nat.le_refl _) _).alloc (by simp) _⟩
  · by_cases h2 : aw = bw
    · subst h2
      by_cases h3 : af < bf
      · have HR := Lib.hid (show decide (lt ⟨af, aw⟩ ⟨bf, aw⟩) = true from decide_eq_true (.inr ⟨rfl, h3⟩))
        go_enter Try.func21, Try.ntmps21
        go_wp2
        go_ret
        rw [HR.out]
        exact ⟨rfl, ((Below.refl _ _).alloc (Nat.le_refl _) _).alloc (by simp) _⟩
      · have HR := Lib.hid (show decide (lt ⟨af, aw⟩ ⟨bf, aw⟩) = false from decide_eq_false (by unfold lt; simp only; omega))
        go_enter Try.func21, Try.ntmps21
        go_wp2
        go_ret
        rw [HR.out]
        exact ⟨rfl, ((Below.refl _ _).alloc (Nat.le_refl _) _).alloc (by simp) _⟩
    · have HR := Lib.hid (show decide (lt ⟨af, aw⟩ ⟨bf, bw⟩) = false from decide_eq_false (by unfold lt; simp only; omega))
      go_enter Try.func21, Try.ntmps21
      go_wp2
      go_ret
      rw [HR.out]
      exact ⟨rfl, ((Below.refl _ _).alloc (Nat.le_refl _) _).alloc (by simp) _⟩

end Go.Proofs.Ytekkblhghbkdiaa

/- Parts of the proofs of layer 19 (radix): contracts of its functions, and the laws' walks. -/
import Derived.Test.YtdnnfoojdfmajaaProg
import Derived.WalkKit
import Derived.WalkSpells
import Derived.WalkLawsBesides
import Derived.BigQuiet
import Derived.Deep.QuietTactic
import Derived.Lib.Hide
import Derived.Deep.RegionHeld3
import Derived.Deep.DeepCutAuto
import Derived.KernelRfl
import Derived.Deep.OwnRows
import Derived.Laws.CopyOwn
import Derived.Laws.CopyRow
import Derived.StillTailTactics
import Derived.Deep.RegionLaw
import Derived.Handy
import Derived.Deep.CutRange
import Derived.Deep.CutBlock
import Derived.Test.YtdnnfoojdfmajaaSl
import Derived.Test.YtdnnfoojdfmajaaSq
import Derived.Test.YtdnnfoojdfmajaaX1
namespace Go.Proofs.Ytdnnfoojdfmajaa
open Go.RowKit
set_option linter.unusedVariables false
set_option linter.unusedSimpArgs false

theorem lt_of_block {w : World} {b : Nat} {o : Obj} (h : w.heap[b]? = some o) : b < w.heap.size := (Array.getElem?_eq_some_iff.1 h).1
/-- A node's cells. -/
def nodeO (g : Nat → Value) : Obj := .cells (Array.ofFn (n := 20) fun i => g i.val) 67 (0, 0)
theorem nodeO_congr {g g' : Nat → Value} (h : ∀ i, i < 20 → g i = g' i) : nodeO g = nodeO g' := by
  unfold nodeO
  congr 2
  funext i
  exact h i.val i.isLt
theorem nodeO_cell {w : World} {b : Nat} {g : Nat → Value} (h : w.heap[b]? = some (nodeO g)) {j : Nat} (hj : j < 20) : w.cell? ⟨b, j, none⟩ = some (g j) := by
  rw [cell_of_row w b j _ 67 _ h]
  simp [hj]
theorem nodeO_free {w : World} {b : Nat} {g : Nat → Value} (h : w.heap[b]? = some (nodeO g)) (j : Nat) : w.frozen? ⟨b, j, none⟩ = false := frozen_of_row w b j _ 67 h
theorem nodeO_set {w : World} {b : Nat} {g : Nat → Value} (h : w.heap[b]? = some (nodeO g)) {j : Nat} (hj : j < 20) (v : Value) :
    (w.setCell ⟨b, j, none⟩ v).heap[b]? = some (nodeO fun i => if i = j then v else g i) := by
  have e : (Array.ofFn (n := 20) fun i => g i.val).setIfInBounds j v = Array.ofFn (n := 20) fun i => if i.val = j then v else g i.val := by
    apply Array.ext
    · simp
    · intro i h1 h2
      rw [Array.getElem_setIfInBounds (by simpa using h2)]
      simp only [Array.getElem_ofFn]
      by_cases hij : j = i
      · subst hij; simp
      · rw [if_neg hij, if_neg (fun e => hij e.symm)]
  refine (heap_setCell_same w b j _ 67 v h).trans ?_
  rw [e]
  rfl
/-- The tree as it lies: its nodes by level and number, its entries by level and number, their values, the marks of the slots. -/
structure St where
  N : Nat → Nat → Option Nat
  E : Nat → Nat → Option Nat
  V : Nat → Nat → Int
  M : Nat → Nat → Nat → Bool
def pt (o : Option Nat) : Value := .pointer (o.map fun b => ⟨b, 0, none⟩)
def St.bel (σ : St) (k q : Nat) : Option Nat := if k = 0 then none else σ.N (k - 1) q
def St.occ (σ : St) (k q : Nat) : Bool := (σ.bel k q).isSome || (σ.E k q).isSome
def St.used (σ : St) (k p : Nat) : Nat := cnt8 fun s => σ.occ k (8 * p + s)
def St.row (σ : St) (k p i : Nat) : Value :=
  if i < 8 then pt (σ.bel k (8 * p + i)) else if i < 16 then pt (σ.E k (8 * p + (i - 8))) else if i < 19 then .int .u8 (byt fun s => σ.M k (8 * p + s) (i - 16)) else .int .i64 (σ.used k p : Nat)
def treeO (r : Option Nat) (many nodes : Int) : Obj := .cells #[pt r, .int .i64 many, .int .i64 nodes] 71 (0, 0)
def entO (v : Int) : Obj := .cells #[.int .i64 v] 77 (0, 0)
structure Hp (w : World) (t : Nat) (σ : St) (many nodes : Int) (F : List Nat) : Prop where
  tr : w.heap[t]? = some (treeO (σ.N 3 0) many nodes)
  nd : ∀ k p b, σ.N k p = some b → w.heap[b]? = some (nodeO (σ.row k p)) ∧ b ∈ F
  en : ∀ k q b, σ.E k q = some b → w.heap[b]? = some (entO (σ.V k q)) ∧ b ∈ F
  tF : t ∈ F
  lt : ∀ b, b ∈ F → b < w.heap.size
  i1 : ∀ k p k' p' b, σ.N k p = some b → σ.N k' p' = some b → k = k' ∧ p = p'
  i2 : ∀ k p k' p' b, σ.E k p = some b → σ.E k' p' = some b → k = k' ∧ p = p'
section
variable {w w' : World} {t : Nat} {σ σ' : St} {many nodes many' nodes' : Int} {F F' G G' : List Nat} {k p b : Nat}
theorem node_ne_tree {g : Nat → Value} {r : Option Nat} {a c : Int} : nodeO g ≠ treeO r a c := by unfold nodeO treeO; intro h; injection h with _ h; exact absurd h (by decide)
theorem node_ne_ent {g : Nat → Value} {v : Int} : nodeO g ≠ entO v := by unfold nodeO entO; intro h; injection h with _ h; exact absurd h (by decide)
theorem ent_ne_tree {v : Int} {r : Option Nat} {a c : Int} : entO v ≠ treeO r a c := by unfold entO treeO; intro h; injection h with _ h; exact absurd h (by decide)
theorem Hp.nt (h : Hp w t σ many nodes F) (hb : σ.N k p = some b) : b ≠ t := fun e => by
  subst e
  exact node_ne_tree (Option.some.inj ((h.nd k p b hb).1.symm.trans h.tr))
theorem Hp.et (h : Hp w t σ many nodes F) (hb : σ.E k p = some b) : b ≠ t := fun e => by
  subst e
  exact ent_ne_tree (Option.some.inj ((h.en k p b hb).1.symm.trans h.tr))
theorem Hp.ne (h : Hp w t σ many nodes F) {k' p' e : Nat} (hb : σ.N k p = some b) (he : σ.E k' p' = some e) : b ≠ e := fun x => by
  subst x
  exact node_ne_ent (Option.some.inj ((h.nd k p b hb).1.symm.trans (h.en k' p' b he).1))
theorem Hp.of_blocks (h : Hp w t σ many nodes F) (hb : ∀ b, b ∈ F → w'.heap[b]? = w.heap[b]?) (hs : w.heap.size ≤ w'.heap.size) : Hp w' t σ many nodes F :=
  ⟨(hb t h.tF).trans h.tr, fun k p b hN => ⟨(hb b (h.nd k p b hN).2).trans (h.nd k p b hN).1, (h.nd k p b hN).2⟩, fun k q b hE => ⟨(hb b (h.en k q b hE).2).trans (h.en k q b hE).1, (h.en k q b hE).2⟩, h.tF, fun b hb => Nat.lt_of_lt_of_le (h.lt b hb) hs, h.i1, h.i2⟩
theorem Hp.chg (h : Hp w t σ many nodes F) (hc : Chg G G' w w') (hs : Sep F G) : Hp w' t σ many nodes F := h.of_blocks (fun b hb => hc.block (h.lt b hb) (hs b hb)) hc.size
theorem Hp.below (h : Hp w t σ many nodes F) (hb : Below w.heap.size w w') : Hp w' t σ many nodes F := h.of_blocks (fun b hm => hb.block b (h.lt b hm)) hb.size
theorem Hp.drew (h : Hp w t σ many nodes F) : Hp w.drew t σ many nodes F := h.of_blocks (fun _ _ => rfl) (Nat.le_refl _)
theorem Hp.drewN (h : Hp w t σ many nodes F) (n : Nat) : Hp (w.drewN n) t σ many nodes F := h.of_blocks (fun _ _ => rfl) (Nat.le_refl _)
theorem Hp.tcells (h : Hp w t σ many nodes F) : w.cell? ⟨t, 0, none⟩ = some (pt (σ.N 3 0)) ∧ w.cell? ⟨t, 1, none⟩ = some (.int .i64 many) ∧ w.cell? ⟨t, 2, none⟩ = some (.int .i64 nodes) ∧ ∀ j, w.frozen? ⟨t, j, none⟩ = false :=
  ⟨cell_of_row w t 0 _ 71 _ h.tr, cell_of_row w t 1 _ 71 _ h.tr, cell_of_row w t 2 _ 71 _ h.tr, fun j => frozen_of_row w t j _ 71 h.tr⟩
theorem Hp.bcell (h : Hp w t σ many nodes F) (hb : σ.N k p = some b) {s : Nat} (hs : s < 8) : w.cell? ⟨b, s, none⟩ = some (pt (σ.bel k (8 * p + s))) := by
  rw [nodeO_cell (h.nd k p b hb).1 (by omega)]
  unfold St.row
  rw [if_pos hs]
theorem Hp.ecell (h : Hp w t σ many nodes F) (hb : σ.N k p = some b) {s : Nat} (hs : s < 8) : w.cell? ⟨b, 8 + s, none⟩ = some (pt (σ.E k (8 * p + s))) := by
  rw [nodeO_cell (h.nd k p b hb).1 (by omega)]
  unfold St.row
  rw [if_neg (by omega), if_pos (by omega), show 8 + s - 8 = s from by omega]
theorem Hp.mcell (h : Hp w t σ many nodes F) (hb : σ.N k p = some b) {m : Nat} (hm : m < 3) : w.cell? ⟨b, 16 + m, none⟩ = some (.int .u8 (byt fun s => σ.M k (8 * p + s) m)) := by
  rw [nodeO_cell (h.nd k p b hb).1 (by omega)]
  unfold St.row
  rw [if_neg (by omega), if_neg (by omega), if_pos (by omega), show 16 + m - 16 = m from by omega]
theorem Hp.ucell (h : Hp w t σ many nodes F) (hb : σ.N k p = some b) : w.cell? ⟨b, 19, none⟩ = some (.int .i64 (σ.used k p : Nat)) := by
  rw [nodeO_cell (h.nd k p b hb).1 (by omega)]
  unfold St.row
  rw [if_neg (by omega), if_neg (by omega), if_neg (by omega)]
theorem Hp.vcell (h : Hp w t σ many nodes F) {q e : Nat} (he : σ.E k q = some e) : w.cell? ⟨e, 0, none⟩ = some (.int .i64 (σ.V k q)) ∧ ∀ j, w.frozen? ⟨e, j, none⟩ = false :=
  ⟨cell_of_row w e 0 _ 77 _ (h.en k q e he).1, fun j => frozen_of_row w e j _ 77 (h.en k q e he).1⟩
end
theorem slot_any (g k : Nat) (hg : g < 4096) (hk : k ≤ 3) (w : World) : Calls Try.prog 33 #[.int .i64 (g : Nat), .int .i64 (k : Nat)] w fun e w' => e = .returned (.int .i64 ((g / 8 ^ k % 8 : Nat) : Int)) ∧ w = w' := by
  have h7 : ∀ x : Nat, x < 4096 → bits .and .i64 (x : Int) 7 = ((x % 8 : Nat) : Int) := fun x hx => by
    have h1 : (BitVec.ofInt IntKind.i64.bits ((x : Nat) : Int)).toNat = x := by
      show (BitVec.ofInt 64 ((x : Nat) : Int)).toNat = x
      rw [BitVec.toNat_ofInt]
      omega
    have h2 : (BitVec.ofInt IntKind.i64.bits ((x : Nat) : Int) &&& BitVec.ofInt IntKind.i64.bits 7).toNat = x % 8 := by
      rw [BitVec.toNat_and, h1, show (BitVec.ofInt IntKind.i64.bits 7).toNat = 7 from rfl]
      exact Nat.and_two_pow_sub_one_eq_mod x 3
    show IntKind.i64.wrap ((BitVec.ofInt IntKind.i64.bits ((x : Nat) : Int) &&& BitVec.ofInt IntKind.i64.bits 7).toNat : Int) = _
    rw [h2, IntKind.wrap_i64]
    omega
  have hx : ((g : Nat) : Int) / (2 ^ (3 * k)) = ((g / 8 ^ k : Nat) : Int) := by
    have hk4 : k = 0 ∨ k = 1 ∨ k = 2 ∨ k = 3 := by omega
    rcases hk4 with rfl | rfl | rfl | rfl
    · simp
    · simp
    · simp
    · simp
  have h8 : bits .and .i64 (((g : Nat) : Int) / 8 ^ k) 7 = ((g / 8 ^ k % 8 : Nat) : Int) := by
    rw [show ((g : Nat) : Int) / 8 ^ k = ((g / 8 ^ k : Nat) : Int) from by simp]
    exact h7 (g / 8 ^ k) (Nat.lt_of_le_of_lt (Nat.div_le_self _ _) hg)
  go_enter Try.func33, Try.ntmps33
  go_wp2
  go_ret
  rw [hx]
  refine ⟨?_, rfl⟩
  simp

end Go.Proofs.Ytdnnfoojdfmajaa

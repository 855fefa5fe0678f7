/- Parts of the proofs of layer 25 (clock): contracts of its functions, and the laws' walks. -/
import Derived.Test.YtehbonhdhblpgaaProg
import Derived.RangeFuncNested
import Derived.RangeFuncBound
import Derived.RangeFuncCalls
import Derived.RangeFuncLeaves
import Derived.RangeFuncWrites
import Derived.RangeFuncBox
import Derived.Shelf.Abstract
import Derived.Shelf.RegionOpen
import Derived.WalkKit
import Derived.OwnWalkIn
import Derived.TacticsInMore
import Derived.LoopNIn
import Derived.LoopIn
import Derived.WalkSpells
import Derived.WalkLawsBesides
import Derived.BigQuiet
import Derived.Deep.QuietTactic
import Derived.Lib.Hide
import Derived.Deep.RegionHeld3
import Derived.Deep.DeepCutAuto
import Derived.KernelRfl
import Derived.Deep.OwnRows
import Derived.Laws.CopyOwn
import Derived.Laws.CopyRow
import Derived.StillTailTactics
import Derived.Deep.RegionLaw
import Derived.Test.YtehbonhdhblpgaaC7
namespace Go.Proofs.Ytehbonhdhblpgaa
open Go.RowKit
set_option linter.unusedVariables false
set_option linter.unusedSimpArgs false

open Go.Shelf
attribute [local go_sem] Oper.semAt_some
/-- What a round must keep: the clock's struct and the two boxes. -/
def Kp3 (g Bn Bc : Nat) (W W' : World) : Prop := W'.heap[g]? = W.heap[g]? ∧ W'.heap[Bn]? = W.heap[Bn]? ∧ W'.heap[Bc]? = W.heap[Bc]?
theorem Kp3.trans {g Bn Bc : Nat} {A B C : World} (h : Kp3 g Bn Bc A B) (k : Kp3 g Bn Bc B C) : Kp3 g Bn Bc A C := ⟨k.1.trans h.1, k.2.1.trans h.2.1, k.2.2.trans h.2.2⟩
theorem kp3_b {g Bn Bc : Nat} {w : World} (h1 : g < w.heap.size) (h2 : Bn < w.heap.size) (h3 : Bc < w.heap.size) (W : World) (l : Nat) (o o' : Obj) (hl : w.heap.size ≤ l) (h : W.heap[l]? = some o) (_ : o.isCells = false) (_ : o.isWalk = false) : Kp3 g Bn Bc W (W.putObj l o') :=
  ⟨World.putObj_heap_other (by omega), World.putObj_heap_other (by omega), World.putObj_heap_other (by omega)⟩
def fins (N : Nat) : List (Fin N) := List.ofFn fun i => i
theorem fins_length (N : Nat) : (fins N).length = N := by simp [fins]
theorem fins_get {N k : Nat} (h : k < N) : (fins N)[k]? = some ⟨k, h⟩ := by simp [fins, h]
theorem fins_take {N k : Nat} (h : k < N) : (fins N).take (k + 1) = (fins N).take k ++ [⟨k, h⟩] := take_succ' _ _ _ (fins_get h)
set_option maxRecDepth 100000 in
set_option maxHeartbeats 2000000 in
theorem passed1_in (F : Fence) (n : Nat) (h28 : F.fn 28) (hro : F.round = none) (hn : 1 ≤ n) (l Bn Bc g b N len cap : Nat) (ao : Option Addr) (hN : N ≤ len) (hlen : len ≤ 1000) (hao : 0 < N → ao = some ⟨b, 0, none⟩) (J Jx : List (Fin N) → World → Prop)
    (hY : ∀ pre x W, J pre W → pre.length < N → YieldAt F (n - 1) Try.prog l #[.pointer (some ⟨b, x.1 * 4, none⟩)] W fun e W' =>
      (e = .returned (.bool true) ∧ J (pre ++ [x]) W' ∧ Kp3 g Bn Bc W W') ∨ (e = .returned (.bool false) ∧ Jx (pre ++ [x]) W'))
    (W : World) (hBn : W.cell? ⟨Bn, 0, none⟩ = some (.int .i64 (N : Nat))) (hBc : W.cell? ⟨Bc, 0, none⟩ = some (.pointer (some ⟨g, 0, none⟩))) (hg : W.cell? ⟨g, 0, none⟩ = some (.slice ao len cap)) (h0 : J [] W) :
    CallsIn F n Try.prog 28 #[.func (.yield l) #[] #[], .pointer (some ⟨Bn, 0, none⟩), .pointer (some ⟨Bc, 0, none⟩)] W fun e W' => (∃ v, e = .returned v) ∧
      ((∃ ys, ys = fins N ∧ J ys W') ∨ (∃ pre, (∃ k, k ≤ N ∧ pre = (fins N).take k) ∧ Jx pre W')) := by
  refine callsIn_of_wp Try.func28 rfl h28 ?_ hro
  simp only [Try.ntmps28, List.size_toArray, List.length_cons, List.length_nil, Nat.reduceAdd, Nat.reduceSub, Array.replicate_succ, Array.replicate_zero, List.push_toArray, List.append_toArray, List.nil_append, List.cons_append]
  gi_wp2
  gi_loopw [6] (fun i wr => ∃ k : Nat, k ≤ N ∧ i = .int .i64 k ∧ J ((fins N).take k) wr ∧ Kp3 g Bn Bc W wr)
    (fun i _ => N - (intOf i).toNat)
  case atStart => exact ⟨0, Nat.zero_le _, rfl, by rw [List.take_zero]; exact h0, rfl, rfl, rfl⟩
  case round =>
    obtain ⟨k, hk, rfl, hJs, hnx⟩ := hrel
    by_cases hlt : k < N
    · obtain rfl := hao (by omega)
      obtain ⟨fn, tmps, assign, body, hy, hR⟩ := hY _ ⟨k, hlt⟩ wr hJs (by rw [List.length_take, fins_length, Nat.min_eq_left hk]; exact hlt)
      dsimp only at hy
      have c1 := (World.cell?_of_block (a := ⟨Bc, 0, none⟩) hnx.2.2).trans hBc
      have c2 := (World.cell?_of_block (a := ⟨g, 0, none⟩) hnx.1).trans hg
      have hk2 : (k : Int) < (len : Int) := by omega
      clear hao
      gi_wp2
      refine hR.mono ?_
      rintro e W3 (⟨rfl, hJ3, hk3⟩ | ⟨rfl, hJx3⟩)
      · gi_wp2
        go_roundw
        case rel => exact ⟨k + 1, by omega, by simp, by rw [fins_take hlt]; exact hJ3, hnx.trans hk3⟩
        case measure => simp [intOf]; omega
      · gi_wp2
        refine bodyPost_ret (results_none rfl _ _ _) rfl ?_
        exact ⟨⟨_, rfl⟩, .inr ⟨_, ⟨k + 1, by omega, (fins_take hlt).symm⟩, hJx3⟩⟩
    · obtain rfl : k = N := by omega
      gi_wp2
      go_end0
      exact ⟨⟨_, rfl⟩, .inl ⟨_, rfl, by rw [List.take_of_length_le (by rw [fins_length]; exact Nat.le_refl _)] at hJs; exact hJs⟩⟩
theorem passed_stops (F : Fence) (n : Nat) (h28 : F.fn 28) (hro : F.round = none) (hn : 1 ≤ n) (Bn Bc g b N len cap : Nat) (ao : Option Addr) (hN : N ≤ len) (hlen : len ≤ 1000) (hao : 0 < N → ao = some ⟨b, 0, none⟩)
    (w : World) (hBn : w.cell? ⟨Bn, 0, none⟩ = some (.int .i64 (N : Nat))) (hBc : w.cell? ⟨Bc, 0, none⟩ = some (.pointer (some ⟨g, 0, none⟩))) (hg : w.cell? ⟨g, 0, none⟩ = some (.slice ao len cap)) :
    SeqStopsK F n Try.prog 28 #[.pointer (some ⟨Bn, 0, none⟩), .pointer (some ⟨Bc, 0, none⟩)] (fun x : Fin N => #[Value.pointer (some ⟨b, x.1 * 4, none⟩)]) (Kp3 g Bn Bc) (fun ys => ys = fins N) (fun pre => ∃ k, k ≤ N ∧ pre = (fins N).take k) N w := fun l J Jx W hW _ _ hY h0 =>
  passed1_in F n h28 hro hn l Bn Bc g b N len cap ao hN hlen hao J Jx hY W (cell_keep hW hBn) (cell_keep hW hBc) (cell_keep hW hg) h0
set_option maxHeartbeats 1000000 in
theorem passed_in (F : Fence) (n : Nat) (h25 : F.fn 25) (hro : F.round = none) (g N : Nat) (w : World) :
    CallsIn F n Try.prog 25 #[.pointer (some ⟨g, 0, none⟩), .int .i64 (N : Nat)] w fun e w' => e = .returned (.func (.func 28) #[] #[.pointer (some ⟨w.heap.size + 1, 0, none⟩), .pointer (some ⟨w.heap.size, 0, none⟩)]) ∧ w' = (w.alloc (.cells #[.pointer (some ⟨g, 0, none⟩)] 25)).alloc (.cells #[.int .i64 (N : Nat)] 3) := by
  refine callsIn_of_wp Try.func25 rfl h25 ?_ hro
  simp only [Try.ntmps25, List.size_toArray, List.length_cons, List.length_nil, Nat.reduceAdd, Nat.reduceSub, Array.replicate_succ, Array.replicate_zero, List.push_toArray, List.append_toArray, List.nil_append, List.cons_append]
  gi_wp2
  go_ret
  exact ⟨rfl, rfl⟩
/-- A key that the hand has passed. -/
def swK (k : K) : K := if k.t then { k with t := false, a := 0 } else { k with a := wrap64 (k.a + 1) }
def swT (age : Int) (k : K) : List S := if k.t then [] else if age ≤ wrap64 (k.a + 1) then [k.key] else []
/-- One key passed. -/
def stp (age : Int) (st : List K × List S) (x : Nat) : List K × List S := match st.1[x]? with | none => st | some k => (st.1.set x (swK k), st.2 ++ swT age k)
def passes (age : Int) (ks : List K) (xs : List Nat) : List K × List S := xs.foldl (stp age) (ks, [])
theorem passes_snoc (age : Int) (ks : List K) (xs : List Nat) (x : Nat) : passes age ks (xs ++ [x]) = stp age (passes age ks xs) x := by simp [passes]
theorem stp_length (age : Int) (st : List K × List S) (x : Nat) : (stp age st x).1.length = st.1.length ∧ (stp age st x).2.length ≤ st.2.length + 1 := by
  unfold stp
  split
  · exact ⟨rfl, Nat.le_succ _⟩
  · refine ⟨List.length_set, ?_⟩
    simp only [List.length_append]
    have : ∀ k, (swT age k).length ≤ 1 := fun k => by unfold swT; split <;> (try split) <;> simp
    have := this (by assumption)
    omega
theorem passes_length' (age : Int) : ∀ (xs : List Nat) (st : List K × List S), (xs.foldl (stp age) st).1.length = st.1.length ∧ (xs.foldl (stp age) st).2.length ≤ st.2.length + xs.length
  | [], st => ⟨rfl, Nat.le_refl _⟩
  | x :: xs, st => by
    have h := passes_length' age xs (stp age st x)
    have k := stp_length age st x
    rw [List.foldl_cons, List.length_cons]
    exact ⟨h.1.trans k.1, by omega⟩
theorem passes_length (age : Int) (ks : List K) (xs : List Nat) : (passes age ks xs).1.length = ks.length ∧ (passes age ks xs).2.length ≤ xs.length := by
  have h := passes_length' age xs (ks, [])
  exact ⟨h.1, Nat.le_trans h.2 (by simp)⟩
/-- Behind so many keys, one behind the other. -/
theorem passes_range (age : Int) (ks : List K) (k : Nat) (hk : k ≤ ks.length) : passes age ks (List.range k) = ((ks.take k).map swK ++ ks.drop k, (ks.take k).flatMap (swT age)) := by
  induction k with
  | zero => simp [passes]
  | succ k ih =>
    have hx := List.getElem?_eq_getElem (show k < ks.length by omega)
    generalize ks[k] = x at hx
    rw [List.range_succ, passes_snoc, ih (by omega), take_succ' ks k x hx]
    have hd : ks.drop k = x :: ks.drop (k + 1) := by
      rw [← List.getElem_cons_drop (show k < ks.length by omega)]
      congr 1
      exact (List.getElem?_eq_some_iff.1 hx).2
    have hl : ((ks.take k).map swK).length = k := by rw [List.length_map, List.length_take, Nat.min_eq_left (by omega)]
    have hg : ((ks.take k).map swK ++ ks.drop k)[k]? = some x := by
      rw [List.getElem?_append_right (by omega), hl, Nat.sub_self, hd]
      rfl
    unfold stp
    simp only [hg]
    rw [List.set_append_right _ _ (by omega), hl, Nat.sub_self, hd, List.set_cons_zero]
    simp
theorem fins_val (N : Nat) : (fins N).map Fin.val = List.range N := by
  apply List.ext_getElem?
  intro i
  rw [List.getElem?_map]
  by_cases h : i < N
  · rw [fins_get h, List.getElem?_range h]
    rfl
  · rw [List.getElem?_eq_none (by rw [fins_length]; omega), List.getElem?_eq_none (by rw [List.length_range]; omega)]
    rfl

end Go.Proofs.Ytehbonhdhblpgaa

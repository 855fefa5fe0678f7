/- Parts of the proofs of layer 25 (clock): contracts of its functions, and the laws' walks. -/
import Derived.Test.YtehbonhdhblpgaaProg
import Derived.RangeFuncNested
import Derived.RangeFuncBound
import Derived.RangeFuncCalls
import Derived.RangeFuncLeaves
import Derived.RangeFuncWrites
import Derived.RangeFuncBox
import Derived.Shelf.Abstract
import Derived.Shelf.RegionOpen
import Derived.WalkKit
import Derived.OwnWalkIn
import Derived.TacticsInMore
import Derived.LoopNIn
import Derived.LoopIn
import Derived.WalkSpells
import Derived.WalkLawsBesides
import Derived.BigQuiet
import Derived.Deep.QuietTactic
import Derived.Lib.Hide
import Derived.Deep.RegionHeld3
import Derived.Deep.DeepCutAuto
import Derived.KernelRfl
import Derived.Deep.OwnRows
import Derived.Laws.CopyOwn
import Derived.Laws.CopyRow
import Derived.StillTailTactics
import Derived.Deep.RegionLaw
import Derived.Test.YtehbonhdhblpgaaC8
namespace Go.Proofs.Ytehbonhdhblpgaa
open Go.RowKit
set_option linter.unusedVariables false
set_option linter.unusedSimpArgs false

open Go.Shelf
attribute [local go_sem] Oper.semAt_some
/-- How many keys the hand passes. -/
def cnt (ks : List K) (n : Int) : Nat := if n < 1 then 0 else (min n (ks.length : Int)).toNat
theorem cnt_le (ks : List K) (n : Int) : cnt ks n ≤ ks.length := by unfold cnt; split <;> omega
/-- Behind a sweep: the keys, the spots told. -/
def sweepK (ks : List K) (n : Int) : List K := ks.drop (cnt ks n) ++ (ks.take (cnt ks n)).map swK
def sweepT (ks : List K) (n age : Int) : List S := (ks.take (cnt ks n)).flatMap (swT age)
/-- Between two rounds: the clock's struct, the boxes, the keys, the spots told. -/
def SwI (w : World) (g : Nat) (ao : Option Addr) (cap : Nat) (ks : List K) (age : Int) (xs : List Nat) (W : World) : Prop :=
  ∃ o, W.heap[g]? = some (.cells #[.slice ao ks.length cap] 57 (0, 0)) ∧ W.heap[w.heap.size]? = some (.cells #[.int .i64 age] 3 (0, 0)) ∧ W.heap[w.heap.size + 1]? = some (.cells #[o] 32 (0, 0)) ∧
    Sq W 59 4 (.slice ao ks.length cap) ks.length (kc (passes age ks xs).1) ∧ Sq W 24 2 o (passes age ks xs).2.length (sc (passes age ks xs).2) ∧ (∀ x, x ∈ vblk o → w.heap.size + 4 ≤ x) ∧ Chg (vblk (.slice ao ks.length cap)) [] w W ∧ w.heap.size + 4 ≤ W.heap.size
theorem Chg.setF {F : List Nat} {w W : World} (h : Chg F [] w W) {b : Nat} (hb : b ∈ F) (j : Nat) (u : Value) : Chg F [] w (W.setCell ⟨b, j, none⟩ u) :=
  ⟨h.1, h.2.1, h.2.2.1, by simpa using h.size, fun c hc hf => (Below.heap_setCell _ _ _ _ (fun e => hf (by cases e; exact hb))).trans (h.block hc hf), fun c hc => by simp at hc⟩
theorem Sq.cells_at {w : World} {e : TypeId} {sz : Nat} {v : Value} {n : Nat} {xs : List Value} (h : Sq w e sz v n xs) {b : Nat} (hb : b ∈ vblk v) : ∃ o : Obj, w.heap[b]? = some o ∧ o.isCells = true := by
  rcases h.2 with ⟨rfl, _⟩ | ⟨g, cap, cur, rfl, _, hg, _⟩
  · simp [vblk_nil] at hb
  · rw [vblk_some] at hb
    simp only [List.mem_singleton] at hb
    subst hb
    exact ⟨_, hg, rfl⟩
theorem Chg.keeps {F F' : List Nat} {w w' : World} (h : Chg F F' w w') (hf : ∀ b, b ∈ F → ∃ o : Obj, w.heap[b]? = some o ∧ o.isCells = true) : KeepsOthers w w' :=
  ⟨h.size, fun k o hk hc => (h.block (lt_of_block hk) (fun hm => by
    obtain ⟨o', ho, hc'⟩ := hf k hm
    rw [hk] at ho
    cases ho
    rw [hc] at hc'
    cases hc')).trans hk⟩
theorem Sq.kept {w w' : World} {e : TypeId} {sz : Nat} {v : Value} {n : Nat} {xs : List Value} {row : Option Nat} (h : Sq w e sz v n xs) (hg : w.grownBy w' row) (hr : ∀ r, row = some r → ∃ o : Obj, w.heap[r]? = some o ∧ o.isCells = false) : Sq w' e sz v n xs := by
  refine World.ownsRow.kept h hg ?_
  rcases h.2 with ⟨rfl, _⟩ | ⟨b, cap, cur, rfl, _, hb, _⟩
  · exact .inl rfl
  · right
    intro e
    obtain ⟨o, ho, hc⟩ := hr b (by rw [← e]; rfl)
    rw [hb] at ho
    cases ho
    cases hc
theorem SwI.own {w : World} {g : Nat} {ao : Option Addr} {cap : Nat} {ks : List K} {age : Int} {N B : Nat} (hB : w.heap.size ≤ B) : OwnFrom B (fun (xs : List (Fin N)) W => SwI w g ao cap ks age (xs.map Fin.val) W) := by
  rintro xs W W' row ⟨o, h0, h1, h2, h3, h4, h5, h6, h7⟩ hg hr
  have hr2 := fun r e => (hr r e).2
  refine ⟨o, (grownBy_keeps_cells hg hr2 h0 rfl).trans h0, (grownBy_keeps_cells hg hr2 h1 rfl).trans h1, (grownBy_keeps_cells hg hr2 h2 rfl).trans h2, h3.kept hg hr2, h4.kept hg hr2, h5, ?_, Nat.le_trans h7 hg.size⟩
  refine ⟨hg.os.trans h6.1, hg.tape.trans h6.2.1, hg.output.trans h6.2.2.1, Nat.le_trans h6.size hg.size, fun b hb hf => ?_, fun b hb => by simp at hb⟩
  exact (hg.block b (Nat.lt_of_lt_of_le hb h6.size) (fun e => by have := (hr b e.symm).1; omega)).trans (h6.block hb hf)
theorem sizes4 (w : World) (a b c d : Obj) : ((((w.alloc a).alloc b).alloc c).alloc d).heap[w.heap.size]? = some a ∧ ((((w.alloc a).alloc b).alloc c).alloc d).heap[w.heap.size + 1]? = some b ∧ ((((w.alloc a).alloc b).alloc c).alloc d).heap[w.heap.size + 2]? = some c ∧
    ((((w.alloc a).alloc b).alloc c).alloc d).heap[w.heap.size + 3]? = some d ∧ ((((w.alloc a).alloc b).alloc c).alloc d).heap.size = w.heap.size + 4 := by
  have h0 := heap_alloc_new w a
  have h1 := heap_alloc_new (w.alloc a) b
  have h2 := heap_alloc_new ((w.alloc a).alloc b) c
  have h3 := heap_alloc_new (((w.alloc a).alloc b).alloc c) d
  have e0 : (w.alloc a).heap.size = w.heap.size + 1 := World.size_alloc _ _
  have e1 : ((w.alloc a).alloc b).heap.size = w.heap.size + 2 := by rw [World.size_alloc, e0]
  have e2 : (((w.alloc a).alloc b).alloc c).heap.size = w.heap.size + 3 := by rw [World.size_alloc, e1]
  rw [e0] at h1
  rw [e1] at h2
  rw [e2] at h3
  have k1 := fun (o : Obj) (x : World) (k : Nat) (hk : k < x.heap.size) => (Below.refl x.heap.size x).alloc (Nat.le_refl _) o |>.block k hk
  refine ⟨?_, ?_, ?_, h3, by rw [World.size_alloc, e2]⟩
  · rw [k1 d _ _ (by omega), k1 c _ _ (by omega), k1 b _ _ (by omega)]; exact h0
  · rw [k1 d _ _ (by omega), k1 c _ _ (by omega)]; exact h1
  · rw [k1 d _ _ (by omega)]; exact h2
set_option maxRecDepth 100000 in
set_option maxHeartbeats 4000000 in
theorem sweep_any (g : Nat) (F : List Nat) (ks : List K) (n age : Int) (w : World) (h : Clk w g F ks) (hm : ks.length ≤ 1000) :
    Calls Try.prog 14 #[.pointer (some ⟨g, 0, none⟩), .int .i64 n, .int .i64 age] w fun e w' => ∃ v F', e = .returned v ∧ Told w' v (sweepT ks n age) ∧ Clk w' g F' (sweepK ks n) ∧ Chg F (F' ++ vblk v) w w' ∧ Sep (vblk v) F' := by
  by_cases h1 : n < 1
  · go_enter Try.func14, Try.ntmps14
    have hb0 : Below w.heap.size w (w.alloc (.cells #[.int .i64 age] 3)) := (Below.refl _ w).alloc (Nat.le_refl _) _
    have HK := Lib.hid (h.below hb0)
    go_wp2_with fail
    refine bodyPost_ret (results_tmp rfl _ _ _) rfl ⟨.slice none 0 0, F, rfl, ?_, ?_, ?_, ?_⟩
    · have : sweepT ks n age = [] := by unfold sweepT cnt; rw [if_pos h1]; rfl
      rw [this]
      exact Sq.nil _ _ _
    · have : sweepK ks n = ks := by unfold sweepK cnt; rw [if_pos h1]; simp
      rw [this]
      exact HK.out
    · rw [vblk_nil, List.append_nil]
      exact Chg.of_below hb0
    · intro b hb
      simp [vblk_nil] at hb
  · refine (callsIn_wide (n := 6)).1 ?_
    refine callsIn_of_wp_marks Try.func14 rfl trivial ?_ rfl
    simp only [Try.ntmps14, List.size_toArray, List.length_cons, List.length_nil, Nat.reduceAdd, Nat.reduceSub, Array.replicate_succ, Array.replicate_zero, List.push_toArray, List.append_toArray, List.nil_append, List.cons_append]
    have hgl := h.lt g (by obtain ⟨v, rfl, _⟩ := h; simp)
    have hb0 : Below w.heap.size w (w.alloc (.cells #[.int .i64 age] 3)) := (Below.refl _ w).alloc (Nat.le_refl _) _
    have hb1 : Below w.heap.size w ((w.alloc (.cells #[.int .i64 age] 3)).alloc (.cells #[.slice none 0 0] 32)) := hb0.alloc (by simp) _
    obtain ⟨v, rfl, h2, h3, h4⟩ := h
    have c0 := cell_of_one ((hb0.block g hgl).trans h3)
    obtain ⟨ao, cap, rfl, hnc, hcm⟩ := h4.slice
    by_cases hlt : (ks.length : Int) < n
    · have hcN : cnt ks n = ks.length := by unfold cnt; rw [if_neg h1]; omega
      have hNl : ks.length ≤ ks.length := Nat.le_refl _
      have hN2 : cnt ks n = ks.length := hcN
      have HN := Lib.hid hN2
      clear hN2 hcN
      gi_wp2_with (fail)
      refine ⟨trivial, ?_⟩
      refine (passed_in Fence.wide 5 trivial rfl g ks.length _).mono ?_
      rintro e w' ⟨rfl, rfl⟩
      have hb3 := (hb1.alloc (by simp; omega) (.cells #[.pointer (some ⟨g, 0, none⟩)] 25)).alloc (by simp; omega) (.cells #[.int .i64 (ks.length : Nat)] 3)
      have hL := sizes4 w (.cells #[.int .i64 age] 3) (.cells #[.slice none 0 0] 32) (.cells #[.pointer (some ⟨g, 0, none⟩)] 25) (.cells #[.int .i64 (ks.length : Nat)] 3)
      simp only [World.size_alloc, Nat.add_assoc, Nat.reduceAdd]
      generalize (((w.alloc (.cells #[.int .i64 age] 3)).alloc (.cells #[.slice none 0 0] 32)).alloc (.cells #[.pointer (some ⟨g, 0, none⟩)] 25)).alloc (.cells #[.int .i64 (ks.length : Nat)] 3) = wL at hb3 hL ⊢
      obtain ⟨hL0, hL1, hL2, hL3, hLs⟩ := hL
      have hg3 := (hb3.block g hgl).trans h3
      obtain ⟨bk, hao⟩ : ∃ bk, 0 < ks.length → ao = some ⟨bk, 0, none⟩ := by
        rcases h4.cases with ⟨hv, _⟩ | ⟨b, cap', hv, _⟩
        · simp only [Value.slice.injEq] at hv
          exact ⟨0, fun h0 => by omega⟩
        · cases hv
          exact ⟨b, fun _ => rfl⟩
      have hI0 : SwI w g ao cap ks age (([] : List (Fin ks.length)).map Fin.val) wL := ⟨.slice none 0 0, hg3, hL0, hL1, h4.below hb3, Sq.nil _ _ _, fun x hx => by simp [vblk_nil] at hx, (Chg.of_below hb3).sub (fun b hb => by simp at hb), by omega⟩
      gi_wp2
      refine wpIn_rangeFunc_ownG (α := Fin ks.length) rfl (by omega) (gf := 28) (lb := #[.pointer (some ⟨w.heap.size + 3, 0, none⟩), .pointer (some ⟨w.heap.size + 2, 0, none⟩)]) rfl trivial (enters_of Try.func28 (by kernel_rfl) rfl)
        (passed_stops Fence.wide 5 trivial rfl (by omega) (w.heap.size + 3) (w.heap.size + 2) g (bk) ks.length ks.length cap ao hNl hm hao wL (cell_of_one hL3) (cell_of_one hL2) (cell_of_one hg3)) (fun h k => h.trans k) (kp3_b (by omega) (by omega) (by omega)) (Below.refl _ _) (fun _ => rfl)
        (fun xs W => SwI w g ao cap ks age (xs.map Fin.val) W) (fun _ _ _ => False) (SwI.own (by omega)) (fun _ _ _ _ _ hs _ _ => hs) hI0 (fun x : Fin ks.length => { tmps := #[.pointer (some ⟨g, 0, none⟩), .int .i64 (ks.length : Nat), .int .i64 age, undef, undef, .pointer (some ⟨w.heap.size, 0, none⟩), .slice none 0 0, .pointer (some ⟨w.heap.size + 1, 0, none⟩), .pointer (some ⟨bk, x.1 * 4, none⟩), .pointer (some ⟨g, 0, none⟩), .bool false, .bool false, .int .i64 n, .bool false, .bool false, .int .i64 n, .pointer (some ⟨g, 0, none⟩), .pointer (some ⟨g, 0, none⟩), .pointer (some ⟨g, 0, none⟩), .slice ao ks.length cap, .int .i64 (ks.length : Nat), .int .i64 (ks.length : Nat), .pointer (some ⟨g, 0, none⟩), .int .i64 (ks.length : Nat), .func (.func 28) #[] #[.pointer (some ⟨w.heap.size + 3, 0, none⟩), .pointer (some ⟨w.heap.size + 2, 0, none⟩)], .pointer (some ⟨bk, x.1 * 4, none⟩), undef, undef, undef, undef, undef, undef, undef, undef, undef, undef, undef, undef, undef, undef, undef, undef, undef, undef, undef, undef, undef, undef, undef, undef, undef, undef, undef, undef, undef, undef, undef, undef, undef, undef, undef, undef, undef, undef, undef, undef], defers := [] }) ?assign ?body ?done ?stop
      case assign =>
        intro l x W K hK
        gi_wp2
        exact hK
      case stop =>
        rintro D c pre W _ _ h _
        exact h.elim
      case body =>
        rintro l pre x W ⟨o, q0, q1, q2, q3, q4, q5, q6, q7⟩ hpl
        have hpn : 0 < ks.length := by omega
        have hab := hao hpn
        subst hab
        have hbg : bk ≠ g := fun e => h2 (by rw [vblk_some, e]; simp)
        have hbS : bk < w.heap.size := h4.lt bk (by rw [vblk_some]; simp)
        clear hao hI0 hL0 hL1 hL2 hL3 hg3 hb3 hb0 hb1 c0 h2 h3 h4
        obtain ⟨L, T, hLT⟩ : ∃ L T, passes age ks (pre.map Fin.val) = (L, T) := ⟨_, _, rfl⟩
        have hll := (passes_length age ks (pre.map Fin.val))
        rw [hLT] at q3 q4 hll
        rw [List.length_map] at hll
        obtain ⟨hl1, hl2⟩ := hll
        dsimp only at q3 q4 hl1 hl2
        have hkx := List.getElem?_eq_getElem (show x.1 < L.length by omega)
        generalize L[x.1] = k at hkx
        obtain ⟨g0, g1, g2, g3⟩ := kc_get L x.1 k hkx
        have hSt : RowKit.Hid (∀ L' T', (L.set x.1 (swK k), T ++ swT age k) = (L', T') → passes age ks ((pre ++ [x]).map Fin.val) = (L', T')) := Lib.hid fun L' T' h => by
          rw [List.map_append, List.map_singleton, passes_snoc, hLT, ← h]
          unfold stp
          simp only [hkx]
        rcases q3.cases with ⟨hv, _⟩ | ⟨b, cap', hv, _, _, hbl, hcell, hfz⟩
        · cases hv
        cases hv
        have e0 := hcell _ _ g0
        have e1 := hcell _ _ g1
        have e2 := hcell _ _ g2
        have e3 := hcell _ _ g3
        have f2 := hfz (x.1 * 4 + 2)
        have f3 := hfz (x.1 * 4 + 3)
        have c1 := cell_of_one q1
        have c2 := cell_of_one q2
        have z2 := frozen_of_one q2
        by_cases ht : k.t = true
        · rw [ht] at e2
          gi_wp2
          have hkp : swK k = { k with t := false, a := 0 } := if_pos ht
          have htp : swT age k = [] := if_pos ht
          refine ⟨((KeepsOthers.setCell _ _ _).trans (KeepsOthers.setCell _ _ _)).from _, ?_, o, ?_, ?_, ?_, ?_, ?_, q5, q6.setF (by simp [vblk_some]) _ _ |>.setF (by simp [vblk_some]) _ _, by simpa using q7⟩
          · exact ⟨by rw [Below.heap_setCell _ _ _ _ (Ne.symm hbg), Below.heap_setCell _ _ _ _ (Ne.symm hbg)], by rw [Below.heap_setCell _ _ _ _ (Nat.ne_of_gt (show bk < _ by omega)), Below.heap_setCell _ _ _ _ (Nat.ne_of_gt (show bk < _ by omega))], by rw [Below.heap_setCell _ _ _ _ (Nat.ne_of_gt (show bk < _ by omega)), Below.heap_setCell _ _ _ _ (Nat.ne_of_gt (show bk < _ by omega))]⟩
          · rw [Below.heap_setCell _ _ _ _ (Ne.symm hbg), Below.heap_setCell _ _ _ _ (Ne.symm hbg)]; exact q0
          · rw [Below.heap_setCell _ _ _ _ (Nat.ne_of_gt (show bk < _ by omega)), Below.heap_setCell _ _ _ _ (Nat.ne_of_gt (show bk < _ by omega))]; exact q1
          · rw [Below.heap_setCell _ _ _ _ (Nat.ne_of_gt (show bk < _ by omega)), Below.heap_setCell _ _ _ _ (Nat.ne_of_gt (show bk < _ by omega))]; exact q2
          · rw [hSt.out _ _ rfl]
            have s1 := q3.stored (x.1 * 4 + 2) (.bool false)
            have s2 := s1.stored (x.1 * 4 + 3) (.int .i64 0)
            have k1 := flat_set K.cs 4 K.cs_length 2 (.bool false) (by decide) k { k with t := false } rfl L x.1 hkx
            have k2 := flat_set K.cs 4 K.cs_length 3 (.int .i64 0) (by decide) { k with t := false } { k with t := false, a := 0 } rfl (L.set x.1 { k with t := false }) x.1 (by rw [List.getElem?_set_self (by omega)])
            rw [List.set_set] at k2
            rw [show (kc L).set (x.1 * 4 + 2) (.bool false) = kc (L.set x.1 { k with t := false }) from k1, show (kc (L.set x.1 { k with t := false })).set (x.1 * 4 + 3) (.int .i64 0) = kc (L.set x.1 { k with t := false, a := 0 }) from k2] at s2
            rw [hkp]
            exact s2
          · rw [hSt.out _ _ rfl, htp, List.append_nil]
            exact q4.of_blocks fun b hb => by rw [Below.heap_setCell _ _ _ _ (Nat.ne_of_gt (show bk < _ by have := q5 b hb; omega)), Below.heap_setCell _ _ _ _ (Nat.ne_of_gt (show bk < _ by have := q5 b hb; omega))]
        · have ht : k.t = false := by simpa using ht
          rw [ht] at e2
          gi_wp2
          have d3 : (W.setCell ⟨bk, x.1 * 4 + 3, none⟩ (.int .i64 (wrap64 (k.a + 1)))).cell? ⟨bk, x.1 * 4 + 3, none⟩ = some (.int .i64 (wrap64 (k.a + 1))) := World.cell?_setCell_same' _ _ _ (by rw [e3]; rfl)
          have d0 : (W.setCell ⟨bk, x.1 * 4 + 3, none⟩ (.int .i64 (wrap64 (k.a + 1)))).cell? ⟨bk, x.1 * 4, none⟩ = some (.int .i64 k.s) := (World.cell?_setCell_other _ _ _ _ (by simp)).trans e0
          have d1 : (W.setCell ⟨bk, x.1 * 4 + 3, none⟩ (.int .i64 (wrap64 (k.a + 1)))).cell? ⟨bk, x.1 * 4 + 1, none⟩ = some (.int .i64 k.p) := (World.cell?_setCell_other _ _ _ _ (by simp)).trans e1
          by_cases hold : age ≤ wrap64 (k.a + 1)
          · gi_region
            all_goals gi_wp2
            all_goals
              skip
              obtain ⟨W2, hW2⟩ : ∃ W2, W.setCell ⟨bk, x.1 * 4 + 3, none⟩ (.int .i64 (wrap64 (k.a + 1))) = W2 := ⟨_, rfl⟩
              have hkp : swK k = { k with a := wrap64 (k.a + 1) } := if_neg (by rw [ht]; exact Bool.false_ne_true)
              have htp : swT age k = [k.key] := (if_neg (by rw [ht]; exact Bool.false_ne_true)).trans (if_pos hold)
              have s1 := q3.stored (x.1 * 4 + 3) (.int .i64 (wrap64 (k.a + 1)))
              rw [show (kc L).set (x.1 * 4 + 3) (.int .i64 (wrap64 (k.a + 1))) = kc (L.set x.1 { k with a := wrap64 (k.a + 1) }) from flat_set K.cs 4 K.cs_length 3 (.int .i64 (wrap64 (k.a + 1))) (by decide) k { k with a := wrap64 (k.a + 1) } rfl L x.1 hkx, ← hkp] at s1
              have t1 : Chg (bk :: (w.heap.size + 1) :: vblk o) (bk :: (w.heap.size + 1) :: vblk o) W (W.setCell ⟨bk, x.1 * 4 + 3, none⟩ (.int .i64 (wrap64 (k.a + 1)))) := (Chg.refl _ W).setCell _ _ _ (List.mem_cons_self ..)
              have q2' : (W.setCell ⟨bk, x.1 * 4 + 3, none⟩ (.int .i64 (wrap64 (k.a + 1)))).heap[w.heap.size + 1]? = some (.cells #[o] 32 (0, 0)) := (Below.heap_setCell _ _ _ _ (Nat.ne_of_gt (show bk < _ by omega))).trans q2
              have q4' : Sq (W.setCell ⟨bk, x.1 * 4 + 3, none⟩ (.int .i64 (wrap64 (k.a + 1)))) 24 2 o T.length (sc T) := q4.of_blocks fun b hb => Below.heap_setCell _ _ _ _ (Nat.ne_of_gt (show bk < _ by have := q5 b hb; omega))
              have hz2 : w.heap.size + 4 ≤ (W.setCell ⟨bk, x.1 * 4 + 3, none⟩ (.int .i64 (wrap64 (k.a + 1)))).heap.size := by simpa using q7
              rw [hW2] at d0 d1 s1 t1 q2' q4' hz2 ⊢
              obtain ⟨ao2, cap2, rfl, _, _⟩ := q4'.slice
              have hA : Below W2.heap.size W2 (W2.alloc (.cells #[.int .i64 k.s, .int .i64 k.p] 24)) := (Below.refl _ W2).alloc (Nat.le_refl _) _
              have hown0 := q4'.below hA
              have hnew := news_alloc W2 #[.int .i64 k.s, .int .i64 k.p] 24
              have hqB := (hA.block (w.heap.size + 1) (lt_of_block q2')).trans q2'
              have hqA := lt_of_block hqB
              have cA := cell_of_one hqB
              have c2' := cell_of_one q2'
              have hqo : w.heap.size + 1 ∉ vblk (.slice ao2 T.length cap2) := fun h => by have := q5 _ h; omega
              have HFIN : RowKit.Hid (∀ v' w3, Sq w3 24 2 v' (T.length + 1) (sc T ++ sc [k.key]) → Chg (vblk (.slice ao2 T.length cap2)) (vblk v') (W2.alloc (.cells #[.int .i64 k.s, .int .i64 k.p] 24)) w3 → KeepsFrom wL.heap.size W (w3.setCell ⟨w.heap.size + 1, 0, none⟩ v') ∧ Kp3 g (w.heap.size + 3) (w.heap.size + 2) W (w3.setCell ⟨w.heap.size + 1, 0, none⟩ v') ∧ SwI w g (some ⟨bk, 0, none⟩) cap ks age ((pre ++ [x]).map Fin.val) (w3.setCell ⟨w.heap.size + 1, 0, none⟩ v')) := Lib.hid (fun v' w3 hown hgr => by
                have t2 : Chg (bk :: (w.heap.size + 1) :: vblk (.slice ao2 T.length cap2)) (bk :: (w.heap.size + 1) :: vblk v') W (w3.setCell ⟨w.heap.size + 1, 0, none⟩ v') := ((t1.trans (Chg.of_below hA)).trans ((hgr.cons _).cons _)).setCell _ _ _ (by simp)
                have out : ∀ c, c < w.heap.size + 4 → c ≠ bk → c ≠ w.heap.size + 1 → (w3.setCell ⟨w.heap.size + 1, 0, none⟩ v').heap[c]? = W.heap[c]? := fun c hc h1 h2 => t2.block (by omega) (by
                  intro hm
                  rcases List.mem_cons.1 hm with h | hm
                  · exact h1 h
                  rcases List.mem_cons.1 hm with h | hm
                  · exact h2 h
                  · have := q5 c hm; omega)
                have hgo := (hgr.block hqA hqo).trans hqB
                have hv' : ∀ c, c ∈ vblk v' → w.heap.size + 4 ≤ c := fun c hc => by
                  rcases hgr.2.2.2.2.2 c hc with h | h
                  · exact q5 c h
                  · rw [World.size_alloc] at h; omega
                refine ⟨(t2.keeps ?_).from _, ⟨out g (by omega) (Ne.symm hbg) (by omega), out _ (by omega) (by omega) (by omega), out _ (by omega) (by omega) (by omega)⟩, v', ?_, ?_, heap_setCell_one hgo _, ?_, ?_, hv', ?_, ?_⟩
                · intro c hc
                  rcases List.mem_cons.1 hc with rfl | hc
                  · exact q3.cells_at (by simp [vblk_some])
                  rcases List.mem_cons.1 hc with rfl | hc
                  · exact ⟨_, q2, rfl⟩
                  · exact q4.cells_at hc
                · rw [out g (by omega) (Ne.symm hbg) (by omega)]; exact q0
                · rw [out _ (by omega) (by omega) (by omega)]; exact q1
                · rw [hSt.out _ _ rfl]
                  refine ((s1.below hA).chg hgr ?_).of_blocks ?_
                  · intro c hc hm
                    rw [vblk_some] at hc
                    simp only [List.mem_singleton] at hc
                    have := q5 c hm
                    omega
                  · intro c hc
                    rw [vblk_some] at hc
                    simp only [List.mem_singleton] at hc
                    exact Below.heap_setCell _ _ _ _ (Nat.ne_of_lt (show c < w.heap.size + 1 by omega))
                · rw [hSt.out _ _ rfl, htp, List.length_append, sc_append]
                  exact hown.of_blocks fun c hc => Below.heap_setCell _ _ _ _ (Nat.ne_of_gt (show w.heap.size + 1 < c by have := hv' c hc; omega))
                · refine ⟨t2.1.trans q6.1, t2.2.1.trans q6.2.1, t2.2.2.1.trans q6.2.2.1, Nat.le_trans q6.size t2.size, fun c hc hf => ?_, fun c hc => by simp at hc⟩
                  exact (out c (by omega) (fun e => hf (by rw [vblk_some, e]; simp)) (by omega)).trans (q6.block hc hf)
                · have := t2.size; omega)
              clear t1 s1 q0 q1 q3 q4 q6 hcell hfz e0 e1 e2 e3 f2 f3 c1 c2 z2 hW2 hSt q2' q4' d3 hA hLs hkp htp hold q2
              obtain ⟨i0, hi0, hz0, hz1, hz2⟩ := info_parts (show (Try.prog.info? 24).map (fun i => (i.zero, i.size, i.bytes)) = some (some (.agg #[.int .i64 0, .int .i64 0]), 2, 16) by kernel_rfl)
              refine wpIn_region_any (by kernel_rfl) ?_
              change wpAnyIn _ _ _ _ _ _ _ _ _ (World.drew _)
              refine wpAnyIn_ready (rs := [0, 1]) (by kernel_rfl) (by simp) ?_
              refine AllReadyIn.cons rfl (fun K hK => ?_) (AllReadyIn.cons rfl (fun K hK => ?_) AllReadyIn.nil)
              · go_simp
                refine hK _ _ ?_
                clear hK K
                refine wpAnyIn_ready (rs := [1]) (by kernel_rfl) (by simp) ?_
                refine AllReadyIn.cons rfl (fun K hK => ?_) AllReadyIn.nil
                go_simp
                refine hK _ _ ?_
                clear hK K
                refine wpAnyIn_ready (rs := [2]) (by kernel_rfl) (by simp) ?_
                refine AllReadyIn.cons rfl (fun K hK => ?_) AllReadyIn.nil
                go_simp
                refine hK _ _ ?_
                clear hK K
                refine wpAnyIn_ready (rs := [3]) (by kernel_rfl) (by simp) ?_
                refine AllReadyIn.cons rfl (fun K hK => ?_) AllReadyIn.nil
                go_simp
                refine hK _ _ ?_
                clear hK K
                refine wpAnyIn_ready (rs := [4]) (by kernel_rfl) (by simp) ?_
                refine AllReadyIn.cons rfl (fun K hK => ?_) AllReadyIn.nil
                go_simp
                refine hK _ _ ?_
                clear hK K
                refine wpAnyIn_ready (rs := [5]) (by kernel_rfl) (by simp) ?_
                refine AllReadyIn.cons rfl (fun K hK => ?_) AllReadyIn.nil
                go_simp
                refine hK _ _ ?_
                clear hK K
                refine wpAnyIn_ready (rs := [6]) (by kernel_rfl) (by simp) ?_
                refine AllReadyIn.cons rfl (fun K hK => ?_) AllReadyIn.nil
                refine step_append_any_in _ rfl (.tmp 49) (.tmp 54) 32 rfl 24 i0 (.agg #[.int .i64 0, .int .i64 0]) 2 16 Try.underlying32 hi0 hz0 hz1 hz2 rfl (by decide) (.slice ao2 T.length cap2) T.length (sc T) rfl hown0 (some ⟨W2.heap.size, 0, none⟩) 1 1 (sc [k.key]) rfl (fun h => by cases h) rfl (fun a ha => by cases ha; rw [sc_one]; exact hnew) (sc_onecell _) (by unfold maxLen; omega) (by omega) ?_
                intro v' w3 hown hgr
                obtain ⟨ao3, cap3, rfl, _, _⟩ := hown.slice
                have hgo := (hgr.block hqA hqo).trans hqB
                have c3 := cell_of_one hgo
                have f3 := frozen_of_one hgo
                refine hK _ _ ?_
                clear hK K
                refine wpAnyIn_ready (rs := [7]) (by kernel_rfl) (by simp) ?_
                refine AllReadyIn.cons rfl (fun K hK => ?_) AllReadyIn.nil
                go_simp
                refine hK _ _ ?_
                clear hK K
                refine wpAnyIn_done (by kernel_rfl) ?_ _
                gi_wp2
                exact HFIN.out _ _ hown hgr
              · go_simp
                refine hK _ _ ?_
                clear hK K
                refine wpAnyIn_ready (rs := [0, 2]) (by kernel_rfl) (by simp) ?_
                refine AllReadyIn.cons rfl (fun K hK => ?_) (AllReadyIn.cons rfl (fun K hK => ?_) AllReadyIn.nil)
                · go_simp
                  refine hK _ _ ?_
                  clear hK K
                  refine wpAnyIn_ready (rs := [2]) (by kernel_rfl) (by simp) ?_
                  refine AllReadyIn.cons rfl (fun K hK => ?_) AllReadyIn.nil
                  go_simp
                  refine hK _ _ ?_
                  clear hK K
                  refine wpAnyIn_ready (rs := [3]) (by kernel_rfl) (by simp) ?_
                  refine AllReadyIn.cons rfl (fun K hK => ?_) AllReadyIn.nil
                  go_simp
                  refine hK _ _ ?_
                  clear hK K
                  refine wpAnyIn_ready (rs := [4]) (by kernel_rfl) (by simp) ?_
                  refine AllReadyIn.cons rfl (fun K hK => ?_) AllReadyIn.nil
                  go_simp
                  refine hK _ _ ?_
                  clear hK K
                  refine wpAnyIn_ready (rs := [5]) (by kernel_rfl) (by simp) ?_
                  refine AllReadyIn.cons rfl (fun K hK => ?_) AllReadyIn.nil
                  go_simp
                  refine hK _ _ ?_
                  clear hK K
                  refine wpAnyIn_ready (rs := [6]) (by kernel_rfl) (by simp) ?_
                  refine AllReadyIn.cons rfl (fun K hK => ?_) AllReadyIn.nil
                  refine step_append_any_in _ rfl (.tmp 49) (.tmp 54) 32 rfl 24 i0 (.agg #[.int .i64 0, .int .i64 0]) 2 16 Try.underlying32 hi0 hz0 hz1 hz2 rfl (by decide) (.slice ao2 T.length cap2) T.length (sc T) rfl hown0 (some ⟨W2.heap.size, 0, none⟩) 1 1 (sc [k.key]) rfl (fun h => by cases h) rfl (fun a ha => by cases ha; rw [sc_one]; exact hnew) (sc_onecell _) (by unfold maxLen; omega) (by omega) ?_
                  intro v' w3 hown hgr
                  obtain ⟨ao3, cap3, rfl, _, _⟩ := hown.slice
                  have hgo := (hgr.block hqA hqo).trans hqB
                  have c3 := cell_of_one hgo
                  have f3 := frozen_of_one hgo
                  refine hK _ _ ?_
                  clear hK K
                  refine wpAnyIn_ready (rs := [7]) (by kernel_rfl) (by simp) ?_
                  refine AllReadyIn.cons rfl (fun K hK => ?_) AllReadyIn.nil
                  go_simp
                  refine hK _ _ ?_
                  clear hK K
                  refine wpAnyIn_done (by kernel_rfl) ?_ _
                  gi_wp2
                  exact HFIN.out _ _ hown hgr
                · go_simp
                  refine hK _ _ ?_
                  clear hK K
                  refine wpAnyIn_ready (rs := [0, 3]) (by kernel_rfl) (by simp) ?_
                  refine AllReadyIn.cons rfl (fun K hK => ?_) (AllReadyIn.cons rfl (fun K hK => ?_) AllReadyIn.nil)
                  · go_simp
                    refine hK _ _ ?_
                    clear hK K
                    refine wpAnyIn_ready (rs := [3]) (by kernel_rfl) (by simp) ?_
                    refine AllReadyIn.cons rfl (fun K hK => ?_) AllReadyIn.nil
                    go_simp
                    refine hK _ _ ?_
                    clear hK K
                    refine wpAnyIn_ready (rs := [4]) (by kernel_rfl) (by simp) ?_
                    refine AllReadyIn.cons rfl (fun K hK => ?_) AllReadyIn.nil
                    go_simp
                    refine hK _ _ ?_
                    clear hK K
                    refine wpAnyIn_ready (rs := [5]) (by kernel_rfl) (by simp) ?_
                    refine AllReadyIn.cons rfl (fun K hK => ?_) AllReadyIn.nil
                    go_simp
                    refine hK _ _ ?_
                    clear hK K
                    refine wpAnyIn_ready (rs := [6]) (by kernel_rfl) (by simp) ?_
                    refine AllReadyIn.cons rfl (fun K hK => ?_) AllReadyIn.nil
                    refine step_append_any_in _ rfl (.tmp 49) (.tmp 54) 32 rfl 24 i0 (.agg #[.int .i64 0, .int .i64 0]) 2 16 Try.underlying32 hi0 hz0 hz1 hz2 rfl (by decide) (.slice ao2 T.length cap2) T.length (sc T) rfl hown0 (some ⟨W2.heap.size, 0, none⟩) 1 1 (sc [k.key]) rfl (fun h => by cases h) rfl (fun a ha => by cases ha; rw [sc_one]; exact hnew) (sc_onecell _) (by unfold maxLen; omega) (by omega) ?_
                    intro v' w3 hown hgr
                    obtain ⟨ao3, cap3, rfl, _, _⟩ := hown.slice
                    have hgo := (hgr.block hqA hqo).trans hqB
                    have c3 := cell_of_one hgo
                    have f3 := frozen_of_one hgo
                    refine hK _ _ ?_
                    clear hK K
                    refine wpAnyIn_ready (rs := [7]) (by kernel_rfl) (by simp) ?_
                    refine AllReadyIn.cons rfl (fun K hK => ?_) AllReadyIn.nil
                    go_simp
                    refine hK _ _ ?_
                    clear hK K
                    refine wpAnyIn_done (by kernel_rfl) ?_ _
                    gi_wp2
                    exact HFIN.out _ _ hown hgr
                  · go_simp
                    refine hK _ _ ?_
                    clear hK K
                    refine wpAnyIn_ready (rs := [0, 4]) (by kernel_rfl) (by simp) ?_
                    refine AllReadyIn.cons rfl (fun K hK => ?_) (AllReadyIn.cons rfl (fun K hK => ?_) AllReadyIn.nil)
                    · go_simp
                      refine hK _ _ ?_
                      clear hK K
                      refine wpAnyIn_ready (rs := [4]) (by kernel_rfl) (by simp) ?_
                      refine AllReadyIn.cons rfl (fun K hK => ?_) AllReadyIn.nil
                      go_simp
                      refine hK _ _ ?_
                      clear hK K
                      refine wpAnyIn_ready (rs := [5]) (by kernel_rfl) (by simp) ?_
                      refine AllReadyIn.cons rfl (fun K hK => ?_) AllReadyIn.nil
                      go_simp
                      refine hK _ _ ?_
                      clear hK K
                      refine wpAnyIn_ready (rs := [6]) (by kernel_rfl) (by simp) ?_
                      refine AllReadyIn.cons rfl (fun K hK => ?_) AllReadyIn.nil
                      refine step_append_any_in _ rfl (.tmp 49) (.tmp 54) 32 rfl 24 i0 (.agg #[.int .i64 0, .int .i64 0]) 2 16 Try.underlying32 hi0 hz0 hz1 hz2 rfl (by decide) (.slice ao2 T.length cap2) T.length (sc T) rfl hown0 (some ⟨W2.heap.size, 0, none⟩) 1 1 (sc [k.key]) rfl (fun h => by cases h) rfl (fun a ha => by cases ha; rw [sc_one]; exact hnew) (sc_onecell _) (by unfold maxLen; omega) (by omega) ?_
                      intro v' w3 hown hgr
                      obtain ⟨ao3, cap3, rfl, _, _⟩ := hown.slice
                      have hgo := (hgr.block hqA hqo).trans hqB
                      have c3 := cell_of_one hgo
                      have f3 := frozen_of_one hgo
                      refine hK _ _ ?_
                      clear hK K
                      refine wpAnyIn_ready (rs := [7]) (by kernel_rfl) (by simp) ?_
                      refine AllReadyIn.cons rfl (fun K hK => ?_) AllReadyIn.nil
                      go_simp
                      refine hK _ _ ?_
                      clear hK K
                      refine wpAnyIn_done (by kernel_rfl) ?_ _
                      gi_wp2
                      exact HFIN.out _ _ hown hgr
                    · go_simp
                      refine hK _ _ ?_
                      clear hK K
                      refine wpAnyIn_ready (rs := [0, 5]) (by kernel_rfl) (by simp) ?_
                      refine AllReadyIn.cons rfl (fun K hK => ?_) (AllReadyIn.cons rfl (fun K hK => ?_) AllReadyIn.nil)
                      · go_simp
                        refine hK _ _ ?_
                        clear hK K
                        refine wpAnyIn_ready (rs := [5]) (by kernel_rfl) (by simp) ?_
                        refine AllReadyIn.cons rfl (fun K hK => ?_) AllReadyIn.nil
                        go_simp
                        refine hK _ _ ?_
                        clear hK K
                        refine wpAnyIn_ready (rs := [6]) (by kernel_rfl) (by simp) ?_
                        refine AllReadyIn.cons rfl (fun K hK => ?_) AllReadyIn.nil
                        refine step_append_any_in _ rfl (.tmp 49) (.tmp 54) 32 rfl 24 i0 (.agg #[.int .i64 0, .int .i64 0]) 2 16 Try.underlying32 hi0 hz0 hz1 hz2 rfl (by decide) (.slice ao2 T.length cap2) T.length (sc T) rfl hown0 (some ⟨W2.heap.size, 0, none⟩) 1 1 (sc [k.key]) rfl (fun h => by cases h) rfl (fun a ha => by cases ha; rw [sc_one]; exact hnew) (sc_onecell _) (by unfold maxLen; omega) (by omega) ?_
                        intro v' w3 hown hgr
                        obtain ⟨ao3, cap3, rfl, _, _⟩ := hown.slice
                        have hgo := (hgr.block hqA hqo).trans hqB
                        have c3 := cell_of_one hgo
                        have f3 := frozen_of_one hgo
                        refine hK _ _ ?_
                        clear hK K
                        refine wpAnyIn_ready (rs := [7]) (by kernel_rfl) (by simp) ?_
                        refine AllReadyIn.cons rfl (fun K hK => ?_) AllReadyIn.nil
                        go_simp
                        refine hK _ _ ?_
                        clear hK K
                        refine wpAnyIn_done (by kernel_rfl) ?_ _
                        gi_wp2
                        exact HFIN.out _ _ hown hgr
                      · go_simp
                        refine hK _ _ ?_
                        clear hK K
                        refine wpAnyIn_ready (rs := [0]) (by kernel_rfl) (by simp) ?_
                        refine AllReadyIn.cons rfl (fun K hK => ?_) AllReadyIn.nil
                        go_simp
                        refine hK _ _ ?_
                        clear hK K
                        refine wpAnyIn_ready (rs := [6]) (by kernel_rfl) (by simp) ?_
                        refine AllReadyIn.cons rfl (fun K hK => ?_) AllReadyIn.nil
                        refine step_append_any_in _ rfl (.tmp 49) (.tmp 54) 32 rfl 24 i0 (.agg #[.int .i64 0, .int .i64 0]) 2 16 Try.underlying32 hi0 hz0 hz1 hz2 rfl (by decide) (.slice ao2 T.length cap2) T.length (sc T) rfl hown0 (some ⟨W2.heap.size, 0, none⟩) 1 1 (sc [k.key]) rfl (fun h => by cases h) rfl (fun a ha => by cases ha; rw [sc_one]; exact hnew) (sc_onecell _) (by unfold maxLen; omega) (by omega) ?_
                        intro v' w3 hown hgr
                        obtain ⟨ao3, cap3, rfl, _, _⟩ := hown.slice
                        have hgo := (hgr.block hqA hqo).trans hqB
                        have c3 := cell_of_one hgo
                        have f3 := frozen_of_one hgo
                        refine hK _ _ ?_
                        clear hK K
                        refine wpAnyIn_ready (rs := [7]) (by kernel_rfl) (by simp) ?_
                        refine AllReadyIn.cons rfl (fun K hK => ?_) AllReadyIn.nil
                        go_simp
                        refine hK _ _ ?_
                        clear hK K
                        refine wpAnyIn_done (by kernel_rfl) ?_ _
                        gi_wp2
                        exact HFIN.out _ _ hown hgr
          · have hkp : swK k = { k with a := wrap64 (k.a + 1) } := if_neg (by rw [ht]; exact Bool.false_ne_true)
            have htp : swT age k = [] := (if_neg (by rw [ht]; exact Bool.false_ne_true)).trans (if_neg hold)
            have HX := Lib.hid (And.intro hkp htp)
            clear hkp htp
            gi_region
            all_goals gi_wp2
            all_goals
              refine ⟨((KeepsOthers.setCell W ⟨bk, x.1 * 4 + 3, none⟩ (.int .i64 (wrap64 (k.a + 1)))).trans (KeepsOthers.drew _)).from _, ?_, o, ?_, ?_, ?_, ?_, ?_, q5, q6.setF (by simp [vblk_some]) _ _, by simpa using q7⟩
              · exact ⟨Below.heap_setCell W _ _ _ (Ne.symm hbg), Below.heap_setCell W _ _ _ (Nat.ne_of_gt (show bk < _ by omega)), Below.heap_setCell W _ _ _ (Nat.ne_of_gt (show bk < _ by omega))⟩
              · exact (Below.heap_setCell W _ _ _ (Ne.symm hbg)).trans q0
              · exact (Below.heap_setCell W _ _ _ (Nat.ne_of_gt (show bk < _ by omega))).trans q1
              · exact (Below.heap_setCell W _ _ _ (Nat.ne_of_gt (show bk < _ by omega))).trans q2
              · rw [hSt.out _ _ rfl, HX.out.1]
                have s1 := q3.stored (x.1 * 4 + 3) (.int .i64 (wrap64 (k.a + 1)))
                rw [show (kc L).set (x.1 * 4 + 3) (.int .i64 (wrap64 (k.a + 1))) = kc (L.set x.1 { k with a := wrap64 (k.a + 1) }) from flat_set K.cs 4 K.cs_length 3 (.int .i64 (wrap64 (k.a + 1))) (by decide) k { k with a := wrap64 (k.a + 1) } rfl L x.1 hkx] at s1
                exact s1
              · rw [hSt.out _ _ rfl, HX.out.2, List.append_nil]
                have s2 : Sq (W.setCell ⟨bk, x.1 * 4 + 3, none⟩ (.int .i64 (wrap64 (k.a + 1)))) 24 2 o T.length (sc T) := q4.of_blocks fun b hb => Below.heap_setCell _ _ _ _ (Nat.ne_of_gt (show bk < b by have := q5 b hb; omega))
                exact s2
      case done =>
        rintro D ys W hD rfl hS hK
        rw [fins_val] at hS
        obtain ⟨o, q0, q1, q2, q3, q4, q5, q6, q7⟩ := hS
        rw [passes_range age ks ks.length hNl] at q3 q4
        dsimp only at q3 q4
        have c0 := cell_of_one q0
        have c2 := cell_of_one q2
        have hlen' : ((ks.take ks.length).map swK ++ ks.drop ks.length).length = ks.length := by rw [List.length_append, List.length_map, List.length_take, List.length_drop]; omega
        have hgS : g ∉ vblk (.slice ao ks.length cap) := h2
        have HHN := HN
        clear hL0 hL1 hL2 hL3 hg3 hb3 hb0 hb1 hI0 hao h2 h3
        gi_wp2
        refine ⟨trivial, callsIn_wide.2 ((turned_any (.slice ao ks.length cap) ((ks.take ks.length).map swK ++ ks.drop ks.length) ks.length W (by rw [hlen']; exact q3) (by omega) (by omega)).mono ?_)⟩
        rintro e W3 ⟨v3, rfl, hv3, hc3⟩
        rw [hlen'] at hv3
        obtain ⟨ao3, cap3, rfl, hnc3, hcm3⟩ := hv3.slice
        have hgW : g < W.heap.size := lt_of_block q0
        have r0 := (hc3.block hgW (by simp)).trans q0
        have r2 := (hc3.block (lt_of_block q2) (by simp)).trans q2
        have rK : W3.heap[D]? = some (.deferred (some [])) := (hc3.block (lt_of_block hK) (by simp)).trans hK
        have rc := cell_of_one r0
        have rf := frozen_of_one r0
        have ro := cell_of_one r2
        gi_wp2
        have hDg : g < D := by omega
        have hDS : w.heap.size + 4 ≤ D := by omega
        have hrK : (W3.setCell ⟨g, 0, none⟩ (.slice ao3 ks.length cap3)).heap[D]? = some (.deferred (some [])) := (Below.heap_setCell _ _ _ _ (Nat.ne_of_gt hDg)).trans rK
        have hgo : ∀ b, b ∈ vblk o → b ≠ g := fun b hb => by have := q5 b hb; omega
        have hg3 : g ∉ vblk (.slice ao3 ks.length cap3) := hc3.out (by simp) hgW
        have hA : ((ks.take ks.length).map swK).length = ks.length := by rw [List.length_map, List.length_take, Nat.min_eq_left hNl]
        have hK2 : sweepK ks n = ks.drop ks.length ++ (ks.take ks.length).map swK := by unfold sweepK; rw [HHN.out]
        have hT2 : sweepT ks n age = (ks.take ks.length).flatMap (swT age) := by unfold sweepT; rw [HHN.out]
        have hl2 : (ks.drop ks.length ++ (ks.take ks.length).map swK).length = ks.length := by rw [List.length_append, hA, List.length_drop]; omega
        have hdr : ((ks.take ks.length).map swK ++ ks.drop ks.length).drop ks.length = ks.drop ks.length := List.drop_left' hA
        have htk : ((ks.take ks.length).map swK ++ ks.drop ks.length).take ks.length = (ks.take ks.length).map swK := List.take_left' hA
        rw [hdr, htk] at hv3
        refine ⟨by simp, .inl ⟨_, _, rfl, run_takeDeferred hrK, ?_⟩⟩
        refine ⟨_, results_tmp rfl _ _ _, o, g :: vblk (.slice ao3 ks.length cap3), rfl, ?_, ?_, ?_, ?_⟩
        · rw [hT2]
          exact ownsRow_putObj (Sq.of_blocks (q4.chg hc3 (fun b _ hm => by simp at hm)) fun b hb => Below.heap_setCell _ _ _ _ (hgo b hb)) _ hrK rfl
        · rw [hK2]
          refine ⟨_, rfl, hg3, (World.putObj_heap_other (Nat.ne_of_lt hDg)).trans (heap_setCell_one r0 _), ?_⟩
          rw [hl2]
          exact ownsRow_putObj (Sq.of_blocks hv3 fun b hb => Below.heap_setCell _ _ _ _ (fun e => hg3 (by cases e; exact hb))) _ hrK rfl
        · refine ⟨hc3.1.trans q6.1, hc3.2.1.trans q6.2.1, hc3.2.2.1.trans q6.2.2.1, ?_, fun b hb hf => ?_, fun b hb => ?_⟩
          · exact Nat.le_trans q6.size (Nat.le_trans hc3.size (Nat.le_trans (by simp) (grownBy_putObj' (W3.setCell ⟨g, 0, none⟩ (.slice ao3 ks.length cap3)) D (.deferred none)).size))
          · have h1 : b ≠ g := fun e => hf (by simp [e])
            have h2 : b ∉ vblk (.slice ao ks.length cap) := fun e => hf (by simp [e])
            exact (World.putObj_heap_other (by omega)).trans ((Below.heap_setCell _ _ _ _ h1).trans ((hc3.block (by have := q6.size; omega) (by simp)).trans (q6.block hb h2)))
          · rcases List.mem_append.1 hb with hb | hb
            · rcases List.mem_cons.1 hb with rfl | hb
              · exact .inl (by simp)
              · right
                rcases hc3.2.2.2.2.2 b hb with h | h
                · simp at h
                · have := q6.size; omega
            · right
              have := q5 b hb
              omega
        · intro b hb hm
          rcases List.mem_cons.1 hm with h | hm
          · exact hgo b hb h
          · rcases hc3.2.2.2.2.2 b hm with h | h
            · simp at h
            · have := q4.lt b hb; omega
    · obtain ⟨N, rfl⟩ := Int.eq_ofNat_of_zero_le (show 0 ≤ n by omega)
      have hcN : cnt ks (N : Int) = N := by unfold cnt; rw [if_neg h1]; omega
      have hNl : N ≤ ks.length := by omega
      have hN2 : cnt ks (N : Nat) = N := hcN
      have HN := Lib.hid hN2
      clear hN2 hcN
      gi_wp2_with (fail)
      refine ⟨trivial, ?_⟩
      refine (passed_in Fence.wide 5 trivial rfl g N _).mono ?_
      rintro e w' ⟨rfl, rfl⟩
      have hb3 := (hb1.alloc (by simp; omega) (.cells #[.pointer (some ⟨g, 0, none⟩)] 25)).alloc (by simp; omega) (.cells #[.int .i64 (N : Nat)] 3)
      have hL := sizes4 w (.cells #[.int .i64 age] 3) (.cells #[.slice none 0 0] 32) (.cells #[.pointer (some ⟨g, 0, none⟩)] 25) (.cells #[.int .i64 (N : Nat)] 3)
      simp only [World.size_alloc, Nat.add_assoc, Nat.reduceAdd]
      generalize (((w.alloc (.cells #[.int .i64 age] 3)).alloc (.cells #[.slice none 0 0] 32)).alloc (.cells #[.pointer (some ⟨g, 0, none⟩)] 25)).alloc (.cells #[.int .i64 (N : Nat)] 3) = wL at hb3 hL ⊢
      obtain ⟨hL0, hL1, hL2, hL3, hLs⟩ := hL
      have hg3 := (hb3.block g hgl).trans h3
      obtain ⟨bk, hao⟩ : ∃ bk, 0 < N → ao = some ⟨bk, 0, none⟩ := by
        rcases h4.cases with ⟨hv, _⟩ | ⟨b, cap', hv, _⟩
        · simp only [Value.slice.injEq] at hv
          exact ⟨0, fun h0 => by omega⟩
        · cases hv
          exact ⟨b, fun _ => rfl⟩
      have hI0 : SwI w g ao cap ks age (([] : List (Fin N)).map Fin.val) wL := ⟨.slice none 0 0, hg3, hL0, hL1, h4.below hb3, Sq.nil _ _ _, fun x hx => by simp [vblk_nil] at hx, (Chg.of_below hb3).sub (fun b hb => by simp at hb), by omega⟩
      gi_wp2
      refine wpIn_rangeFunc_ownG (α := Fin N) rfl (by omega) (gf := 28) (lb := #[.pointer (some ⟨w.heap.size + 3, 0, none⟩), .pointer (some ⟨w.heap.size + 2, 0, none⟩)]) rfl trivial (enters_of Try.func28 (by kernel_rfl) rfl)
        (passed_stops Fence.wide 5 trivial rfl (by omega) (w.heap.size + 3) (w.heap.size + 2) g (bk) N ks.length cap ao hNl hm hao wL (cell_of_one hL3) (cell_of_one hL2) (cell_of_one hg3)) (fun h k => h.trans k) (kp3_b (by omega) (by omega) (by omega)) (Below.refl _ _) (fun _ => rfl)
        (fun xs W => SwI w g ao cap ks age (xs.map Fin.val) W) (fun _ _ _ => False) (SwI.own (by omega)) (fun _ _ _ _ _ hs _ _ => hs) hI0 (fun x : Fin N => { tmps := #[.pointer (some ⟨g, 0, none⟩), .int .i64 (N : Nat), .int .i64 age, undef, undef, .pointer (some ⟨w.heap.size, 0, none⟩), .slice none 0 0, .pointer (some ⟨w.heap.size + 1, 0, none⟩), .pointer (some ⟨bk, x.1 * 4, none⟩), .pointer (some ⟨g, 0, none⟩), .bool false, .bool false, .int .i64 (N : Nat), .bool false, .bool false, .int .i64 (N : Nat), .pointer (some ⟨g, 0, none⟩), .pointer (some ⟨g, 0, none⟩), .pointer (some ⟨g, 0, none⟩), .slice ao ks.length cap, .int .i64 (ks.length : Nat), .int .i64 (N : Nat), .pointer (some ⟨g, 0, none⟩), .int .i64 (N : Nat), .func (.func 28) #[] #[.pointer (some ⟨w.heap.size + 3, 0, none⟩), .pointer (some ⟨w.heap.size + 2, 0, none⟩)], .pointer (some ⟨bk, x.1 * 4, none⟩), undef, undef, undef, undef, undef, undef, undef, undef, undef, undef, undef, undef, undef, undef, undef, undef, undef, undef, undef, undef, undef, undef, undef, undef, undef, undef, undef, undef, undef, undef, undef, undef, undef, undef, undef, undef, undef, undef, undef, undef], defers := [] }) ?assign ?body ?done ?stop
      case assign =>
        intro l x W K hK
        gi_wp2
        exact hK
      case stop =>
        rintro D c pre W _ _ h _
        exact h.elim
      case body =>
        rintro l pre x W ⟨o, q0, q1, q2, q3, q4, q5, q6, q7⟩ hpl
        have hpn : 0 < N := by omega
        have hab := hao hpn
        subst hab
        have hbg : bk ≠ g := fun e => h2 (by rw [vblk_some, e]; simp)
        have hbS : bk < w.heap.size := h4.lt bk (by rw [vblk_some]; simp)
        clear hao hI0 hL0 hL1 hL2 hL3 hg3 hb3 hb0 hb1 c0 h2 h3 h4
        obtain ⟨L, T, hLT⟩ : ∃ L T, passes age ks (pre.map Fin.val) = (L, T) := ⟨_, _, rfl⟩
        have hll := (passes_length age ks (pre.map Fin.val))
        rw [hLT] at q3 q4 hll
        rw [List.length_map] at hll
        obtain ⟨hl1, hl2⟩ := hll
        dsimp only at q3 q4 hl1 hl2
        have hkx := List.getElem?_eq_getElem (show x.1 < L.length by omega)
        generalize L[x.1] = k at hkx
        obtain ⟨g0, g1, g2, g3⟩ := kc_get L x.1 k hkx
        have hSt : RowKit.Hid (∀ L' T', (L.set x.1 (swK k), T ++ swT age k) = (L', T') → passes age ks ((pre ++ [x]).map Fin.val) = (L', T')) := Lib.hid fun L' T' h => by
          rw [List.map_append, List.map_singleton, passes_snoc, hLT, ← h]
          unfold stp
          simp only [hkx]
        rcases q3.cases with ⟨hv, _⟩ | ⟨b, cap', hv, _, _, hbl, hcell, hfz⟩
        · cases hv
        cases hv
        have e0 := hcell _ _ g0
        have e1 := hcell _ _ g1
        have e2 := hcell _ _ g2
        have e3 := hcell _ _ g3
        have f2 := hfz (x.1 * 4 + 2)
        have f3 := hfz (x.1 * 4 + 3)
        have c1 := cell_of_one q1
        have c2 := cell_of_one q2
        have z2 := frozen_of_one q2
        by_cases ht : k.t = true
        · rw [ht] at e2
          gi_wp2
          have hkp : swK k = { k with t := false, a := 0 } := if_pos ht
          have htp : swT age k = [] := if_pos ht
          refine ⟨((KeepsOthers.setCell _ _ _).trans (KeepsOthers.setCell _ _ _)).from _, ?_, o, ?_, ?_, ?_, ?_, ?_, q5, q6.setF (by simp [vblk_some]) _ _ |>.setF (by simp [vblk_some]) _ _, by simpa using q7⟩
          · exact ⟨by rw [Below.heap_setCell _ _ _ _ (Ne.symm hbg), Below.heap_setCell _ _ _ _ (Ne.symm hbg)], by rw [Below.heap_setCell _ _ _ _ (Nat.ne_of_gt (show bk < _ by omega)), Below.heap_setCell _ _ _ _ (Nat.ne_of_gt (show bk < _ by omega))], by rw [Below.heap_setCell _ _ _ _ (Nat.ne_of_gt (show bk < _ by omega)), Below.heap_setCell _ _ _ _ (Nat.ne_of_gt (show bk < _ by omega))]⟩
          · rw [Below.heap_setCell _ _ _ _ (Ne.symm hbg), Below.heap_setCell _ _ _ _ (Ne.symm hbg)]; exact q0
          · rw [Below.heap_setCell _ _ _ _ (Nat.ne_of_gt (show bk < _ by omega)), Below.heap_setCell _ _ _ _ (Nat.ne_of_gt (show bk < _ by omega))]; exact q1
          · rw [Below.heap_setCell _ _ _ _ (Nat.ne_of_gt (show bk < _ by omega)), Below.heap_setCell _ _ _ _ (Nat.ne_of_gt (show bk < _ by omega))]; exact q2
          · rw [hSt.out _ _ rfl]
            have s1 := q3.stored (x.1 * 4 + 2) (.bool false)
            have s2 := s1.stored (x.1 * 4 + 3) (.int .i64 0)
            have k1 := flat_set K.cs 4 K.cs_length 2 (.bool false) (by decide) k { k with t := false } rfl L x.1 hkx
            have k2 := flat_set K.cs 4 K.cs_length 3 (.int .i64 0) (by decide) { k with t := false } { k with t := false, a := 0 } rfl (L.set x.1 { k with t := false }) x.1 (by rw [List.getElem?_set_self (by omega)])
            rw [List.set_set] at k2
            rw [show (kc L).set (x.1 * 4 + 2) (.bool false) = kc (L.set x.1 { k with t := false }) from k1, show (kc (L.set x.1 { k with t := false })).set (x.1 * 4 + 3) (.int .i64 0) = kc (L.set x.1 { k with t := false, a := 0 }) from k2] at s2
            rw [hkp]
            exact s2
          · rw [hSt.out _ _ rfl, htp, List.append_nil]
            exact q4.of_blocks fun b hb => by rw [Below.heap_setCell _ _ _ _ (Nat.ne_of_gt (show bk < _ by have := q5 b hb; omega)), Below.heap_setCell _ _ _ _ (Nat.ne_of_gt (show bk < _ by have := q5 b hb; omega))]
        · have ht : k.t = false := by simpa using ht
          rw [ht] at e2
          gi_wp2
          have d3 : (W.setCell ⟨bk, x.1 * 4 + 3, none⟩ (.int .i64 (wrap64 (k.a + 1)))).cell? ⟨bk, x.1 * 4 + 3, none⟩ = some (.int .i64 (wrap64 (k.a + 1))) := World.cell?_setCell_same' _ _ _ (by rw [e3]; rfl)
          have d0 : (W.setCell ⟨bk, x.1 * 4 + 3, none⟩ (.int .i64 (wrap64 (k.a + 1)))).cell? ⟨bk, x.1 * 4, none⟩ = some (.int .i64 k.s) := (World.cell?_setCell_other _ _ _ _ (by simp)).trans e0
          have d1 : (W.setCell ⟨bk, x.1 * 4 + 3, none⟩ (.int .i64 (wrap64 (k.a + 1)))).cell? ⟨bk, x.1 * 4 + 1, none⟩ = some (.int .i64 k.p) := (World.cell?_setCell_other _ _ _ _ (by simp)).trans e1
          by_cases hold : age ≤ wrap64 (k.a + 1)
          · gi_region
            all_goals gi_wp2
            all_goals
              skip
              obtain ⟨W2, hW2⟩ : ∃ W2, W.setCell ⟨bk, x.1 * 4 + 3, none⟩ (.int .i64 (wrap64 (k.a + 1))) = W2 := ⟨_, rfl⟩
              have hkp : swK k = { k with a := wrap64 (k.a + 1) } := if_neg (by rw [ht]; exact Bool.false_ne_true)
              have htp : swT age k = [k.key] := (if_neg (by rw [ht]; exact Bool.false_ne_true)).trans (if_pos hold)
              have s1 := q3.stored (x.1 * 4 + 3) (.int .i64 (wrap64 (k.a + 1)))
              rw [show (kc L).set (x.1 * 4 + 3) (.int .i64 (wrap64 (k.a + 1))) = kc (L.set x.1 { k with a := wrap64 (k.a + 1) }) from flat_set K.cs 4 K.cs_length 3 (.int .i64 (wrap64 (k.a + 1))) (by decide) k { k with a := wrap64 (k.a + 1) } rfl L x.1 hkx, ← hkp] at s1
              have t1 : Chg (bk :: (w.heap.size + 1) :: vblk o) (bk :: (w.heap.size + 1) :: vblk o) W (W.setCell ⟨bk, x.1 * 4 + 3, none⟩ (.int .i64 (wrap64 (k.a + 1)))) := (Chg.refl _ W).setCell _ _ _ (List.mem_cons_self ..)
              have q2' : (W.setCell ⟨bk, x.1 * 4 + 3, none⟩ (.int .i64 (wrap64 (k.a + 1)))).heap[w.heap.size + 1]? = some (.cells #[o] 32 (0, 0)) := (Below.heap_setCell _ _ _ _ (Nat.ne_of_gt (show bk < _ by omega))).trans q2
              have q4' : Sq (W.setCell ⟨bk, x.1 * 4 + 3, none⟩ (.int .i64 (wrap64 (k.a + 1)))) 24 2 o T.length (sc T) := q4.of_blocks fun b hb => Below.heap_setCell _ _ _ _ (Nat.ne_of_gt (show bk < _ by have := q5 b hb; omega))
              have hz2 : w.heap.size + 4 ≤ (W.setCell ⟨bk, x.1 * 4 + 3, none⟩ (.int .i64 (wrap64 (k.a + 1)))).heap.size := by simpa using q7
              rw [hW2] at d0 d1 s1 t1 q2' q4' hz2 ⊢
              obtain ⟨ao2, cap2, rfl, _, _⟩ := q4'.slice
              have hA : Below W2.heap.size W2 (W2.alloc (.cells #[.int .i64 k.s, .int .i64 k.p] 24)) := (Below.refl _ W2).alloc (Nat.le_refl _) _
              have hown0 := q4'.below hA
              have hnew := news_alloc W2 #[.int .i64 k.s, .int .i64 k.p] 24
              have hqB := (hA.block (w.heap.size + 1) (lt_of_block q2')).trans q2'
              have hqA := lt_of_block hqB
              have cA := cell_of_one hqB
              have c2' := cell_of_one q2'
              have hqo : w.heap.size + 1 ∉ vblk (.slice ao2 T.length cap2) := fun h => by have := q5 _ h; omega
              have HFIN : RowKit.Hid (∀ v' w3, Sq w3 24 2 v' (T.length + 1) (sc T ++ sc [k.key]) → Chg (vblk (.slice ao2 T.length cap2)) (vblk v') (W2.alloc (.cells #[.int .i64 k.s, .int .i64 k.p] 24)) w3 → KeepsFrom wL.heap.size W (w3.setCell ⟨w.heap.size + 1, 0, none⟩ v') ∧ Kp3 g (w.heap.size + 3) (w.heap.size + 2) W (w3.setCell ⟨w.heap.size + 1, 0, none⟩ v') ∧ SwI w g (some ⟨bk, 0, none⟩) cap ks age ((pre ++ [x]).map Fin.val) (w3.setCell ⟨w.heap.size + 1, 0, none⟩ v')) := Lib.hid (fun v' w3 hown hgr => by
                have t2 : Chg (bk :: (w.heap.size + 1) :: vblk (.slice ao2 T.length cap2)) (bk :: (w.heap.size + 1) :: vblk v') W (w3.setCell ⟨w.heap.size + 1, 0, none⟩ v') := ((t1.trans (Chg.of_below hA)).trans ((hgr.cons _).cons _)).setCell _ _ _ (by simp)
                have out : ∀ c, c < w.heap.size + 4 → c ≠ bk → c ≠ w.heap.size + 1 → (w3.setCell ⟨w.heap.size + 1, 0, none⟩ v').heap[c]? = W.heap[c]? := fun c hc h1 h2 => t2.block (by omega) (by
                  intro hm
                  rcases List.mem_cons.1 hm with h | hm
                  · exact h1 h
                  rcases List.mem_cons.1 hm with h | hm
                  · exact h2 h
                  · have := q5 c hm; omega)
                have hgo := (hgr.block hqA hqo).trans hqB
                have hv' : ∀ c, c ∈ vblk v' → w.heap.size + 4 ≤ c := fun c hc => by
                  rcases hgr.2.2.2.2.2 c hc with h | h
                  · exact q5 c h
                  · rw [World.size_alloc] at h; omega
                refine ⟨(t2.keeps ?_).from _, ⟨out g (by omega) (Ne.symm hbg) (by omega), out _ (by omega) (by omega) (by omega), out _ (by omega) (by omega) (by omega)⟩, v', ?_, ?_, heap_setCell_one hgo _, ?_, ?_, hv', ?_, ?_⟩
                · intro c hc
                  rcases List.mem_cons.1 hc with rfl | hc
                  · exact q3.cells_at (by simp [vblk_some])
                  rcases List.mem_cons.1 hc with rfl | hc
                  · exact ⟨_, q2, rfl⟩
                  · exact q4.cells_at hc
                · rw [out g (by omega) (Ne.symm hbg) (by omega)]; exact q0
                · rw [out _ (by omega) (by omega) (by omega)]; exact q1
                · rw [hSt.out _ _ rfl]
                  refine ((s1.below hA).chg hgr ?_).of_blocks ?_
                  · intro c hc hm
                    rw [vblk_some] at hc
                    simp only [List.mem_singleton] at hc
                    have := q5 c hm
                    omega
                  · intro c hc
                    rw [vblk_some] at hc
                    simp only [List.mem_singleton] at hc
                    exact Below.heap_setCell _ _ _ _ (Nat.ne_of_lt (show c < w.heap.size + 1 by omega))
                · rw [hSt.out _ _ rfl, htp, List.length_append, sc_append]
                  exact hown.of_blocks fun c hc => Below.heap_setCell _ _ _ _ (Nat.ne_of_gt (show w.heap.size + 1 < c by have := hv' c hc; omega))
                · refine ⟨t2.1.trans q6.1, t2.2.1.trans q6.2.1, t2.2.2.1.trans q6.2.2.1, Nat.le_trans q6.size t2.size, fun c hc hf => ?_, fun c hc => by simp at hc⟩
                  exact (out c (by omega) (fun e => hf (by rw [vblk_some, e]; simp)) (by omega)).trans (q6.block hc hf)
                · have := t2.size; omega)
              clear t1 s1 q0 q1 q3 q4 q6 hcell hfz e0 e1 e2 e3 f2 f3 c1 c2 z2 hW2 hSt q2' q4' d3 hA hLs hkp htp hold q2
              obtain ⟨i0, hi0, hz0, hz1, hz2⟩ := info_parts (show (Try.prog.info? 24).map (fun i => (i.zero, i.size, i.bytes)) = some (some (.agg #[.int .i64 0, .int .i64 0]), 2, 16) by kernel_rfl)
              refine wpIn_region_any (by kernel_rfl) ?_
              change wpAnyIn _ _ _ _ _ _ _ _ _ (World.drew _)
              refine wpAnyIn_ready (rs := [0, 1]) (by kernel_rfl) (by simp) ?_
              refine AllReadyIn.cons rfl (fun K hK => ?_) (AllReadyIn.cons rfl (fun K hK => ?_) AllReadyIn.nil)
              · go_simp
                refine hK _ _ ?_
                clear hK K
                refine wpAnyIn_ready (rs := [1]) (by kernel_rfl) (by simp) ?_
                refine AllReadyIn.cons rfl (fun K hK => ?_) AllReadyIn.nil
                go_simp
                refine hK _ _ ?_
                clear hK K
                refine wpAnyIn_ready (rs := [2]) (by kernel_rfl) (by simp) ?_
                refine AllReadyIn.cons rfl (fun K hK => ?_) AllReadyIn.nil
                go_simp
                refine hK _ _ ?_
                clear hK K
                refine wpAnyIn_ready (rs := [3]) (by kernel_rfl) (by simp) ?_
                refine AllReadyIn.cons rfl (fun K hK => ?_) AllReadyIn.nil
                go_simp
                refine hK _ _ ?_
                clear hK K
                refine wpAnyIn_ready (rs := [4]) (by kernel_rfl) (by simp) ?_
                refine AllReadyIn.cons rfl (fun K hK => ?_) AllReadyIn.nil
                go_simp
                refine hK _ _ ?_
                clear hK K
                refine wpAnyIn_ready (rs := [5]) (by kernel_rfl) (by simp) ?_
                refine AllReadyIn.cons rfl (fun K hK => ?_) AllReadyIn.nil
                go_simp
                refine hK _ _ ?_
                clear hK K
                refine wpAnyIn_ready (rs := [6]) (by kernel_rfl) (by simp) ?_
                refine AllReadyIn.cons rfl (fun K hK => ?_) AllReadyIn.nil
                refine step_append_any_in _ rfl (.tmp 49) (.tmp 54) 32 rfl 24 i0 (.agg #[.int .i64 0, .int .i64 0]) 2 16 Try.underlying32 hi0 hz0 hz1 hz2 rfl (by decide) (.slice ao2 T.length cap2) T.length (sc T) rfl hown0 (some ⟨W2.heap.size, 0, none⟩) 1 1 (sc [k.key]) rfl (fun h => by cases h) rfl (fun a ha => by cases ha; rw [sc_one]; exact hnew) (sc_onecell _) (by unfold maxLen; omega) (by omega) ?_
                intro v' w3 hown hgr
                obtain ⟨ao3, cap3, rfl, _, _⟩ := hown.slice
                have hgo := (hgr.block hqA hqo).trans hqB
                have c3 := cell_of_one hgo
                have f3 := frozen_of_one hgo
                refine hK _ _ ?_
                clear hK K
                refine wpAnyIn_ready (rs := [7]) (by kernel_rfl) (by simp) ?_
                refine AllReadyIn.cons rfl (fun K hK => ?_) AllReadyIn.nil
                go_simp
                refine hK _ _ ?_
                clear hK K
                refine wpAnyIn_done (by kernel_rfl) ?_ _
                gi_wp2
                exact HFIN.out _ _ hown hgr
              · go_simp
                refine hK _ _ ?_
                clear hK K
                refine wpAnyIn_ready (rs := [0, 2]) (by kernel_rfl) (by simp) ?_
                refine AllReadyIn.cons rfl (fun K hK => ?_) (AllReadyIn.cons rfl (fun K hK => ?_) AllReadyIn.nil)
                · go_simp
                  refine hK _ _ ?_
                  clear hK K
                  refine wpAnyIn_ready (rs := [2]) (by kernel_rfl) (by simp) ?_
                  refine AllReadyIn.cons rfl (fun K hK => ?_) AllReadyIn.nil
                  go_simp
                  refine hK _ _ ?_
                  clear hK K
                  refine wpAnyIn_ready (rs := [3]) (by kernel_rfl) (by simp) ?_
                  refine AllReadyIn.cons rfl (fun K hK => ?_) AllReadyIn.nil
                  go_simp
                  refine hK _ _ ?_
                  clear hK K
                  refine wpAnyIn_ready (rs := [4]) (by kernel_rfl) (by simp) ?_
                  refine AllReadyIn.cons rfl (fun K hK => ?_) AllReadyIn.nil
                  go_simp
                  refine hK _ _ ?_
                  clear hK K
                  refine wpAnyIn_ready (rs := [5]) (by kernel_rfl) (by simp) ?_
                  refine AllReadyIn.cons rfl (fun K hK => ?_) AllReadyIn.nil
                  go_simp
                  refine hK _ _ ?_
                  clear hK K
                  refine wpAnyIn_ready (rs := [6]) (by kernel_rfl) (by simp) ?_
                  refine AllReadyIn.cons rfl (fun K hK => ?_) AllReadyIn.nil
                  refine step_append_any_in _ rfl (.tmp 49) (.tmp 54) 32 rfl 24 i0 (.agg #[.int .i64 0, .int .i64 0]) 2 16 Try.underlying32 hi0 hz0 hz1 hz2 rfl (by decide) (.slice ao2 T.length cap2) T.length (sc T) rfl hown0 (some ⟨W2.heap.size, 0, none⟩) 1 1 (sc [k.key]) rfl (fun h => by cases h) rfl (fun a ha => by cases ha; rw [sc_one]; exact hnew) (sc_onecell _) (by unfold maxLen; omega) (by omega) ?_
                  intro v' w3 hown hgr
                  obtain ⟨ao3, cap3, rfl, _, _⟩ := hown.slice
                  have hgo := (hgr.block hqA hqo).trans hqB
                  have c3 := cell_of_one hgo
                  have f3 := frozen_of_one hgo
                  refine hK _ _ ?_
                  clear hK K
                  refine wpAnyIn_ready (rs := [7]) (by kernel_rfl) (by simp) ?_
                  refine AllReadyIn.cons rfl (fun K hK => ?_) AllReadyIn.nil
                  go_simp
                  refine hK _ _ ?_
                  clear hK K
                  refine wpAnyIn_done (by kernel_rfl) ?_ _
                  gi_wp2
                  exact HFIN.out _ _ hown hgr
                · go_simp
                  refine hK _ _ ?_
                  clear hK K
                  refine wpAnyIn_ready (rs := [0, 3]) (by kernel_rfl) (by simp) ?_
                  refine AllReadyIn.cons rfl (fun K hK => ?_) (AllReadyIn.cons rfl (fun K hK => ?_) AllReadyIn.nil)
                  · go_simp
                    refine hK _ _ ?_
                    clear hK K
                    refine wpAnyIn_ready (rs := [3]) (by kernel_rfl) (by simp) ?_
                    refine AllReadyIn.cons rfl (fun K hK => ?_) AllReadyIn.nil
                    go_simp
                    refine hK _ _ ?_
                    clear hK K
                    refine wpAnyIn_ready (rs := [4]) (by kernel_rfl) (by simp) ?_
                    refine AllReadyIn.cons rfl (fun K hK => ?_) AllReadyIn.nil
                    go_simp
                    refine hK _ _ ?_
                    clear hK K
                    refine wpAnyIn_ready (rs := [5]) (by kernel_rfl) (by simp) ?_
                    refine AllReadyIn.cons rfl (fun K hK => ?_) AllReadyIn.nil
                    go_simp
                    refine hK _ _ ?_
                    clear hK K
                    refine wpAnyIn_ready (rs := [6]) (by kernel_rfl) (by simp) ?_
                    refine AllReadyIn.cons rfl (fun K hK => ?_) AllReadyIn.nil
                    refine step_append_any_in _ rfl (.tmp 49) (.tmp 54) 32 rfl 24 i0 (.agg #[.int .i64 0, .int .i64 0]) 2 16 Try.underlying32 hi0 hz0 hz1 hz2 rfl (by decide) (.slice ao2 T.length cap2) T.length (sc T) rfl hown0 (some ⟨W2.heap.size, 0, none⟩) 1 1 (sc [k.key]) rfl (fun h => by cases h) rfl (fun a ha => by cases ha; rw [sc_one]; exact hnew) (sc_onecell _) (by unfold maxLen; omega) (by omega) ?_
                    intro v' w3 hown hgr
                    obtain ⟨ao3, cap3, rfl, _, _⟩ := hown.slice
                    have hgo := (hgr.block hqA hqo).trans hqB
                    have c3 := cell_of_one hgo
                    have f3 := frozen_of_one hgo
                    refine hK _ _ ?_
                    clear hK K
                    refine wpAnyIn_ready (rs := [7]) (by kernel_rfl) (by simp) ?_
                    refine AllReadyIn.cons rfl (fun K hK => ?_) AllReadyIn.nil
                    go_simp
                    refine hK _ _ ?_
                    clear hK K
                    refine wpAnyIn_done (by kernel_rfl) ?_ _
                    gi_wp2
                    exact HFIN.out _ _ hown hgr
                  · go_simp
                    refine hK _ _ ?_
                    clear hK K
                    refine wpAnyIn_ready (rs := [0, 4]) (by kernel_rfl) (by simp) ?_
                    refine AllReadyIn.cons rfl (fun K hK => ?_) (AllReadyIn.cons rfl (fun K hK => ?_) AllReadyIn.nil)
                    · go_simp
                      refine hK _ _ ?_
                      clear hK K
                      refine wpAnyIn_ready (rs := [4]) (by kernel_rfl) (by simp) ?_
                      refine AllReadyIn.cons rfl (fun K hK => ?_) AllReadyIn.nil
                      go_simp
                      refine hK _ _ ?_
                      clear hK K
                      refine wpAnyIn_ready (rs := [5]) (by kernel_rfl) (by simp) ?_
                      refine AllReadyIn.cons rfl (fun K hK => ?_) AllReadyIn.nil
                      go_simp
                      refine hK _ _ ?_
                      clear hK K
                      refine wpAnyIn_ready (rs := [6]) (by kernel_rfl) (by simp) ?_
                      refine AllReadyIn.cons rfl (fun K hK => ?_) AllReadyIn.nil
                      refine step_append_any_in _ rfl (.tmp 49) (.tmp 54) 32 rfl 24 i0 (.agg #[.int .i64 0, .int .i64 0]) 2 16 Try.underlying32 hi0 hz0 hz1 hz2 rfl (by decide) (.slice ao2 T.length cap2) T.length (sc T) rfl hown0 (some ⟨W2.heap.size, 0, none⟩) 1 1 (sc [k.key]) rfl (fun h => by cases h) rfl (fun a ha => by cases ha; rw [sc_one]; exact hnew) (sc_onecell _) (by unfold maxLen; omega) (by omega) ?_
                      intro v' w3 hown hgr
                      obtain ⟨ao3, cap3, rfl, _, _⟩ := hown.slice
                      have hgo := (hgr.block hqA hqo).trans hqB
                      have c3 := cell_of_one hgo
                      have f3 := frozen_of_one hgo
                      refine hK _ _ ?_
                      clear hK K
                      refine wpAnyIn_ready (rs := [7]) (by kernel_rfl) (by simp) ?_
                      refine AllReadyIn.cons rfl (fun K hK => ?_) AllReadyIn.nil
                      go_simp
                      refine hK _ _ ?_
                      clear hK K
                      refine wpAnyIn_done (by kernel_rfl) ?_ _
                      gi_wp2
                      exact HFIN.out _ _ hown hgr
                    · go_simp
                      refine hK _ _ ?_
                      clear hK K
                      refine wpAnyIn_ready (rs := [0, 5]) (by kernel_rfl) (by simp) ?_
                      refine AllReadyIn.cons rfl (fun K hK => ?_) (AllReadyIn.cons rfl (fun K hK => ?_) AllReadyIn.nil)
                      · go_simp
                        refine hK _ _ ?_
                        clear hK K
                        refine wpAnyIn_ready (rs := [5]) (by kernel_rfl) (by simp) ?_
                        refine AllReadyIn.cons rfl (fun K hK => ?_) AllReadyIn.nil
                        go_simp
                        refine hK _ _ ?_
                        clear hK K
                        refine wpAnyIn_ready (rs := [6]) (by kernel_rfl) (by simp) ?_
                        refine AllReadyIn.cons rfl (fun K hK => ?_) AllReadyIn.nil
                        refine step_append_any_in _ rfl (.tmp 49) (.tmp 54) 32 rfl 24 i0 (.agg #[.int .i64 0, .int .i64 0]) 2 16 Try.underlying32 hi0 hz0 hz1 hz2 rfl (by decide) (.slice ao2 T.length cap2) T.length (sc T) rfl hown0 (some ⟨W2.heap.size, 0, none⟩) 1 1 (sc [k.key]) rfl (fun h => by cases h) rfl (fun a ha => by cases ha; rw [sc_one]; exact hnew) (sc_onecell _) (by unfold maxLen; omega) (by omega) ?_
                        intro v' w3 hown hgr
                        obtain ⟨ao3, cap3, rfl, _, _⟩ := hown.slice
                        have hgo := (hgr.block hqA hqo).trans hqB
                        have c3 := cell_of_one hgo
                        have f3 := frozen_of_one hgo
                        refine hK _ _ ?_
                        clear hK K
                        refine wpAnyIn_ready (rs := [7]) (by kernel_rfl) (by simp) ?_
                        refine AllReadyIn.cons rfl (fun K hK => ?_) AllReadyIn.nil
                        go_simp
                        refine hK _ _ ?_
                        clear hK K
                        refine wpAnyIn_done (by kernel_rfl) ?_ _
                        gi_wp2
                        exact HFIN.out _ _ hown hgr
                      · go_simp
                        refine hK _ _ ?_
                        clear hK K
                        refine wpAnyIn_ready (rs := [0]) (by kernel_rfl) (by simp) ?_
                        refine AllReadyIn.cons rfl (fun K hK => ?_) AllReadyIn.nil
                        go_simp
                        refine hK _ _ ?_
                        clear hK K
                        refine wpAnyIn_ready (rs := [6]) (by kernel_rfl) (by simp) ?_
                        refine AllReadyIn.cons rfl (fun K hK => ?_) AllReadyIn.nil
                        refine step_append_any_in _ rfl (.tmp 49) (.tmp 54) 32 rfl 24 i0 (.agg #[.int .i64 0, .int .i64 0]) 2 16 Try.underlying32 hi0 hz0 hz1 hz2 rfl (by decide) (.slice ao2 T.length cap2) T.length (sc T) rfl hown0 (some ⟨W2.heap.size, 0, none⟩) 1 1 (sc [k.key]) rfl (fun h => by cases h) rfl (fun a ha => by cases ha; rw [sc_one]; exact hnew) (sc_onecell _) (by unfold maxLen; omega) (by omega) ?_
                        intro v' w3 hown hgr
                        obtain ⟨ao3, cap3, rfl, _, _⟩ := hown.slice
                        have hgo := (hgr.block hqA hqo).trans hqB
                        have c3 := cell_of_one hgo
                        have f3 := frozen_of_one hgo
                        refine hK _ _ ?_
                        clear hK K
                        refine wpAnyIn_ready (rs := [7]) (by kernel_rfl) (by simp) ?_
                        refine AllReadyIn.cons rfl (fun K hK => ?_) AllReadyIn.nil
                        go_simp
                        refine hK _ _ ?_
                        clear hK K
                        refine wpAnyIn_done (by kernel_rfl) ?_ _
                        gi_wp2
                        exact HFIN.out _ _ hown hgr
          · have hkp : swK k = { k with a := wrap64 (k.a + 1) } := if_neg (by rw [ht]; exact Bool.false_ne_true)
            have htp : swT age k = [] := (if_neg (by rw [ht]; exact Bool.false_ne_true)).trans (if_neg hold)
            have HX := Lib.hid (And.intro hkp htp)
            clear hkp htp
            gi_region
            all_goals gi_wp2
            all_goals
              refine ⟨((KeepsOthers.setCell W ⟨bk, x.1 * 4 + 3, none⟩ (.int .i64 (wrap64 (k.a + 1)))).trans (KeepsOthers.drew _)).from _, ?_, o, ?_, ?_, ?_, ?_, ?_, q5, q6.setF (by simp [vblk_some]) _ _, by simpa using q7⟩
              · exact ⟨Below.heap_setCell W _ _ _ (Ne.symm hbg), Below.heap_setCell W _ _ _ (Nat.ne_of_gt (show bk < _ by omega)), Below.heap_setCell W _ _ _ (Nat.ne_of_gt (show bk < _ by omega))⟩
              · exact (Below.heap_setCell W _ _ _ (Ne.symm hbg)).trans q0
              · exact (Below.heap_setCell W _ _ _ (Nat.ne_of_gt (show bk < _ by omega))).trans q1
              · exact (Below.heap_setCell W _ _ _ (Nat.ne_of_gt (show bk < _ by omega))).trans q2
              · rw [hSt.out _ _ rfl, HX.out.1]
                have s1 := q3.stored (x.1 * 4 + 3) (.int .i64 (wrap64 (k.a + 1)))
                rw [show (kc L).set (x.1 * 4 + 3) (.int .i64 (wrap64 (k.a + 1))) = kc (L.set x.1 { k with a := wrap64 (k.a + 1) }) from flat_set K.cs 4 K.cs_length 3 (.int .i64 (wrap64 (k.a + 1))) (by decide) k { k with a := wrap64 (k.a + 1) } rfl L x.1 hkx] at s1
                exact s1
              · rw [hSt.out _ _ rfl, HX.out.2, List.append_nil]
                have s2 : Sq (W.setCell ⟨bk, x.1 * 4 + 3, none⟩ (.int .i64 (wrap64 (k.a + 1)))) 24 2 o T.length (sc T) := q4.of_blocks fun b hb => Below.heap_setCell _ _ _ _ (Nat.ne_of_gt (show bk < b by have := q5 b hb; omega))
                exact s2
      case done =>
        rintro D ys W hD rfl hS hK
        rw [fins_val] at hS
        obtain ⟨o, q0, q1, q2, q3, q4, q5, q6, q7⟩ := hS
        rw [passes_range age ks N hNl] at q3 q4
        dsimp only at q3 q4
        have c0 := cell_of_one q0
        have c2 := cell_of_one q2
        have hlen' : ((ks.take N).map swK ++ ks.drop N).length = ks.length := by rw [List.length_append, List.length_map, List.length_take, List.length_drop]; omega
        have hgS : g ∉ vblk (.slice ao ks.length cap) := h2
        have HHN := HN
        clear hL0 hL1 hL2 hL3 hg3 hb3 hb0 hb1 hI0 hao h2 h3
        gi_wp2
        refine ⟨trivial, callsIn_wide.2 ((turned_any (.slice ao ks.length cap) ((ks.take N).map swK ++ ks.drop N) N W (by rw [hlen']; exact q3) (by omega) (by omega)).mono ?_)⟩
        rintro e W3 ⟨v3, rfl, hv3, hc3⟩
        rw [hlen'] at hv3
        obtain ⟨ao3, cap3, rfl, hnc3, hcm3⟩ := hv3.slice
        have hgW : g < W.heap.size := lt_of_block q0
        have r0 := (hc3.block hgW (by simp)).trans q0
        have r2 := (hc3.block (lt_of_block q2) (by simp)).trans q2
        have rK : W3.heap[D]? = some (.deferred (some [])) := (hc3.block (lt_of_block hK) (by simp)).trans hK
        have rc := cell_of_one r0
        have rf := frozen_of_one r0
        have ro := cell_of_one r2
        gi_wp2
        have hDg : g < D := by omega
        have hDS : w.heap.size + 4 ≤ D := by omega
        have hrK : (W3.setCell ⟨g, 0, none⟩ (.slice ao3 ks.length cap3)).heap[D]? = some (.deferred (some [])) := (Below.heap_setCell _ _ _ _ (Nat.ne_of_gt hDg)).trans rK
        have hgo : ∀ b, b ∈ vblk o → b ≠ g := fun b hb => by have := q5 b hb; omega
        have hg3 : g ∉ vblk (.slice ao3 ks.length cap3) := hc3.out (by simp) hgW
        have hA : ((ks.take N).map swK).length = N := by rw [List.length_map, List.length_take, Nat.min_eq_left hNl]
        have hK2 : sweepK ks (N : Int) = ks.drop N ++ (ks.take N).map swK := by unfold sweepK; rw [HHN.out]
        have hT2 : sweepT ks (N : Int) age = (ks.take N).flatMap (swT age) := by unfold sweepT; rw [HHN.out]
        have hl2 : (ks.drop N ++ (ks.take N).map swK).length = ks.length := by rw [List.length_append, hA, List.length_drop]; omega
        have hdr : ((ks.take N).map swK ++ ks.drop N).drop N = ks.drop N := List.drop_left' hA
        have htk : ((ks.take N).map swK ++ ks.drop N).take N = (ks.take N).map swK := List.take_left' hA
        rw [hdr, htk] at hv3
        refine ⟨by simp, .inl ⟨_, _, rfl, run_takeDeferred hrK, ?_⟩⟩
        refine ⟨_, results_tmp rfl _ _ _, o, g :: vblk (.slice ao3 ks.length cap3), rfl, ?_, ?_, ?_, ?_⟩
        · rw [hT2]
          exact ownsRow_putObj (Sq.of_blocks (q4.chg hc3 (fun b _ hm => by simp at hm)) fun b hb => Below.heap_setCell _ _ _ _ (hgo b hb)) _ hrK rfl
        · rw [hK2]
          refine ⟨_, rfl, hg3, (World.putObj_heap_other (Nat.ne_of_lt hDg)).trans (heap_setCell_one r0 _), ?_⟩
          rw [hl2]
          exact ownsRow_putObj (Sq.of_blocks hv3 fun b hb => Below.heap_setCell _ _ _ _ (fun e => hg3 (by cases e; exact hb))) _ hrK rfl
        · refine ⟨hc3.1.trans q6.1, hc3.2.1.trans q6.2.1, hc3.2.2.1.trans q6.2.2.1, ?_, fun b hb hf => ?_, fun b hb => ?_⟩
          · exact Nat.le_trans q6.size (Nat.le_trans hc3.size (Nat.le_trans (by simp) (grownBy_putObj' (W3.setCell ⟨g, 0, none⟩ (.slice ao3 ks.length cap3)) D (.deferred none)).size))
          · have h1 : b ≠ g := fun e => hf (by simp [e])
            have h2 : b ∉ vblk (.slice ao ks.length cap) := fun e => hf (by simp [e])
            exact (World.putObj_heap_other (by omega)).trans ((Below.heap_setCell _ _ _ _ h1).trans ((hc3.block (by have := q6.size; omega) (by simp)).trans (q6.block hb h2)))
          · rcases List.mem_append.1 hb with hb | hb
            · rcases List.mem_cons.1 hb with rfl | hb
              · exact .inl (by simp)
              · right
                rcases hc3.2.2.2.2.2 b hb with h | h
                · simp at h
                · have := q6.size; omega
            · right
              have := q5 b hb
              omega
        · intro b hb hm
          rcases List.mem_cons.1 hm with h | hm
          · exact hgo b hb h
          · rcases hc3.2.2.2.2.2 b hm with h | h
            · simp at h
            · have := q4.lt b hb; omega

end Go.Proofs.Ytehbonhdhblpgaa

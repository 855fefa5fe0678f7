/- Parts of the proofs of layer 25 (clock): contracts of its functions, and the laws' walks. -/
import Derived.Test.YtehbonhdhblpgaaProg
import Derived.WalkKit
import Derived.WalkSpells
import Derived.WalkLawsBesides
import Derived.BigQuiet
import Derived.Deep.QuietTactic
import Derived.Lib.Hide
import Derived.Deep.RegionHeld3
import Derived.Deep.DeepCutAuto
import Derived.KernelRfl
import Derived.Deep.OwnRows
import Derived.Laws.CopyOwn
import Derived.Laws.CopyRow
import Derived.StillTailTactics
import Derived.Deep.RegionLaw
import Derived.Test.YtehbonhdhblpgaaSl
import Derived.Test.YtehbonhdhblpgaaSq
namespace Go.Proofs.Ytehbonhdhblpgaa
open Go.RowKit
set_option linter.unusedVariables false
set_option linter.unusedSimpArgs false

theorem frozen_of_one {w : World} {g : Nat} {v : Value} {t : TypeId} (h : w.heap[g]? = some (.cells #[v] t (0, 0))) : w.frozen? ⟨g, 0, none⟩ = false := frozen_of_row w g 0 #[v] t h
theorem heap_setCell_one {w : World} {g : Nat} {v : Value} {t : TypeId} (h : w.heap[g]? = some (.cells #[v] t (0, 0))) (u : Value) : (w.setCell ⟨g, 0, none⟩ u).heap[g]? = some (.cells #[u] t (0, 0)) := heap_setCell_same w g 0 #[v] t u h
/-- A key, and what is known of it. -/
structure K where
  s : Int
  p : Int
  t : Bool
  a : Int
  deriving DecidableEq
/-- A spot. -/
structure S where
  s : Int
  p : Int
  deriving DecidableEq
def K.cs (k : K) : List Value := [.int .i64 k.s, .int .i64 k.p, .bool k.t, .int .i64 k.a]
theorem K.cs_length (k : K) : k.cs.length = 4 := rfl
def S.cs (k : S) : List Value := [.int .i64 k.s, .int .i64 k.p]
theorem S.cs_length (k : S) : k.cs.length = 2 := rfl
def K.key (k : K) : S := ⟨k.s, k.p⟩
/-- The cells of keys in a row. -/
def kc (l : List K) : List Value := l.flatMap K.cs
theorem kc_length (l : List K) : (kc l).length = l.length * 4 := flat_length _ 4 K.cs_length l
theorem kc_get (l : List K) (i : Nat) (k : K) (h : l[i]? = some k) : (kc l)[i * 4]? = some (.int .i64 k.s) ∧ (kc l)[i * 4 + 1]? = some (.int .i64 k.p) ∧ (kc l)[i * 4 + 2]? = some (.bool k.t) ∧ (kc l)[i * 4 + 3]? = some (.int .i64 k.a) := by
  have h0 := flat_get K.cs 4 K.cs_length l i 0 (by decide)
  have h1 := flat_get K.cs 4 K.cs_length l i 1 (by decide)
  have h2 := flat_get K.cs 4 K.cs_length l i 2 (by decide)
  have h3 := flat_get K.cs 4 K.cs_length l i 3 (by decide)
  rw [h] at h0 h1 h2 h3
  exact ⟨h0, h1, h2, h3⟩
/-- The program's clock: its struct in block g, its footprint F, its keys. -/
def Clk (w : World) (g : Nat) (F : List Nat) (ks : List K) : Prop :=
  ∃ v, F = g :: vblk v ∧ g ∉ vblk v ∧ w.heap[g]? = some (.cells #[v] 57 (0, 0)) ∧ Sq w 59 4 v ks.length (kc ks)
theorem Clk.lt {w : World} {g : Nat} {F : List Nat} {ks : List K} (h : Clk w g F ks) : ∀ b, b ∈ F → b < w.heap.size := by
  obtain ⟨v, rfl, h1, h2, h3⟩ := h
  intro b hb
  rcases List.mem_cons.1 hb with rfl | hb
  · exact lt_of_block h2
  · exact h3.lt b hb
theorem Clk.chg {w w' : World} {g : Nat} {F G G' : List Nat} {ks : List K} (h : Clk w g F ks) (hc : Chg G G' w w') (hs : Sep F G) : Clk w' g F ks := by
  have hl := h.lt
  obtain ⟨v, rfl, h1, h2, h3⟩ := h
  exact ⟨v, rfl, h1, (hc.block (hl g (by simp)) (hs g (by simp))).trans h2, h3.chg hc fun b hb => hs b (by simp [hb])⟩
theorem Clk.below {w w' : World} {g : Nat} {F : List Nat} {ks : List K} (h : Clk w g F ks) (hb : Below w.heap.size w w') : Clk w' g F ks :=
  h.chg (Chg.of_below (F := []) hb) fun _ _ hm => by simp at hm
theorem Clk.drew {w : World} {g : Nat} {F : List Nat} {ks : List K} (h : Clk w g F ks) : Clk w.drew g F ks := h
theorem Clk.drewN {w : World} {g : Nat} {F : List Nat} {ks : List K} (h : Clk w g F ks) (k : Nat) : Clk (w.drewN k) g F ks := h
/-- The place of a spot; the list's length: none. -/
def idx : List K → S → Nat
  | [], _ => 0
  | k :: l, x => if k.key = x then 0 else idx l x + 1
theorem idx_le : ∀ (l : List K) (x : S), idx l x ≤ l.length
  | [], _ => Nat.le_refl _
  | k :: l, x => by
    unfold idx
    have := idx_le l x
    rw [List.length_cons]
    split <;> omega
theorem idx_step : ∀ (l : List K) (x : S) (i : Nat) (k : K), i ≤ idx l x → l[i]? = some k → (k.key = x → idx l x = i) ∧ (k.key ≠ x → i + 1 ≤ idx l x)
  | [], _, _, _, _, h => by simp at h
  | a :: l, x, 0, k, _, h => by
    simp only [List.getElem?_cons_zero, Option.some.injEq] at h
    subst h
    unfold idx
    constructor
    · intro h; rw [if_pos h]
    · intro h; rw [if_neg h]; omega
  | a :: l, x, i + 1, k, hi, h => by
    simp only [List.getElem?_cons_succ] at h
    unfold idx at hi ⊢
    by_cases ha : a.key = x
    · rw [if_pos ha] at hi; omega
    · rw [if_neg ha] at hi ⊢
      obtain ⟨h1, h2⟩ := idx_step l x i k (by omega) h
      exact ⟨fun e => by rw [h1 e], fun e => by have := h2 e; omega⟩
theorem idx_get : ∀ (l : List K) (x : S), idx l x < l.length → ∃ k, l[idx l x]? = some k ∧ k.key = x
  | [], _, h => by simp [idx] at h
  | a :: l, x, h => by
    unfold idx at h ⊢
    by_cases ha : a.key = x
    · rw [if_pos ha]; exact ⟨a, rfl, ha⟩
    · rw [if_neg ha] at h ⊢
      rw [List.getElem?_cons_succ]
      exact idx_get l x (by rw [List.length_cons] at h; omega)
/-- What find answers. -/
def fres (l : List K) (x : S) : Value := if idx l x < l.length then .tuple #[.int .i64 (idx l x : Nat), .int .i64 0] else .tuple #[.int .i64 0, .int .i64 6]
set_option maxRecDepth 100000 in
set_option maxHeartbeats 4000000 in
theorem find_any (g : Nat) (F : List Nat) (ks : List K) (x : S) (w : World) (h : Clk w g F ks) (hm : ks.length ≤ 1000) :
    Calls Try.prog 24 #[.pointer (some ⟨g, 0, none⟩), .agg #[.int .i64 x.s, .int .i64 x.p]] w fun e w' => e = .returned (fres ks x) ∧ Below w.heap.size w w' := by
  go_enter Try.func24, Try.ntmps24
  have hb0 : Below w.heap.size w (w.alloc (.cells #[.int .i64 x.s, .int .i64 x.p] 24)) := (Below.refl _ w).alloc (Nat.le_refl _) _
  have H0 := h.below hb0
  have hx0 : ∀ i v, #[Value.int .i64 x.s, Value.int .i64 x.p][i]? = some v → (w.alloc (.cells #[.int .i64 x.s, .int .i64 x.p] 24)).cell? ⟨w.heap.size, i, none⟩ = some v := by
    intro i v h
    simp only [World.cell?, Deep.blk_alloc_new]
    exact h
  have hs0 : (w.alloc (.cells #[.int .i64 x.s, .int .i64 x.p] 24)).heap.size = w.heap.size + 1 := World.size_alloc _ _
  obtain ⟨v, rfl, h1, h2, h3⟩ := H0
  have c0 := cell_of_one h2
  obtain ⟨ao, cap, rfl, hnc, hcm⟩ := h3.slice
  go_upto_region 1 with fail
  generalize (w.alloc (.cells #[.int .i64 x.s, .int .i64 x.p] 24)) = w0 at *
  have d0 : w0.cell? ⟨w.heap.size, 0, none⟩ = some (.int .i64 x.s) := hx0 0 _ rfl
  have d1 : w0.cell? ⟨w.heap.size, 1, none⟩ = some (.int .i64 x.p) := hx0 1 _ rfl
  have hBT : w.heap.size < w0.heap.size := by omega
  go_wp2_with fail
  clear hx0 h2 c0 hs0 h
  go_loopw [15] (fun s wr => ∃ i : Nat, i ≤ idx ks x ∧ s = .int .i64 (i : Nat) ∧ Below w0.heap.size w0 wr) (fun s _ => ks.length - (intOf s).toNat)
  case atStart => exact ⟨0, Nat.zero_le _, rfl, Below.refl _ _⟩
  case round =>
    obtain ⟨i, hi, rfl, hbr⟩ := hrel
    have hil := idx_le ks x
    by_cases hlt : i < ks.length
    · have hk := List.getElem?_eq_getElem hlt
      generalize ks[i] = k at hk
      obtain ⟨y1, y2⟩ := idx_step ks x i k hi hk
      obtain ⟨g0, g1, g2, g3⟩ := kc_get ks i k hk
      rcases h3.cases with ⟨_, h0⟩ | ⟨b, cap', hv, _, _, hbl, hcell, _⟩
      · omega
      · cases hv
        have e0 := cell_keep hbr (hcell _ _ g0)
        have e1 := cell_keep hbr (hcell _ _ g1)
        have e2 := cell_keep hbr (hcell _ _ g2)
        have e3 := cell_keep hbr (hcell _ _ g3)
        have d0 := cell_keep hbr d0
        have d1 := cell_keep hbr d1
        have hwr : w.heap.size < wr.heap.size := Nat.lt_of_lt_of_le hBT hbr.size
        clear hk g0 g1 g2 g3 hcell h3
        have hbx : Below w0.heap.size w0 (wr.alloc (.cells #[.int .i64 k.s, .int .i64 k.p, .bool k.t, .int .i64 k.a] 59)) := hbr.alloc hbr.size _
        have key : k.key = x ↔ k.s = x.s ∧ k.p = x.p := by
          unfold K.key
          cases x
          simp
        have Y1 := Lib.hid y1
        have Y2 := Lib.hid y2
        have HB := Lib.hid hbx
        have HK := Lib.hid key
        clear y1 y2 hbx key
        go_wp2_with fail
        · rename_i q1 q2
          have e := Y1.out (HK.out.2 ⟨q1, q2⟩)
          subst e
          refine bodyPost_ret (results_tmp2 rfl _ _ _) rfl ?_
          refine ⟨?_, ?_⟩
          · unfold fres
            rw [if_pos hlt]
            rfl
          · rw [← q1, ← q2]
            exact hb0.trans (HB.out.mono (Nat.le_of_lt hBT))
        · rename_i q1 q2
          have hi2 := Y2.out fun e => q2 (HK.out.1 e).2
          rw [← q1]
          exact ⟨⟨i + 1, hi2, by simp, HB.out⟩, by simp [intOf]; omega⟩
        · rename_i q1
          have hi2 := Y2.out fun e => q1 (HK.out.1 e).1
          exact ⟨⟨i + 1, hi2, by simp, HB.out⟩, by simp [intOf]; omega⟩
    · have hx : idx ks x = ks.length := by omega
      go_wp2_with fail
      refine bodyPost_ret (results_tmp2 rfl _ _ _) rfl ?_
      refine ⟨?_, hb0.trans (hbr.mono (Nat.le_of_lt hBT))⟩
      unfold fres
      rw [if_neg (by omega)]
      rfl

end Go.Proofs.Ytehbonhdhblpgaa

/- Parts of the proofs of layer 25 (clock): contracts of its functions, and the laws' walks. -/
import Derived.Test.YtehbonhdhblpgaaProg
import Derived.WalkKit
import Derived.WalkSpells
import Derived.WalkLawsBesides
import Derived.BigQuiet
import Derived.Deep.QuietTactic
import Derived.Lib.Hide
import Derived.Deep.RegionHeld3
import Derived.Deep.DeepCutAuto
import Derived.KernelRfl
import Derived.Deep.OwnRows
import Derived.Laws.CopyOwn
import Derived.Laws.CopyRow
import Derived.StillTailTactics
import Derived.Deep.RegionLaw
import Derived.Test.YtehbonhdhblpgaaC4
namespace Go.Proofs.Ytehbonhdhblpgaa
open Go.RowKit
set_option linter.unusedVariables false
set_option linter.unusedSimpArgs false

/-- The oldest key behind some. -/
def older (b k : K) : K := if b.a < k.a then k else b
def oldest (l : List K) (b : K) : K := l.foldl older b
def ores (l : List K) : Value := match l with
  | [] => .tuple #[.agg #[.int .i64 0, .int .i64 0], .int .i64 6]
  | k :: l => .tuple #[.agg #[.int .i64 (oldest (k :: l) k).s, .int .i64 (oldest (k :: l) k).p], .int .i64 0]
def K.arr (k : K) : Array Value := #[.int .i64 k.s, .int .i64 k.p, .bool k.t, .int .i64 k.a]
/-- A key's struct in a block of its own. -/
def KBox (w : World) (T : Nat) (k : K) : Prop := w.heap[T]? = some (.cells k.arr 59 (0, 0))
theorem KBox.cells {w : World} {T : Nat} {k : K} (h : KBox w T k) : w.cell? ⟨T, 0, none⟩ = some (.int .i64 k.s) ∧ w.cell? ⟨T, 1, none⟩ = some (.int .i64 k.p) ∧ w.cell? ⟨T, 2, none⟩ = some (.bool k.t) ∧ w.cell? ⟨T, 3, none⟩ = some (.int .i64 k.a) :=
  ⟨cell_of_row w T 0 _ 59 _ h, cell_of_row w T 1 _ 59 _ h, cell_of_row w T 2 _ 59 _ h, cell_of_row w T 3 _ 59 _ h⟩
theorem KBox.frozen {w : World} {T : Nat} {k : K} (h : KBox w T k) (j : Nat) : w.frozen? ⟨T, j, none⟩ = false := frozen_of_row w T j _ 59 h
theorem KBox.lt {w : World} {T : Nat} {k : K} (h : KBox w T k) : T < w.heap.size := lt_of_block h
theorem KBox.below {w w' : World} {T : Nat} {k : K} (h : KBox w T k) (hb : Below w.heap.size w w') : KBox w' T k := (hb.block T h.lt).trans h
theorem KBox.put {w : World} {T : Nat} {k : K} (h : KBox w T k) (k' : K) : KBox ((((w.setCell ⟨T, 0, none⟩ (.int .i64 k'.s)).setCell ⟨T, 1, none⟩ (.int .i64 k'.p)).setCell ⟨T, 2, none⟩ (.bool k'.t)).setCell ⟨T, 3, none⟩ (.int .i64 k'.a)) T k' :=
  heap_setCell_same _ T 3 _ 59 _ (heap_setCell_same _ T 2 _ 59 _ (heap_setCell_same _ T 1 _ 59 _ (heap_setCell_same w T 0 _ 59 _ h)))
theorem KBox.new (w : World) (k : K) : KBox (w.alloc (.cells #[.int .i64 k.s, .int .i64 k.p, .bool k.t, .int .i64 k.a] 59)) w.heap.size k := heap_alloc_new w _
set_option maxRecDepth 100000 in
set_option maxHeartbeats 4000000 in
theorem oldest_any (g : Nat) (F : List Nat) (ks : List K) (w : World) (h : Clk w g F ks) (hm : ks.length ≤ 1000) :
    Calls Try.prog 21 #[.pointer (some ⟨g, 0, none⟩)] w fun e w' => e = .returned (ores ks) ∧ Below w.heap.size w w' := by
  have hb0 : Below w.heap.size w (w.alloc (.cells #[.int .i64 0, .int .i64 0] 24)) := (Below.refl _ w).alloc (Nat.le_refl _) _
  have hx0 : ∀ i v, #[Value.int .i64 0, Value.int .i64 0][i]? = some v → (w.alloc (.cells #[.int .i64 0, .int .i64 0] 24)).cell? ⟨w.heap.size, i, none⟩ = some v := by
    intro i v h
    simp only [World.cell?, Deep.blk_alloc_new]
    exact h
  have hf0 : ∀ i, (w.alloc (.cells #[.int .i64 0, .int .i64 0] 24)).frozen? ⟨w.heap.size, i, none⟩ = false := fun i => frozen_of_row _ _ i _ _ (heap_alloc_new w _)
  have hs0 : (w.alloc (.cells #[.int .i64 0, .int .i64 0] 24)).heap.size = w.heap.size + 1 := World.size_alloc _ _
  obtain ⟨v, rfl, h1, h2, h3⟩ := h.below hb0
  clear h
  have c0 := cell_of_one h2
  obtain ⟨ao, cap, rfl, hnc, hcm⟩ := h3.slice
  go_enter Try.func21, Try.ntmps21
  go_upto_region 1 with fail
  generalize w.alloc (.cells #[.int .i64 0, .int .i64 0] 24) = w0 at *
  have d0 : w0.cell? ⟨w.heap.size, 0, none⟩ = some (.int .i64 0) := hx0 0 _ rfl
  have d1 : w0.cell? ⟨w.heap.size, 1, none⟩ = some (.int .i64 0) := hx0 1 _ rfl
  have f0 := hf0 0
  have f1 := hf0 1
  have hBT : w.heap.size < w0.heap.size := by omega
  clear hx0 hs0 h2
  generalize hN : ks.length = N at *
  cases ks with
  | nil =>
    obtain rfl : N = 0 := hN.symm
    go_wp2_with fail
    refine bodyPost_ret (v := .tuple #[.agg #[.int .i64 0, .int .i64 0], .int .i64 6]) (by simp [results, Try.results21, go_sem, d0, d1]) rfl ⟨rfl, ?_⟩
    exact (hb0.setCell (Nat.le_refl _) _).setCell (Nat.le_refl _) _
  | cons k l =>
    obtain ⟨g0, g1, g2, g3⟩ := kc_get (k :: l) 0 k rfl
    have hN0 : (0 : Int) < (N : Int) := by rw [← hN, List.length_cons]; omega
    rcases h3.cases with ⟨_, h0⟩ | ⟨b, cap', hv, _, _, hbl, hcell, _⟩
    · omega
    · cases hv
      have e0 := hcell _ _ g0
      have e1 := hcell _ _ g1
      have e2 := hcell _ _ g2
      have e3 := hcell _ _ g3
      rw [Nat.zero_mul] at e0 e1 e2 e3
      have hb1 : Below w0.heap.size w0 (w0.alloc (.cells #[.int .i64 k.s, .int .i64 k.p, .bool k.t, .int .i64 k.a] 59)) := (Below.refl _ w0).alloc (Nat.le_refl _) _
      have hs1 : (w0.alloc (.cells #[.int .i64 k.s, .int .i64 k.p, .bool k.t, .int .i64 k.a] 59)).heap.size = w0.heap.size + 1 := World.size_alloc _ _
      have hx1 := KBox.new w0 k
      go_upto_region 6 with fail
      generalize w0.alloc (.cells #[.int .i64 k.s, .int .i64 k.p, .bool k.t, .int .i64 k.a] 59) = w1 at *
      have d0 := cell_keep hb1 d0
      have d1 := cell_keep hb1 d1
      have c0 := cell_keep hb1 c0
      have hT : w0.heap.size < w1.heap.size := by omega
      have hcell1 : ∀ (j : Nat) (u : Value), (kc (k :: l))[j]? = some u → w1.cell? ⟨b, j, none⟩ = some u := fun j u h => cell_keep hb1 (hcell j u h)
      have HB := Lib.hid (hb0.trans (hb1.mono (Nat.le_of_lt hBT)))
      have hF : ∀ i, w1.frozen? ⟨w.heap.size, i, none⟩ = false := fun i => (World.frozen?_of_block (hb1.block w.heap.size hBT)).trans (hf0 i)
      clear hb1 hs1 hcell e0 e1 e2 e3 g0 g1 g2 g3 hb0 f0 f1 hf0
      generalize w0.heap.size = T at *
      go_wp2_with fail
      clear c0
      go_loopw [30] (fun s wr => ∃ (i : Nat) (m : K), i ≤ N ∧ s = .int .i64 (i : Nat) ∧ m = oldest ((k :: l).take i) k ∧ KBox wr T m ∧ Below T w1 wr) (fun s _ => N - (intOf s).toNat)
      case atStart => exact ⟨0, k, Nat.zero_le _, rfl, rfl, hx1, Below.refl _ _⟩
      case round =>
        obtain ⟨i, m, hi, rfl, hmo, hbx, hbr⟩ := hrel
        by_cases hlt : i < N
        · have hk := List.getElem?_eq_getElem (show i < (k :: l).length by omega)
          generalize (k :: l)[i] = k' at hk
          obtain ⟨g0, g1, g2, g3⟩ := kc_get (k :: l) i k' hk
          have e0 := (hbr.cell (p := ⟨b, i * 4, none⟩) hbl).trans (hcell1 _ _ g0)
          have e1 := (hbr.cell (p := ⟨b, i * 4 + 1, none⟩) hbl).trans (hcell1 _ _ g1)
          have e2 := (hbr.cell (p := ⟨b, i * 4 + 2, none⟩) hbl).trans (hcell1 _ _ g2)
          have e3 := (hbr.cell (p := ⟨b, i * 4 + 3, none⟩) hbl).trans (hcell1 _ _ g3)
          have hA : Below wr.heap.size wr (wr.alloc (.cells #[.int .i64 k'.s, .int .i64 k'.p, .bool k'.t, .int .i64 k'.a] 59)) := (Below.refl _ wr).alloc (Nat.le_refl _) _
          have hbx1 := hbx.below hA
          have hnew := KBox.new wr k'
          have HBR := Lib.hid (hbr.alloc (by have := hbr.size; omega) (.cells #[.int .i64 k'.s, .int .i64 k'.p, .bool k'.t, .int .i64 k'.a] 59))
          have hwT := hbx.lt
          clear g0 g1 g2 g3 hA hbx hbr
          go_upto_region 9 with fail
          generalize hw2 : wr.alloc (.cells #[.int .i64 k'.s, .int .i64 k'.p, .bool k'.t, .int .i64 k'.a] 59) = w2 at *
          clear hw2 e0 e1 e2 e3
          have HX := Lib.hid hbx1
          obtain ⟨m0, m1, m2, m3⟩ := hbx1.cells
          obtain ⟨n0, n1, n2, n3⟩ := hnew.cells
          have z0 := hbx1.frozen 0
          have z1 := hbx1.frozen 1
          have z2 := hbx1.frozen 2
          have z3 := hbx1.frozen 3
          have hst : ∀ q, q = older m k' → q = oldest ((k :: l).take (i + 1)) k := by
            rintro q rfl
            rw [take_succ' _ _ _ hk, oldest, List.foldl_append]
            subst hmo
            rfl
          have HS := Lib.hid hst
          clear hbx1 hnew hst hmo
          by_cases hold : m.a < k'.a
          · have ho : older m k' = k' := if_pos hold
            have HO := Lib.hid ho
            clear ho
            go_wp2_with fail
            refine ⟨⟨i + 1, k', hlt, by simp, HS.out _ HO.out.symm, HX.out.put k', ?_⟩, by simp [intOf]; omega⟩
            exact (((HBR.out.setCell (Nat.le_refl _) _).setCell (Nat.le_refl _) _).setCell (Nat.le_refl _) _).setCell (Nat.le_refl _) _
          · have ho : older m k' = m := if_neg hold
            have HO := Lib.hid ho
            clear ho
            go_wp2_with fail
            exact ⟨⟨i + 1, m, hlt, by simp, HS.out _ HO.out.symm, HX.out, HBR.out⟩, by simp [intOf]; omega⟩
        · have hi2 : i = N := by omega
          subst hi2
          obtain ⟨m0, m1, m2, m3⟩ := hbx.cells
          have d0 := (hbr.cell (p := ⟨w.heap.size, 0, none⟩) hBT).trans d0
          have d1 := (hbr.cell (p := ⟨w.heap.size, 1, none⟩) hBT).trans d1
          have f0 := (World.frozen?_of_block (a := ⟨w.heap.size, 0, none⟩) (hbr.block w.heap.size hBT)).trans (hF 0)
          have f1 := (World.frozen?_of_block (a := ⟨w.heap.size, 1, none⟩) (hbr.block w.heap.size hBT)).trans (hF 1)
          have HM := Lib.hid hmo
          have HBR := Lib.hid (HB.out.trans (hbr.mono (Nat.le_of_lt hBT)))
          clear hmo hbr
          go_wp2_with fail
          refine bodyPost_ret (v := .tuple #[.agg #[.int .i64 m.s, .int .i64 m.p], .int .i64 0]) (by simp [results, Try.results21, go_sem, d0, d1]) rfl ⟨?_, ?_⟩
          · have e := HM.out
            rw [← hN, List.take_length] at e
            subst e
            rfl
          · exact (HBR.out.setCell (Nat.le_refl _) _).setCell (Nat.le_refl _) _

end Go.Proofs.Ytehbonhdhblpgaa

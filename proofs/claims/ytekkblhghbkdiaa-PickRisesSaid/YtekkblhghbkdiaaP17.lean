/- Parts of the proofs of layer 6 (pick): contracts of its functions, and the laws' walks. -/
import Derived.Test.YtekkblhghbkdiaaProg
import Derived.WalkKit
import Derived.WalkSpells
import Derived.WalkLawsBesides
import Derived.BigQuiet
import Derived.Deep.QuietTactic
import Derived.Lib.Hide
import Derived.Deep.RegionHeld3
import Derived.Deep.DeepCutAuto
import Derived.KernelRfl
import Derived.Deep.OwnRows
import Derived.Laws.CopyOwn
import Derived.Laws.CopyRow
import Derived.StillTailTactics
import Derived.Deep.RegionLaw
import Derived.Test.YtekkblhghbkdiaaP16
namespace Go.Proofs.Ytekkblhghbkdiaa
open Go.RowKit
set_option linter.unusedVariables false
set_option linter.unusedSimpArgs false

set_option maxHeartbeats 4000000 in
theorem RFirst_any (gg : Nat) (F : List Nat) (L : List E) (w : World) (h : Rt w gg F L) (hm : L.length ≤ 3000) :
    Calls Try.prog 18 #[.pointer (some ⟨gg, 0, none⟩)] w fun e w' => Below w.heap.size w w' ∧ ((L = [] ∧ e = .returned (.tuple #[.agg #[.int .i64 0, .int .i64 0], .int .i64 6])) ∨ ∃ x, IsFst L x ∧ e = .returned (.tuple #[.agg #[.int .i64 x.f, .int .i64 x.w], .int .i64 0])) := by
  have HH := Lib.hid h
  obtain ⟨al, cl, c0, hT, _⟩ := h.cells
  have HT := Lib.hid hT
  by_cases h0 : L = []
  · subst h0
    clear h hT
    have hb1 : Below w.heap.size w (w.alloc (.cells #[.int .i64 0, .int .i64 0] 41)) := (Below.refl _ _).alloc (Nat.le_refl _) _
    have hz := heap_alloc_new w (.cells #[.int .i64 0, .int .i64 0] 41)
    have c0A := cell_keep hb1 c0
    have z0 : (w.alloc (.cells #[.int .i64 0, .int .i64 0] 41)).cell? ⟨w.heap.size, 0, none⟩ = some (.int .i64 0) := cell_of_row _ w.heap.size 0 _ 41 _ hz
    have z1 : (w.alloc (.cells #[.int .i64 0, .int .i64 0] 41)).cell? ⟨w.heap.size, 1, none⟩ = some (.int .i64 0) := cell_of_row _ w.heap.size 1 _ 41 _ hz
    have fz := fun j => frozen_of_row _ w.heap.size j _ 41 hz
    have HB1 := Lib.hid hb1
    clear hb1 hz
    go_enter Try.func18, Try.ntmps18
    go_upto_region 1 with fail
    clear c0
    generalize w.alloc (.cells #[.int .i64 0, .int .i64 0] 41) = w1 at *
    obtain ⟨B, hB⟩ : ∃ B, w.heap.size = B := ⟨_, rfl⟩
    have HBE := Lib.hid hB
    rw [hB] at HB1 z0 z1 fz ⊢
    clear hB
    go_wp2
    refine bodyPost_ret (v := .tuple #[.agg #[.int .i64 0, .int .i64 0], .int .i64 6]) (by simp [results, Try.results18, go_sem, z0, z1]) rfl ?_
    refine ⟨?_, .inl ⟨by first | rfl | trivial, rfl⟩⟩
    rw [HBE.out]
    first | exact HB1.out | (refine Below.setCell ?_ (by simp) _; refine Below.setCell ?_ (by simp) _; exact HB1.out)
  · have hl : 0 < L.length := by cases L with | nil => exact absurd rfl h0 | cons a l => simp
    have hne : ((L.length : Nat) : Int) ≠ 0 := by omega
    have hlI : (0 : Int) < ((L.length : Nat) : Int) := by omega
    have hb1 : Below w.heap.size w (w.alloc (.cells #[.int .i64 0, .int .i64 0] 41)) := (Below.refl _ _).alloc (Nat.le_refl _) _
    have hz := heap_alloc_new w (.cells #[.int .i64 0, .int .i64 0] 41)
    have hs1 : (w.alloc (.cells #[.int .i64 0, .int .i64 0] 41)).heap.size = w.heap.size + 1 := by simp
    clear h hT
    have c0A := cell_keep hb1 c0
    obtain ⟨bl, cl2, hv, _, _, hbl, hcell, _⟩ := (HT.out.below hb1).read h0
    cases hv
    obtain ⟨i0, i1⟩ := hcell 0 _ (get_g hl)
    rw [Nat.zero_mul] at i0 i1
    have HG0 := Lib.hid (show L.take 1 = [g L 0] from by
      cases L with
      | nil => exact absurd rfl h0
      | cons a l => rfl)
    generalize g L 0 = k0 at *
    have HBB1 := Lib.hid (And.intro hb1 (And.intro hz hs1))
    clear hcell hb1 hz hs1
    go_enter Try.func18, Try.ntmps18
    go_upto_region 1 with fail
    clear c0
    generalize w.alloc (.cells #[.int .i64 0, .int .i64 0] 41) = w1 at *
    go_upto_region 4 with fail
    have hb2 : Below w.heap.size w (w1.alloc (.cells #[.int .i64 k0.f, .int .i64 k0.w] 41)) := HBB1.out.1.alloc (by rw [HBB1.out.2.2]; omega) _
    have hz2 : (w1.alloc (.cells #[.int .i64 k0.f, .int .i64 k0.w] 41)).heap[w.heap.size]? = some (.cells #[.int .i64 0, .int .i64 0] 41 (0, 0)) := (((Below.refl w1.heap.size w1).alloc (Nat.le_refl _) _).block _ (by rw [HBB1.out.2.2]; omega)).trans HBB1.out.2.1
    have hz3 := heap_alloc_new w1 (.cells #[.int .i64 k0.f, .int .i64 k0.w] 41)
    have hs2 : (w1.alloc (.cells #[.int .i64 k0.f, .int .i64 k0.w] 41)).heap.size = w.heap.size + 2 := by simp [HBB1.out.2.2]
    rw [HBB1.out.2.2] at hz3 ⊢
    have HC := Lib.hid (And.intro hb2 (And.intro hz2 (And.intro hz3 hs2)))
    clear hb2 hz2 hz3 hs2 c0A i0 i1 hbl HBB1
    generalize (w1.alloc (.cells #[.int .i64 k0.f, .int .i64 k0.w] 41)) = w2 at *
    obtain ⟨B, hB⟩ : ∃ B, w.heap.size = B := ⟨_, rfl⟩
    have HBE := Lib.hid hB
    rw [hB] at HC ⊢
    clear hB
    go_wp2_with fail
    go_loopw [5] (fun s wr => ∃ (i : Nat), 1 ≤ i ∧ i ≤ L.length ∧ s = .int .i64 (i : Nat) ∧ wr.heap[B]? = some (.cells #[.int .i64 0, .int .i64 0] 41 (0, 0)) ∧ ∃ (k : E), wr.heap[B + 1]? = some (.cells #[.int .i64 k.f, .int .i64 k.w] 41 (0, 0)) ∧ B + 2 ≤ wr.heap.size ∧ RowKit.Hid (Below B w wr ∧ IsFst (L.take i) k)) (fun s _ => L.length - (intOf s).toNat)
    case atStart => exact ⟨1, Nat.le_refl _, hl, rfl, HC.out.2.1, k0, HC.out.2.2.1, by rw [HC.out.2.2.2]; exact Nat.le_refl _, Lib.hid ⟨HC.out.1, by rw [HG0.out]; exact ⟨by simp, fun e he => by simp at he; subst he; exact le_refl _⟩⟩⟩
    case round =>
      obtain ⟨i, h1i, hi, rfl, hzB, k, hzK, hsz, HL⟩ := hrel
      have hbw : Below w.heap.size w wr := by rw [HBE.out]; exact HL.out.1
      obtain ⟨al', cl', c0w, hT', _⟩ := HH.out.cells
      have c0 := cell_keep hbw c0w
      have HB := Lib.hid hbw
      by_cases hil : i < L.length
      · obtain ⟨bl', cl3, hv, _, _, hbl, hcell, _⟩ := (hT'.below hbw).read (ne_nil_of_lt hil)
        cases hv
        have hk := List.getElem?_eq_getElem hil
        generalize L[i] = x at hk
        obtain ⟨e0, e1⟩ := hcell i _ hk
        have hiI : ((i : Nat) : Int) < ((L.length : Nat) : Int) := by omega
        have HTK := Lib.hid (take_succ' L i _ hk)
        have hA : Below wr.heap.size wr (wr.alloc (.cells #[.int .i64 x.f, .int .i64 x.w] 41)) := (Below.refl _ _).alloc (Nat.le_refl _) _
        have y1 := (hA.block B (by omega)).trans hzB
        have y2 := (hA.block (B + 1) (by omega)).trans hzK
        have y3 := heap_alloc_new wr (.cells #[.int .i64 x.f, .int .i64 x.w] 41)
        have HBB := Lib.hid (HL.out.1.trans (hA.mono (by omega)))
        have HX2 := Lib.hid (And.intro (show B + 2 ≤ (wr.alloc (.cells #[.int .i64 x.f, .int .i64 x.w] 41)).heap.size from by simp; omega) (And.intro y1 y2))
        clear hcell hk hbl hbw c0w hT' hA y1 hzB hzK
        go_upto_region 8 with fail
        have k0 : (wr.alloc (.cells #[.int .i64 x.f, .int .i64 x.w] 41)).cell? ⟨B + 1, 0, none⟩ = some (.int .i64 k.f) := cell_of_row _ (B + 1) 0 _ 41 _ y2
        have k1 : (wr.alloc (.cells #[.int .i64 x.f, .int .i64 x.w] 41)).cell? ⟨B + 1, 1, none⟩ = some (.int .i64 k.w) := cell_of_row _ (B + 1) 1 _ 41 _ y2
        have x0 : (wr.alloc (.cells #[.int .i64 x.f, .int .i64 x.w] 41)).cell? ⟨wr.heap.size, 0, none⟩ = some (.int .i64 x.f) := cell_of_row _ wr.heap.size 0 _ 41 _ y3
        have x1 : (wr.alloc (.cells #[.int .i64 x.f, .int .i64 x.w] 41)).cell? ⟨wr.heap.size, 1, none⟩ = some (.int .i64 x.w) := cell_of_row _ wr.heap.size 1 _ 41 _ y3
        have fz := fun j => frozen_of_row _ (B + 1) j _ 41 y2
        clear y2 y3 e0 e1 c0
        generalize (wr.alloc (.cells #[.int .i64 x.f, .int .i64 x.w] 41)) = w2 at *
        generalize wr.heap.size = C at *
        by_cases m1 : x.w < k.w
        · have HLT := Lib.hid (show lt x k from .inl m1)
          go_wp2_with fail
          have q1 := heap_setCell_same w2 (B + 1) 0 _ 41 (.int .i64 x.f) HX2.out.2.2
          have q2 := heap_setCell_same (w2.setCell ⟨B + 1, 0, none⟩ (.int .i64 x.f)) (B + 1) 1 _ 41 (.int .i64 x.w) (q1.trans rfl)
          have q3 : ((w2.setCell ⟨B + 1, 0, none⟩ (.int .i64 x.f)).setCell ⟨B + 1, 1, none⟩ (.int .i64 x.w)).heap[B]? = some (.cells #[.int .i64 0, .int .i64 0] 41 (0, 0)) :=
            (Below.heap_setCell _ _ _ _ (fun e => by simp at e)).trans ((Below.heap_setCell _ _ _ _ (fun e => by simp at e)).trans HX2.out.2.1)
          refine ⟨⟨i + 1, by omega, hil, by simp, q3, x, q2.trans rfl, by simp; exact HX2.out.1, Lib.hid ⟨?_, ?_⟩⟩, by simp [intOf]; omega⟩
          · iterate 2 (with_reducible refine Below.setCell ?_ (by simp) _)
            exact HBB.out
          · rw [HTK.out]
            exact ⟨List.mem_append_right _ (by simp), fun e he => by
              rcases List.mem_append.1 he with he | he
              · exact le_trans (le_of_lt HLT.out) (HL.out.2.2 e he)
              · simp at he; subst he; exact le_refl _⟩
        · by_cases m2 : x.w = k.w
          · by_cases m3 : x.f < k.f
            · have HLT := Lib.hid (show lt x k from .inr ⟨m2, m3⟩)
              go_wp2_with fail
              rw [← m2]
              have q1 := heap_setCell_same w2 (B + 1) 0 _ 41 (.int .i64 x.f) HX2.out.2.2
              have q2 := heap_setCell_same (w2.setCell ⟨B + 1, 0, none⟩ (.int .i64 x.f)) (B + 1) 1 _ 41 (.int .i64 x.w) (q1.trans rfl)
              have q3 : ((w2.setCell ⟨B + 1, 0, none⟩ (.int .i64 x.f)).setCell ⟨B + 1, 1, none⟩ (.int .i64 x.w)).heap[B]? = some (.cells #[.int .i64 0, .int .i64 0] 41 (0, 0)) :=
                (Below.heap_setCell _ _ _ _ (fun e => by simp at e)).trans ((Below.heap_setCell _ _ _ _ (fun e => by simp at e)).trans HX2.out.2.1)
              refine ⟨⟨i + 1, by omega, hil, by simp, q3, x, q2.trans rfl, by simp; exact HX2.out.1, Lib.hid ⟨?_, ?_⟩⟩, by simp [intOf]; omega⟩
              · iterate 2 (with_reducible refine Below.setCell ?_ (by simp) _)
                exact HBB.out
              · rw [HTK.out]
                exact ⟨List.mem_append_right _ (by simp), fun e he => by
                  rcases List.mem_append.1 he with he | he
                  · exact le_trans (le_of_lt HLT.out) (HL.out.2.2 e he)
                  · simp at he; subst he; exact le_refl _⟩
            · have HLT := Lib.hid (show le k x from fun h => by unfold lt at h; omega)
              go_wp2_with fail
              refine ⟨⟨i + 1, by omega, hil, by simp, HX2.out.2.1, k, HX2.out.2.2, HX2.out.1, Lib.hid ⟨HBB.out, ?_⟩⟩, by simp [intOf]; omega⟩
              rw [HTK.out]
              exact ⟨List.mem_append_left _ HL.out.2.1, fun e he => by
                rcases List.mem_append.1 he with he | he
                · exact HL.out.2.2 e he
                · simp at he; subst he; exact HLT.out⟩
          · have HLT := Lib.hid (show le k x from fun h => by unfold lt at h; omega)
            go_wp2_with fail
            refine ⟨⟨i + 1, by omega, hil, by simp, HX2.out.2.1, k, HX2.out.2.2, HX2.out.1, Lib.hid ⟨HBB.out, ?_⟩⟩, by simp [intOf]; omega⟩
            rw [HTK.out]
            exact ⟨List.mem_append_left _ HL.out.2.1, fun e he => by
              rcases List.mem_append.1 he with he | he
              · exact HL.out.2.2 e he
              · simp at he; subst he; exact HLT.out⟩
      · have hil2 : i = L.length := by omega
        have hlo2 := HL.out.2
        rw [hil2, List.take_length] at hlo2
        have HX := Lib.hid hlo2
        have k0 : wr.cell? ⟨B + 1, 0, none⟩ = some (.int .i64 k.f) := cell_of_row wr (B + 1) 0 _ 41 _ hzK
        have k1 : wr.cell? ⟨B + 1, 1, none⟩ = some (.int .i64 k.w) := cell_of_row wr (B + 1) 1 _ 41 _ hzK
        have z0 : wr.cell? ⟨B, 0, none⟩ = some (.int .i64 0) := cell_of_row wr B 0 _ 41 _ hzB
        have z1 : wr.cell? ⟨B, 1, none⟩ = some (.int .i64 0) := cell_of_row wr B 1 _ 41 _ hzB
        have fz := fun j => frozen_of_row wr B j _ 41 hzB
        clear hlo2 c0w hbw hT' hzB hzK
        go_wp2
        refine bodyPost_ret (v := .tuple #[.agg #[.int .i64 k.f, .int .i64 k.w], .int .i64 0]) (by simp [results, Try.results18, go_sem, k0, k1, z0, z1]) rfl ⟨?_, .inr ⟨k, HX.out, rfl⟩⟩
        iterate 2 (with_reducible refine Below.setCell ?_ (by simp [HBE.out]) _)
        exact HB.out

end Go.Proofs.Ytekkblhghbkdiaa

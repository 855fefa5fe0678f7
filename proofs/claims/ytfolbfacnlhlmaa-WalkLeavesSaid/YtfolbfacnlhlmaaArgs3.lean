/- A struct of a number, a slice and two numbers, as an argument. -/
import Derived.Test.YtfolbfacnlhlmaaArgs2
namespace Go.Proofs.Ytfolbfacnlhlmaa
open Go.ChangeShapes Go.WideShapes Go.ChangeAt Go.RowKit
theorem open_rows_at {P : Program} {w : World} {base : Nat} {spare : Nat → Bool} {held : Bool} {H : Type} {enc : TypeId × Value → H} {t e : TypeId} {ks : List Flat.LK} {fuel : Nat} {cs : List Value} {x : DataW H × List MemPlace}
    (hl : Flat.Leafs P e ks) (hk : 0 < ks.length) (hu : P.underlying t = some (.slice e)) (hf : DataW.trod enc P w base spare held fuel t cs = some x) :
    ∃ ao len cap rows, cs = [.slice ao len cap] ∧ len ≤ cap ∧ cap ≤ maxLen ∧ Flat.Rows w ks ao len rows := by
  rcases Go.Deep.open_slice hu hf with ⟨rfl, _⟩ | ⟨a, len, cap, m, n, D, Pl, rfl, _, hlc, hm, hmm, _, hx⟩
  · exact ⟨none, 0, 0, fun _ => [], rfl, Nat.le_refl _, Nat.zero_le _, fun i hi => absurd hi (by omega)⟩
  · have hlen : len ≤ m := by rw [hmm]; split <;> omega
    refine ⟨some a, len, cap, fun i => ((w.cells? base (a.add (i * P.cellsOf e)) (P.cellsOf e)).getD []), rfl, hlc, hm, fun i hi => ?_⟩
    obtain ⟨cs', hc1, hc2⟩ := hx i (by omega)
    have hall := hl.2 enc w base spare held n cs' _ hc2
    have hlen' := hall.length
    dsimp only
    rw [hc1]
    simp only [Option.getD_some]
    refine ⟨hall, ?_⟩
    have hcell : ∀ j v, cs'[j]? = some v → w.cell? (a.add (i * ks.length + j)) = some v := by
      intro j v hv
      have hj : j < ks.length := by rw [← hlen']; exact (List.getElem?_eq_some_iff.1 hv).1
      unfold World.cells? at hc1
      split at hc1
      · have h3 := (Flat.mapM_get hc1).2 j j v (by rw [List.getElem?_range (by rw [hl.1]; exact hj)]) hv
        rw [← Flat.add_add, ← hl.1]
        exact h3
      · cases hc1
    have hsp : a.spot = none := by
      obtain ⟨cs0, h01, h02⟩ := hx 0 (by omega)
      have ha0 := (hl.2 enc w base spare held n cs0 _ h02).length
      unfold World.cells? at h01
      split at h01
      · obtain ⟨v0, hv0⟩ : ∃ v0, cs0[0]? = some v0 := ⟨cs0[0]'(by omega), List.getElem?_eq_getElem (by omega)⟩
        have h3 := (Flat.mapM_get h01).2 0 0 v0 (by rw [List.getElem?_range (by rw [hl.1]; exact hk)]) hv0
        simp [Addr.add, World.cell?] at h3
        cases hs : a.spot with
        | none => rfl
        | some s => simp [hs] at h3; split at h3 <;> simp at h3
      · cases h01
    refine ⟨a.block, a.off, by cases a; simp at hsp; subst hsp; rfl, fun j v hv => ?_⟩
    have h4 := hcell j v hv
    have h5 : a.add (i * ks.length + j) = ⟨a.block, a.off + (i * ks.length + j), none⟩ := by
      unfold Addr.add
      split
      · rename_i h0
        cases a
        simp at hsp
        subst hsp
        simp [h0]
      · rfl
    rw [← h5]
    exact h4
theorem case_in {w W : World} {r : Reach} {base b0 : Nat} {spare : Nat → Bool} {held : Bool} {H : Type} {enc : TypeId × Value → H} {v : Value} {d : DataW H} {p : List MemPlace}
    (hv : Value.okWide Try.prog W r b0 39 v) (h : DataW.Trod enc Try.prog w base spare held 39 v d p) :
    ∃ (fr : Int) (ao : Option Addr) (len cap : Nat) (z : Nat → LD) (root page : Int), v = .agg #[.int .i64 fr, .slice ao len cap, .int .i64 root, .int .i64 page] ∧ len ≤ cap ∧ cap ≤ maxLen ∧ Lds w ao len z ∧ (Lit.int .i64 page).wf = true := by
  obtain ⟨fuel, hf⟩ := h
  have hcs : ∃ cs, v = .agg cs := by
    unfold Value.okWide at hv
    rw [Try.underlying39] at hv
    obtain ⟨cs, h, _⟩ := hv
    exact ⟨cs, h⟩
  obtain ⟨⟨cs⟩, rfl⟩ := hcs
  obtain ⟨xs, n, _, _, hl, hn, ht⟩ := DataW.trod_struct Try.underlying39 hf
  replace hl : cs.length = Try.prog.cellsOf 39 := hl
  rw [show Try.prog.cellsOf 39 = 4 by kernel_rfl] at hl
  obtain ⟨c0, c1, c2, c3, rfl⟩ : ∃ c0 c1 c2 c3, cs = [c0, c1, c2, c3] := by
    match cs, hl with
    | [c0, c1, c2, c3], _ => exact ⟨c0, c1, c2, c3, rfl⟩
  have hn4 : xs.length = 4 := hn
  have t0 := (ht 0 { name := "Frames", type := 3, offset := 0, embedded := false, tag := "", pkgPath := "", byteOffset := 0 } rfl).trans (List.getElem?_eq_getElem (show 0 < xs.length by omega))
  have t1 := (ht 1 { name := "L", type := 22, offset := 1, embedded := false, tag := "", pkgPath := "", byteOffset := 8 } rfl).trans (List.getElem?_eq_getElem (show 1 < xs.length by omega))
  have t2 := (ht 2 { name := "Root", type := 3, offset := 2, embedded := false, tag := "", pkgPath := "", byteOffset := 32 } rfl).trans (List.getElem?_eq_getElem (show 2 < xs.length by omega))
  have t3 := (ht 3 { name := "Page", type := 3, offset := 3, embedded := false, tag := "", pkgPath := "", byteOffset := 40 } rfl).trans (List.getElem?_eq_getElem (show 3 < xs.length by omega))
  replace t0 : ∃ y, DataW.trod enc Try.prog w base spare held n 3 (([c0, c1, c2, c3].drop 0).take (Try.prog.cellsOf 3)) = some y := ⟨_, t0⟩
  rw [show Try.prog.cellsOf 3 = 1 by kernel_rfl] at t0
  replace t0 : ∃ y, DataW.trod enc Try.prog w base spare held n 3 [c0] = some y := t0
  obtain ⟨y0, t0⟩ := t0
  replace t1 : ∃ y, DataW.trod enc Try.prog w base spare held n 22 (([c0, c1, c2, c3].drop 1).take (Try.prog.cellsOf 22)) = some y := ⟨_, t1⟩
  rw [show Try.prog.cellsOf 22 = 1 by kernel_rfl] at t1
  replace t1 : ∃ y, DataW.trod enc Try.prog w base spare held n 22 [c1] = some y := t1
  obtain ⟨y1, t1⟩ := t1
  replace t2 : ∃ y, DataW.trod enc Try.prog w base spare held n 3 (([c0, c1, c2, c3].drop 2).take (Try.prog.cellsOf 3)) = some y := ⟨_, t2⟩
  rw [show Try.prog.cellsOf 3 = 1 by kernel_rfl] at t2
  replace t2 : ∃ y, DataW.trod enc Try.prog w base spare held n 3 [c2] = some y := t2
  obtain ⟨y2, t2⟩ := t2
  replace t3 : ∃ y, DataW.trod enc Try.prog w base spare held n 3 (([c0, c1, c2, c3].drop 3).take (Try.prog.cellsOf 3)) = some y := ⟨_, t3⟩
  rw [show Try.prog.cellsOf 3 = 1 by kernel_rfl] at t3
  replace t3 : ∃ y, DataW.trod enc Try.prog w base spare held n 3 [c3] = some y := t3
  obtain ⟨y3, t3⟩ := t3
  obtain ⟨ao, len, cap, rows, e, q1, q2, q3⟩ := open_rows_at laid_leafs (by decide) Try.underlying22 t1
  obtain ⟨x0, e0, _, w0⟩ := DataW.trod_int Try.underlying3 t0
  obtain ⟨x2, e2, _, w2⟩ := DataW.trod_int Try.underlying3 t2
  obtain ⟨x3, e3, _, w3⟩ := DataW.trod_int Try.underlying3 t3
  cases e
  cases e0
  cases e2
  cases e3
  obtain ⟨z, hz⟩ := lds_in q3
  exact ⟨x0, ao, len, cap, z, x2, x3, rfl, q1, q2, hz, w3⟩
end Go.Proofs.Ytfolbfacnlhlmaa

/- Numbers, and a slice of numbers, as arguments. -/
import Derived.Test.YtnpcpgjaffpnjaaFlat
import Derived.Test.YtnpcpgjaffpnjaaSl
import Derived.Test.YtnpcpgjaffpnjaaProg
import Derived.KernelRfl
namespace Go.Proofs.Ytnpcpgjaffpnjaa
open Go.ChangeShapes Go.WideShapes Go.ChangeAt Go.RowKit
theorem int_leafs : Flat.Leafs Try.prog 3 [.i .i64] := Flat.leafs_int Try.underlying3 (by kernel_rfl)
theorem u8_bounds {x : Int} (h : (Lit.int .u8 x).wf = true) : 0 ≤ x ∧ x ≤ 255 := by
  have hmin : IntKind.u8.min = 0 := rfl
  have hmax : IntKind.u8.max = 255 := rfl
  simp only [Lit.wf, Bool.and_eq_true, decide_eq_true_eq] at h
  omega
/-- A slice of numbers that came in: what its elements are. -/
theorem ints_in {w : World} {ao : Option Addr} {len cap : Nat} {rows : Nat → List Value} (h : Flat.Rows w [.i .i64] ao len rows) (hl : len ≤ cap) (hc : cap ≤ maxLen) :
    ∃ zs : List Int, zs.length = len ∧ RI w (.slice ao len cap) zs ∧ ∀ z ∈ zs, (Lit.int .i64 z).wf = true := by
  refine ⟨(List.range len).map fun i => Flat.iv ((rows i).getD 0 (.bool false)), by simp, ?_, ?_⟩
  · have hlen : ((List.range len).map fun i => Flat.iv ((rows i).getD 0 (.bool false))).length = len := by simp
    refine ⟨by rw [nm_length, Nat.mul_one], ao, cap, by rw [hlen], by rw [hlen]; exact hl, hc, fun j u hj => ?_⟩
    have hj' : j < len := by rw [← hlen, ← nm_length]; exact (List.getElem?_eq_some_iff.1 hj).1
    obtain ⟨hall, b, o, e, hcell⟩ := h j hj'
    obtain ⟨z, hz, hw⟩ : ∃ z, rows j = [.int .i64 z] ∧ (Lit.int .i64 z).wf = true := by
      revert hall
      cases rows j with
      | nil => exact fun h => h.elim
      | cons c cs =>
        intro h
        obtain ⟨⟨z, rfl, hw⟩, h⟩ := h
        cases cs with
        | nil => exact ⟨z, rfl, hw⟩
        | cons c cs => exact h.elim
    refine ⟨b, o, e, ?_⟩
    rw [nm_get _ j (by rw [hlen]; exact hj')] at hj
    have hz2 : ((List.range len).map fun i => Flat.iv ((rows i).getD 0 (.bool false))).getD j 0 = z := by
      simp [hj', hz, Flat.iv]
    rw [hz2] at hj
    injection hj with hj
    subst hj
    have h3 := hcell 0 (.int .i64 z) (by rw [hz]; rfl)
    simpa using h3
  · intro z hz
    simp only [List.mem_map, List.mem_range] at hz
    obtain ⟨i, hi, rfl⟩ := hz
    obtain ⟨hall, _⟩ := h i hi
    revert hall
    cases rows i with
    | nil => exact fun h => h.elim
    | cons c cs =>
      intro h
      obtain ⟨⟨z, rfl, hw⟩, h⟩ := h
      exact hw
end Go.Proofs.Ytnpcpgjaffpnjaa

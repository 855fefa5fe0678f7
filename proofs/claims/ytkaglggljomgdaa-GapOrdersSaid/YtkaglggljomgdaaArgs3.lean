/- Bounds of a number of one byte. -/
import Derived.Test.YtkaglggljomgdaaArgs2
namespace Go.Proofs.Ytkaglggljomgdaa
theorem u8_bounds {x : Int} (h : (Lit.int .u8 x).wf = true) : 0 ≤ x ∧ x ≤ 255 := by
  have hmin : IntKind.u8.min = 0 := rfl
  have hmax : IntKind.u8.max = 255 := rfl
  simp only [Lit.wf, Bool.and_eq_true, decide_eq_true_eq] at h
  omega
end Go.Proofs.Ytkaglggljomgdaa

/- Bounds of an argument. -/
import Derived.Test.YtdnnfoojdfmajaaArgs2
namespace Go.Proofs.Ytdnnfoojdfmajaa
open Go.ChangeShapes Go.WideShapes Go.ChangeAt Go.RowKit
theorem i64_bounds {x : Int} (h : (Lit.int .i64 x).wf = true) : -9223372036854775808 ≤ x ∧ x < 9223372036854775808 := by
  have hmin : IntKind.i64.min = -9223372036854775808 := rfl
  have hmax : IntKind.i64.max = 9223372036854775807 := rfl
  simp only [Lit.wf, Bool.and_eq_true, decide_eq_true_eq] at h
  omega
end Go.Proofs.Ytdnnfoojdfmajaa

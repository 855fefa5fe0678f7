/- Parts of the proofs of layer 7 (walk): contracts of its functions, and the laws' walks. -/
import Derived.Test.YtfolbfacnlhlmaaProg
import Derived.WalkKit
import Derived.WalkSpells
import Derived.WalkLawsBesides
import Derived.BigQuiet
import Derived.Deep.QuietTactic
import Derived.Lib.Hide
import Derived.Deep.RegionHeld3
import Derived.Deep.DeepCutAuto
import Derived.KernelRfl
import Derived.Deep.OwnRows
import Derived.Laws.CopyOwn
import Derived.Laws.CopyRow
import Derived.StillTailTactics
import Derived.Deep.RegionLaw
import Derived.Test.YtfolbfacnlhlmaaE0
namespace Go.Proofs.Ytfolbfacnlhlmaa
open Go.RowKit
set_option linter.unusedVariables false
set_option linter.unusedSimpArgs false
namespace E

set_option maxHeartbeats 1000000 in
theorem check_any (fr : Int) (p wr hu he us di : Bool) (w : World) :
    Calls Try.prog 36 #[.agg #[.int .i64 fr, .bool p, .bool wr, .bool hu, .bool he, .bool us, .bool di]] w fun e w' => e = .returned (.int .i64 (chk fr p wr hu he us di)) ∧ Below w.heap.size w w' := by
  go_enter Try.func36, Try.ntmps36
  go_wp2
  all_goals
    go_ret
    exact ⟨by first | (simp [chk, *]; done) | (simp [chk, *]; omega) | (exfalso; simp_all; done), (Below.refl _ _).alloc (Nat.le_refl _) _⟩
def may (fr : Int) (p wr hu he us di : Bool) : Bool := if p = true then !he else if he = true then (!hu && !wr) else (fr == 0 && !wr && !hu && !us && !di)
set_option maxHeartbeats 1000000 in
theorem may_any (fr : Int) (p wr hu he us di : Bool) (w : World) :
    Calls Try.prog 41 #[.agg #[.int .i64 fr, .bool p, .bool wr, .bool hu, .bool he, .bool us, .bool di]] w fun e w' => e = .returned (.bool (may fr p wr hu he us di)) ∧ Below w.heap.size w w' := by
  go_enter Try.func41, Try.ntmps41
  go_wp2
  all_goals
    go_ret
    exact ⟨by first | (simp [may, *]; done) | (exfalso; simp_all; done), (Below.refl _ _).alloc (Nat.le_refl _) _⟩

end E
end Go.Proofs.Ytfolbfacnlhlmaa

/- Parts of the proofs of layer 7 (walk): contracts of its functions, and the laws' walks. -/
import Derived.Test.YtfolbfacnlhlmaaProg
import Derived.WalkKit
import Derived.WalkSpells
import Derived.WalkLawsBesides
import Derived.BigQuiet
import Derived.Deep.QuietTactic
import Derived.Lib.Hide
import Derived.Deep.RegionHeld3
import Derived.Deep.DeepCutAuto
import Derived.KernelRfl
import Derived.Deep.OwnRows
import Derived.Laws.CopyOwn
import Derived.Laws.CopyRow
import Derived.StillTailTactics
import Derived.Deep.RegionLaw
import Derived.Test.YtfolbfacnlhlmaaE4
namespace Go.Proofs.Ytfolbfacnlhlmaa
open Go.RowKit
set_option linter.unusedVariables false
set_option linter.unusedSimpArgs false
namespace E

/-- The entry that a word's bits tell. -/
def unc (x : Int) : Int := chk (x / 4096) (tb x 0) (tb x 1) (tb x 7) (tb x 9) (tb x 5) (tb x 6)
def unw (x : Int) : Int := pkw (x / 4096) (tb x 0) (tb x 1) (tb x 7) (tb x 9) (tb x 5) (tb x 6)
def unok (x : Int) : Bool := decide (x / 4096 < 1048576) && (unc x == 0) && (unw x == x)
def une (x : Int) : Int := if unok x = true then 0 else 5
def une0 (x : Int) : Int := if unok x = true then x / 4096 else 0
def unb (x k : Int) : Bool := unok x && tb x k
def unEnt (x : Int) : Value := .agg #[.int .i64 (une0 x), .bool (unb x 0), .bool (unb x 1), .bool (unb x 7), .bool (unb x 9), .bool (unb x 5), .bool (unb x 6)]
theorem un_ok {x : Int} (h : x / 4096 < 1048576) (hc : unc x = 0) (hv : unw x = x) : unok x = true := by simp [unok, h, hc, hv]
theorem un_no1 {x : Int} (h : ¬ x / 4096 < 1048576) : unok x = false := by simp only [unok, decide_eq_false h, Bool.false_and]
theorem un_no2 {x : Int} (hc : ¬ unc x = 0) : unok x = false := by simp [unok, hc]
theorem un_no3 {x : Int} (hv : ¬ unw x = x) : unok x = false := by simp [unok, hv]
theorem ent_yes {x : Int} (h : unok x = true) : unEnt x = .agg #[.int .i64 (x / 4096), .bool (tb x 0), .bool (tb x 1), .bool (tb x 7), .bool (tb x 9), .bool (tb x 5), .bool (tb x 6)] := by simp [unEnt, une0, unb, h]
theorem ent_no {x : Int} (h : unok x = false) : unEnt x = .agg #[.int .i64 0, .bool false, .bool false, .bool false, .bool false, .bool false, .bool false] := by simp [unEnt, une0, unb, h]
theorem une_yes {x : Int} (h : unok x = true) : une x = 0 := by simp [une, h]
theorem une_no {x : Int} (h : unok x = false) : une x = 5 := by simp [une, h]

end E
end Go.Proofs.Ytfolbfacnlhlmaa

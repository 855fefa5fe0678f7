/-
  No cell of these rows narrows 'for every input' (looked for: loops, veiled, ifaces, maps, wideKeys, modest, calm, conditions, laid).
  DERIVED. THE GIVEN ROWS OF THIS SEAT. 6 by the template 'for every input the law returns true; each argument reads behind the call as it read before'; 0 by the template 'total and deterministic' (their statements: YtekkblhghbkdiaaTotals.lean).
  GIVEN WITH THE SEED: the statements are not yours to turn. If you find one false, say at which input.
  Laid BY PROGRAM, IN A SANDBOX (cutbox-rows.mjs): the forced cells as the released guide's own fill.sh prints them over the translation 6feb7bde2794d4a7… (all of the seat's roots in one cut). By AI agents, Wed Nov 11 2026. No macro, syntax, notation, axiom, sorry.
-/
import Derived.Test.YtekkblhghbkdiaaChecked
import GoSem.Claim
import GoSem.ClaimJoined
import GoSem.ClaimMapViews
import Derived.JoinedTies
import Derived.KernelRfl
namespace Go.Proofs.Ytekkblhghbkdiaa
/- THE CELL 'sum', in the pinned program and in every row, IS THE sha256 OF THE DUMP (.gsa) THAT YtekkblhghbkdiaaProg.lean LOADS. Nothing in Lean hashes anything: it is a label: what it is worth is what the hold of that sum in a sandbox is worth. -/
noncomputable def Try.pinned : Pinned := { name := "ytekkblhghbkdiaa", sum := "6feb7bde2794d4a761ff07aa3ccfad0f39ea11b1c2982b5643e82392c9d14fcf", checked := Try.checked }
namespace Rows
def none {H : Type} : Left H := { results := [], args := [] }

/-- 'pantilelaw06.PickRises': WHATEVER THE INPUT: true; the input reads as it did. -/
def pickRisesSpec : ChangeSpec := { name := "pickRises", fn := fun _ => fun
  | [d] => { results := [.lit (.bool true)], args := [d] }
  | _ => none }
def pickRisesRow : OpenClaim := { program := "ytekkblhghbkdiaa", sum := "6feb7bde2794d4a761ff07aa3ccfad0f39ea11b1c2982b5643e82392c9d14fcf", func := "pantile/pantilelaw06.PickRises", spec := "pickRises", unfollowed := true, recurses := true, apart := false }
def PickRisesSaid : Prop := pickRisesRow.holds Try.pinned (OpenSpec.ofChange pickRisesSpec)

/-- ITS FALSE NEIGHBOUR: 'it returns false'. Refute it at one input. -/
def pickRisesWrong : ChangeSpec := { name := "pickRises", fn := fun _ => fun
  | [d] => { results := [.lit (.bool false)], args := [d] }
  | _ => none }
def PickRisesWrongFalsely : Prop := pickRisesRow.holds Try.pinned (OpenSpec.ofChange pickRisesWrong)

/-- 'pantilelaw06.PickOrders': WHATEVER THE INPUT: true; the input reads as it did. -/
def pickOrdersSpec : ChangeSpec := { name := "pickOrders", fn := fun _ => fun
  | [d1, d2] => { results := [.lit (.bool true)], args := [d1, d2] }
  | _ => none }
def pickOrdersRow : OpenClaim := { program := "ytekkblhghbkdiaa", sum := "6feb7bde2794d4a761ff07aa3ccfad0f39ea11b1c2982b5643e82392c9d14fcf", func := "pantile/pantilelaw06.PickOrders", spec := "pickOrders", unfollowed := true, recurses := true, apart := false }
def PickOrdersSaid : Prop := pickOrdersRow.holds Try.pinned (OpenSpec.ofChange pickOrdersSpec)

/-- ITS FALSE NEIGHBOUR: 'it returns false'. Refute it at one input. -/
def pickOrdersWrong : ChangeSpec := { name := "pickOrders", fn := fun _ => fun
  | [d1, d2] => { results := [.lit (.bool false)], args := [d1, d2] }
  | _ => none }
def PickOrdersWrongFalsely : Prop := pickOrdersRow.holds Try.pinned (OpenSpec.ofChange pickOrdersWrong)

/-- 'pantilelaw06.PickDrops': WHATEVER THE INPUT: true; the input reads as it did. -/
def pickDropsSpec : ChangeSpec := { name := "pickDrops", fn := fun _ => fun
  | [d1, d2] => { results := [.lit (.bool true)], args := [d1, d2] }
  | _ => none }
def pickDropsRow : OpenClaim := { program := "ytekkblhghbkdiaa", sum := "6feb7bde2794d4a761ff07aa3ccfad0f39ea11b1c2982b5643e82392c9d14fcf", func := "pantile/pantilelaw06.PickDrops", spec := "pickDrops", unfollowed := true, recurses := true, apart := false }
def PickDropsSaid : Prop := pickDropsRow.holds Try.pinned (OpenSpec.ofChange pickDropsSpec)

/-- ITS FALSE NEIGHBOUR: 'it returns false'. Refute it at one input. -/
def pickDropsWrong : ChangeSpec := { name := "pickDrops", fn := fun _ => fun
  | [d1, d2] => { results := [.lit (.bool false)], args := [d1, d2] }
  | _ => none }
def PickDropsWrongFalsely : Prop := pickDropsRow.holds Try.pinned (OpenSpec.ofChange pickDropsWrong)

/-- 'pantilelaw06.PickDoes': WHATEVER THE INPUT: true; the input reads as it did. -/
def pickDoesSpec : ChangeSpec := { name := "pickDoes", fn := fun _ => fun
  | [d] => { results := [.lit (.bool true)], args := [d] }
  | _ => none }
def pickDoesRow : OpenClaim := { program := "ytekkblhghbkdiaa", sum := "6feb7bde2794d4a761ff07aa3ccfad0f39ea11b1c2982b5643e82392c9d14fcf", func := "pantile/pantilelaw06.PickDoes", spec := "pickDoes", unfollowed := true, recurses := true, apart := false }
def PickDoesSaid : Prop := pickDoesRow.holds Try.pinned (OpenSpec.ofChange pickDoesSpec)

/-- ITS FALSE NEIGHBOUR: 'it returns false'. Refute it at one input. -/
def pickDoesWrong : ChangeSpec := { name := "pickDoes", fn := fun _ => fun
  | [d] => { results := [.lit (.bool false)], args := [d] }
  | _ => none }
def PickDoesWrongFalsely : Prop := pickDoesRow.holds Try.pinned (OpenSpec.ofChange pickDoesWrong)

/-- 'pantilelaw06.PickNone': WHATEVER THE INPUT: true; the input reads as it did. -/
def pickNoneSpec : ChangeSpec := { name := "pickNone", fn := fun _ => fun
  | [d] => { results := [.lit (.bool true)], args := [d] }
  | _ => none }
def pickNoneRow : OpenClaim := { program := "ytekkblhghbkdiaa", sum := "6feb7bde2794d4a761ff07aa3ccfad0f39ea11b1c2982b5643e82392c9d14fcf", func := "pantile/pantilelaw06.PickNone", spec := "pickNone", unfollowed := true, recurses := true, apart := false }
def PickNoneSaid : Prop := pickNoneRow.holds Try.pinned (OpenSpec.ofChange pickNoneSpec)

/-- ITS FALSE NEIGHBOUR: 'it returns false'. Refute it at one input. -/
def pickNoneWrong : ChangeSpec := { name := "pickNone", fn := fun _ => fun
  | [d] => { results := [.lit (.bool false)], args := [d] }
  | _ => none }
def PickNoneWrongFalsely : Prop := pickNoneRow.holds Try.pinned (OpenSpec.ofChange pickNoneWrong)

/-- 'pantilelaw06.PickLeast': WHATEVER THE INPUT: true; the input reads as it did. -/
def pickLeastSpec : ChangeSpec := { name := "pickLeast", fn := fun _ => fun
  | [d] => { results := [.lit (.bool true)], args := [d] }
  | _ => none }
def pickLeastRow : OpenClaim := { program := "ytekkblhghbkdiaa", sum := "6feb7bde2794d4a761ff07aa3ccfad0f39ea11b1c2982b5643e82392c9d14fcf", func := "pantile/pantilelaw06.PickLeast", spec := "pickLeast", unfollowed := true, recurses := true, apart := false }
def PickLeastSaid : Prop := pickLeastRow.holds Try.pinned (OpenSpec.ofChange pickLeastSpec)

/-- ITS FALSE NEIGHBOUR: 'it returns false'. Refute it at one input. -/
def pickLeastWrong : ChangeSpec := { name := "pickLeast", fn := fun _ => fun
  | [d] => { results := [.lit (.bool false)], args := [d] }
  | _ => none }
def PickLeastWrongFalsely : Prop := pickLeastRow.holds Try.pinned (OpenSpec.ofChange pickLeastWrong)

/- THE SECOND FORM. 'bulk': how many values and letters a reading holds, each counted each time it is reached (what is shared counts as often as it is met; a slice's spare places count too). A statement '..UptoSaid' is the law's where the arguments, and the package variables that the reading takes, are together of bulk at most 1048576: NARROWER than '..Said'. Prove '..Said' where nothing that the law and all that it calls make is longer than what came in: it says more and counts as full. Else prove '..UptoSaid'. A law counts once. -/
mutual
def uptoBulk {H : Type} : DataW H → Nat
  | .lit (.string bytes) => bytes.length + 1
  | .lit _ => 1
  | .nil => 1
  | .ptr d => uptoBulk d + 1
  | .slice elems spare => uptoBulkAll elems + uptoBulkAll spare + 1
  | .agg parts => uptoBulkAll parts + 1
  | .iface _ d => uptoBulk d + 1
  | .map entries => uptoBulkEntries entries + 1
  | .held _ => 1
def uptoBulkAll {H : Type} : List (DataW H) → Nat
  | [] => 0
  | d :: r => uptoBulk d + uptoBulkAll r
def uptoBulkEntries {H : Type} : List (Lit × DataW H) → Nat
  | [] => 0
  | x :: r => uptoBulkEntry x + uptoBulkEntries r
def uptoBulkEntry {H : Type} : Lit × DataW H → Nat
  | (.string bytes, d) => bytes.length + uptoBulk d + 1
  | (_, d) => uptoBulk d + 1
 end
def uptoSmall : (H : Type) → List (DataW H) → Bool := fun _ ds => decide (uptoBulkAll ds ≤ 1048576)
def OpenSpec.upto (s : _root_.Go.ChangeSpec) : _root_.Go.OpenSpec := { _root_.Go.OpenSpec.ofChange s with cond := some uptoSmall }

/-- 'pantilelaw06.PickRises', WHERE WHAT IT READS IS OF BULK AT MOST 1048576: true; the input reads as it did. -/
def pickRisesUptoRow : OpenClaim := { program := "ytekkblhghbkdiaa", sum := "6feb7bde2794d4a761ff07aa3ccfad0f39ea11b1c2982b5643e82392c9d14fcf", func := "pantile/pantilelaw06.PickRises", spec := "pickRises", unfollowed := true, recurses := true, apart := false, narrowed := true }
def PickRisesUptoSaid : Prop := pickRisesUptoRow.holds Try.pinned (OpenSpec.upto pickRisesSpec)

/-- 'pantilelaw06.PickOrders', WHERE WHAT IT READS IS OF BULK AT MOST 1048576: true; the input reads as it did. -/
def pickOrdersUptoRow : OpenClaim := { program := "ytekkblhghbkdiaa", sum := "6feb7bde2794d4a761ff07aa3ccfad0f39ea11b1c2982b5643e82392c9d14fcf", func := "pantile/pantilelaw06.PickOrders", spec := "pickOrders", unfollowed := true, recurses := true, apart := false, narrowed := true }
def PickOrdersUptoSaid : Prop := pickOrdersUptoRow.holds Try.pinned (OpenSpec.upto pickOrdersSpec)

/-- 'pantilelaw06.PickDrops', WHERE WHAT IT READS IS OF BULK AT MOST 1048576: true; the input reads as it did. -/
def pickDropsUptoRow : OpenClaim := { program := "ytekkblhghbkdiaa", sum := "6feb7bde2794d4a761ff07aa3ccfad0f39ea11b1c2982b5643e82392c9d14fcf", func := "pantile/pantilelaw06.PickDrops", spec := "pickDrops", unfollowed := true, recurses := true, apart := false, narrowed := true }
def PickDropsUptoSaid : Prop := pickDropsUptoRow.holds Try.pinned (OpenSpec.upto pickDropsSpec)

/-- 'pantilelaw06.PickDoes', WHERE WHAT IT READS IS OF BULK AT MOST 1048576: true; the input reads as it did. -/
def pickDoesUptoRow : OpenClaim := { program := "ytekkblhghbkdiaa", sum := "6feb7bde2794d4a761ff07aa3ccfad0f39ea11b1c2982b5643e82392c9d14fcf", func := "pantile/pantilelaw06.PickDoes", spec := "pickDoes", unfollowed := true, recurses := true, apart := false, narrowed := true }
def PickDoesUptoSaid : Prop := pickDoesUptoRow.holds Try.pinned (OpenSpec.upto pickDoesSpec)

/-- 'pantilelaw06.PickNone', WHERE WHAT IT READS IS OF BULK AT MOST 1048576: true; the input reads as it did. -/
def pickNoneUptoRow : OpenClaim := { program := "ytekkblhghbkdiaa", sum := "6feb7bde2794d4a761ff07aa3ccfad0f39ea11b1c2982b5643e82392c9d14fcf", func := "pantile/pantilelaw06.PickNone", spec := "pickNone", unfollowed := true, recurses := true, apart := false, narrowed := true }
def PickNoneUptoSaid : Prop := pickNoneUptoRow.holds Try.pinned (OpenSpec.upto pickNoneSpec)

/-- 'pantilelaw06.PickLeast', WHERE WHAT IT READS IS OF BULK AT MOST 1048576: true; the input reads as it did. -/
def pickLeastUptoRow : OpenClaim := { program := "ytekkblhghbkdiaa", sum := "6feb7bde2794d4a761ff07aa3ccfad0f39ea11b1c2982b5643e82392c9d14fcf", func := "pantile/pantilelaw06.PickLeast", spec := "pickLeast", unfollowed := true, recurses := true, apart := false, narrowed := true }
def PickLeastUptoSaid : Prop := pickLeastUptoRow.holds Try.pinned (OpenSpec.upto pickLeastSpec)

end Rows
end Go.Proofs.Ytekkblhghbkdiaa

/-
  No cell of these rows narrows 'for every input' (looked for: loops, veiled, ifaces, maps, wideKeys, modest, calm, conditions, laid).
  DERIVED. THE GIVEN ROWS OF THIS SEAT. 4 by the template 'for every input the law returns true; each argument reads behind the call as it read before'; 0 by the template 'total and deterministic' (their statements: YtfolbfacnlhlmaaTotals.lean).
  GIVEN WITH THE SEED: the statements are not yours to turn. If you find one false, say at which input.
  Laid BY PROGRAM, IN A SANDBOX (cutbox-rows.mjs): the forced cells as the released guide's own fill.sh prints them over the translation c99defe1ea179032… (all of the seat's roots in one cut). By AI agents, Wed Nov 11 2026. No macro, syntax, notation, axiom, sorry.
-/
import Derived.Test.YtfolbfacnlhlmaaChecked
import GoSem.Claim
import GoSem.ClaimJoined
import GoSem.ClaimMapViews
import Derived.JoinedTies
import Derived.KernelRfl
namespace Go.Proofs.Ytfolbfacnlhlmaa
/- THE CELL 'sum', in the pinned program and in every row, IS THE sha256 OF THE DUMP (.gsa) THAT YtfolbfacnlhlmaaProg.lean LOADS. Nothing in Lean hashes anything: it is a label: what it is worth is what the hold of that sum in a sandbox is worth. -/
noncomputable def Try.pinned : Pinned := { name := "ytfolbfacnlhlmaa", sum := "c99defe1ea1790325df1913cc22f095754de0083cef1b60a31f04e809272539e", checked := Try.checked }
namespace Rows
def none {H : Type} : Left H := { results := [], args := [] }

/-- 'pantilelaw07.WalkWords': WHATEVER THE INPUT: true; the input reads as it did. -/
def walkWordsSpec : ChangeSpec := { name := "walkWords", fn := fun _ => fun
  | [d1, d2, d3] => { results := [.lit (.bool true)], args := [d1, d2, d3] }
  | _ => none }
def walkWordsRow : OpenClaim := { program := "ytfolbfacnlhlmaa", sum := "c99defe1ea1790325df1913cc22f095754de0083cef1b60a31f04e809272539e", func := "pantile/pantilelaw07.WalkWords", spec := "walkWords", unfollowed := true, recurses := true, apart := false }
def WalkWordsSaid : Prop := walkWordsRow.holds Try.pinned (OpenSpec.ofChange walkWordsSpec)

/-- ITS FALSE NEIGHBOUR: 'it returns false'. Refute it at one input. -/
def walkWordsWrong : ChangeSpec := { name := "walkWords", fn := fun _ => fun
  | [d1, d2, d3] => { results := [.lit (.bool false)], args := [d1, d2, d3] }
  | _ => none }
def WalkWordsWrongFalsely : Prop := walkWordsRow.holds Try.pinned (OpenSpec.ofChange walkWordsWrong)

/-- 'pantilelaw07.WalkLeaves': WHATEVER THE INPUT: true; the input reads as it did. -/
def walkLeavesSpec : ChangeSpec := { name := "walkLeaves", fn := fun _ => fun
  | [d1, d2] => { results := [.lit (.bool true)], args := [d1, d2] }
  | _ => none }
def walkLeavesRow : OpenClaim := { program := "ytfolbfacnlhlmaa", sum := "c99defe1ea1790325df1913cc22f095754de0083cef1b60a31f04e809272539e", func := "pantile/pantilelaw07.WalkLeaves", spec := "walkLeaves", unfollowed := true, recurses := true, apart := false }
def WalkLeavesSaid : Prop := walkLeavesRow.holds Try.pinned (OpenSpec.ofChange walkLeavesSpec)

/-- ITS FALSE NEIGHBOUR: 'it returns false'. Refute it at one input. -/
def walkLeavesWrong : ChangeSpec := { name := "walkLeaves", fn := fun _ => fun
  | [d1, d2] => { results := [.lit (.bool false)], args := [d1, d2] }
  | _ => none }
def WalkLeavesWrongFalsely : Prop := walkLeavesRow.holds Try.pinned (OpenSpec.ofChange walkLeavesWrong)

/-- 'pantilelaw07.WalkPaths': WHATEVER THE INPUT: true; the input reads as it did. -/
def walkPathsSpec : ChangeSpec := { name := "walkPaths", fn := fun _ => fun
  | [d] => { results := [.lit (.bool true)], args := [d] }
  | _ => none }
def walkPathsRow : OpenClaim := { program := "ytfolbfacnlhlmaa", sum := "c99defe1ea1790325df1913cc22f095754de0083cef1b60a31f04e809272539e", func := "pantile/pantilelaw07.WalkPaths", spec := "walkPaths", unfollowed := true, recurses := true, apart := false }
def WalkPathsSaid : Prop := walkPathsRow.holds Try.pinned (OpenSpec.ofChange walkPathsSpec)

/-- ITS FALSE NEIGHBOUR: 'it returns false'. Refute it at one input. -/
def walkPathsWrong : ChangeSpec := { name := "walkPaths", fn := fun _ => fun
  | [d] => { results := [.lit (.bool false)], args := [d] }
  | _ => none }
def WalkPathsWrongFalsely : Prop := walkPathsRow.holds Try.pinned (OpenSpec.ofChange walkPathsWrong)

/-- 'pantilelaw07.WalkNone': WHATEVER THE INPUT: true; the input reads as it did. -/
def walkNoneSpec : ChangeSpec := { name := "walkNone", fn := fun _ => fun
  | [d1, d2] => { results := [.lit (.bool true)], args := [d1, d2] }
  | _ => none }
def walkNoneRow : OpenClaim := { program := "ytfolbfacnlhlmaa", sum := "c99defe1ea1790325df1913cc22f095754de0083cef1b60a31f04e809272539e", func := "pantile/pantilelaw07.WalkNone", spec := "walkNone", unfollowed := true, recurses := true, apart := false }
def WalkNoneSaid : Prop := walkNoneRow.holds Try.pinned (OpenSpec.ofChange walkNoneSpec)

/-- ITS FALSE NEIGHBOUR: 'it returns false'. Refute it at one input. -/
def walkNoneWrong : ChangeSpec := { name := "walkNone", fn := fun _ => fun
  | [d1, d2] => { results := [.lit (.bool false)], args := [d1, d2] }
  | _ => none }
def WalkNoneWrongFalsely : Prop := walkNoneRow.holds Try.pinned (OpenSpec.ofChange walkNoneWrong)

/- THE SECOND FORM. 'bulk': how many values and letters a reading holds, each counted each time it is reached (what is shared counts as often as it is met; a slice's spare places count too). A statement '..UptoSaid' is the law's where the arguments, and the package variables that the reading takes, are together of bulk at most 1048576: NARROWER than '..Said'. Prove '..Said' where nothing that the law and all that it calls make is longer than what came in: it says more and counts as full. Else prove '..UptoSaid'. A law counts once. -/
mutual
def uptoBulk {H : Type} : DataW H → Nat
  | .lit (.string bytes) => bytes.length + 1
  | .lit _ => 1
  | .nil => 1
  | .ptr d => uptoBulk d + 1
  | .slice elems spare => uptoBulkAll elems + uptoBulkAll spare + 1
  | .agg parts => uptoBulkAll parts + 1
  | .iface _ d => uptoBulk d + 1
  | .map entries => uptoBulkEntries entries + 1
  | .held _ => 1
def uptoBulkAll {H : Type} : List (DataW H) → Nat
  | [] => 0
  | d :: r => uptoBulk d + uptoBulkAll r
def uptoBulkEntries {H : Type} : List (Lit × DataW H) → Nat
  | [] => 0
  | x :: r => uptoBulkEntry x + uptoBulkEntries r
def uptoBulkEntry {H : Type} : Lit × DataW H → Nat
  | (.string bytes, d) => bytes.length + uptoBulk d + 1
  | (_, d) => uptoBulk d + 1
 end
def uptoSmall : (H : Type) → List (DataW H) → Bool := fun _ ds => decide (uptoBulkAll ds ≤ 1048576)
def OpenSpec.upto (s : _root_.Go.ChangeSpec) : _root_.Go.OpenSpec := { _root_.Go.OpenSpec.ofChange s with cond := some uptoSmall }

/-- 'pantilelaw07.WalkWords', WHERE WHAT IT READS IS OF BULK AT MOST 1048576: true; the input reads as it did. -/
def walkWordsUptoRow : OpenClaim := { program := "ytfolbfacnlhlmaa", sum := "c99defe1ea1790325df1913cc22f095754de0083cef1b60a31f04e809272539e", func := "pantile/pantilelaw07.WalkWords", spec := "walkWords", unfollowed := true, recurses := true, apart := false, narrowed := true }
def WalkWordsUptoSaid : Prop := walkWordsUptoRow.holds Try.pinned (OpenSpec.upto walkWordsSpec)

/-- 'pantilelaw07.WalkLeaves', WHERE WHAT IT READS IS OF BULK AT MOST 1048576: true; the input reads as it did. -/
def walkLeavesUptoRow : OpenClaim := { program := "ytfolbfacnlhlmaa", sum := "c99defe1ea1790325df1913cc22f095754de0083cef1b60a31f04e809272539e", func := "pantile/pantilelaw07.WalkLeaves", spec := "walkLeaves", unfollowed := true, recurses := true, apart := false, narrowed := true }
def WalkLeavesUptoSaid : Prop := walkLeavesUptoRow.holds Try.pinned (OpenSpec.upto walkLeavesSpec)

/-- 'pantilelaw07.WalkPaths', WHERE WHAT IT READS IS OF BULK AT MOST 1048576: true; the input reads as it did. -/
def walkPathsUptoRow : OpenClaim := { program := "ytfolbfacnlhlmaa", sum := "c99defe1ea1790325df1913cc22f095754de0083cef1b60a31f04e809272539e", func := "pantile/pantilelaw07.WalkPaths", spec := "walkPaths", unfollowed := true, recurses := true, apart := false, narrowed := true }
def WalkPathsUptoSaid : Prop := walkPathsUptoRow.holds Try.pinned (OpenSpec.upto walkPathsSpec)

/-- 'pantilelaw07.WalkNone', WHERE WHAT IT READS IS OF BULK AT MOST 1048576: true; the input reads as it did. -/
def walkNoneUptoRow : OpenClaim := { program := "ytfolbfacnlhlmaa", sum := "c99defe1ea1790325df1913cc22f095754de0083cef1b60a31f04e809272539e", func := "pantile/pantilelaw07.WalkNone", spec := "walkNone", unfollowed := true, recurses := true, apart := false, narrowed := true }
def WalkNoneUptoSaid : Prop := walkNoneUptoRow.holds Try.pinned (OpenSpec.upto walkNoneSpec)

end Rows
end Go.Proofs.Ytfolbfacnlhlmaa

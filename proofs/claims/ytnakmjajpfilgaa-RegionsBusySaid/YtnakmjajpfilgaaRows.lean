/-
  No cell of these rows narrows 'for every input' (looked for: loops, veiled, ifaces, maps, wideKeys, modest, calm, conditions, laid).
  DERIVED. THE GIVEN ROWS OF THIS SEAT. 5 by the template 'for every input the law returns true; each argument reads behind the call as it read before'; 0 by the template 'total and deterministic' (their statements: YtnakmjajpfilgaaTotals.lean).
  GIVEN WITH THE SEED: the statements are not yours to turn. If you find one false, say at which input.
  Laid BY PROGRAM, IN A SANDBOX (cutbox-rows.mjs): the forced cells as the released guide's own fill.sh prints them over the translation d9f1acc6e8da7afc… (all of the seat's roots in one cut). By AI agents, Wed Nov 11 2026. No macro, syntax, notation, axiom, sorry.
-/
import Derived.Test.YtnakmjajpfilgaaChecked
import GoSem.Claim
import GoSem.ClaimJoined
import GoSem.ClaimMapViews
import Derived.JoinedTies
import Derived.KernelRfl
namespace Go.Proofs.Ytnakmjajpfilgaa
/- THE CELL 'sum', in the pinned program and in every row, IS THE sha256 OF THE DUMP (.gsa) THAT YtnakmjajpfilgaaProg.lean LOADS. Nothing in Lean hashes anything: it is a label: what it is worth is what the hold of that sum in a sandbox is worth. -/
noncomputable def Try.pinned : Pinned := { name := "ytnakmjajpfilgaa", sum := "d9f1acc6e8da7afc10b97cb217a95922a8ae368f174a7080c5ddb36c5b6fac4e", checked := Try.checked }
namespace Rows
def none {H : Type} : Left H := { results := [], args := [] }

/-- 'pantilelaw20.RegionsJoined': WHATEVER THE INPUT: true; the input reads as it did. -/
def regionsJoinedSpec : ChangeSpec := { name := "regionsJoined", fn := fun _ => fun
  | [d] => { results := [.lit (.bool true)], args := [d] }
  | _ => none }
def regionsJoinedRow : OpenClaim := { program := "ytnakmjajpfilgaa", sum := "d9f1acc6e8da7afc10b97cb217a95922a8ae368f174a7080c5ddb36c5b6fac4e", func := "pantile/pantilelaw20.RegionsJoined", spec := "regionsJoined", unfollowed := true, recurses := true, apart := false }
def RegionsJoinedSaid : Prop := regionsJoinedRow.holds Try.pinned (OpenSpec.ofChange regionsJoinedSpec)

/-- ITS FALSE NEIGHBOUR: 'it returns false'. Refute it at one input. -/
def regionsJoinedWrong : ChangeSpec := { name := "regionsJoined", fn := fun _ => fun
  | [d] => { results := [.lit (.bool false)], args := [d] }
  | _ => none }
def RegionsJoinedWrongFalsely : Prop := regionsJoinedRow.holds Try.pinned (OpenSpec.ofChange regionsJoinedWrong)

/-- 'pantilelaw20.RegionsBusy': WHATEVER THE INPUT: true; the input reads as it did. -/
def regionsBusySpec : ChangeSpec := { name := "regionsBusy", fn := fun _ => fun
  | [d1, d2, d3] => { results := [.lit (.bool true)], args := [d1, d2, d3] }
  | _ => none }
def regionsBusyRow : OpenClaim := { program := "ytnakmjajpfilgaa", sum := "d9f1acc6e8da7afc10b97cb217a95922a8ae368f174a7080c5ddb36c5b6fac4e", func := "pantile/pantilelaw20.RegionsBusy", spec := "regionsBusy", unfollowed := true, recurses := true, apart := false }
def RegionsBusySaid : Prop := regionsBusyRow.holds Try.pinned (OpenSpec.ofChange regionsBusySpec)

/-- ITS FALSE NEIGHBOUR: 'it returns false'. Refute it at one input. -/
def regionsBusyWrong : ChangeSpec := { name := "regionsBusy", fn := fun _ => fun
  | [d1, d2, d3] => { results := [.lit (.bool false)], args := [d1, d2, d3] }
  | _ => none }
def RegionsBusyWrongFalsely : Prop := regionsBusyRow.holds Try.pinned (OpenSpec.ofChange regionsBusyWrong)

/-- 'pantilelaw20.RegionsApart': WHATEVER THE INPUT: true; the input reads as it did. -/
def regionsApartSpec : ChangeSpec := { name := "regionsApart", fn := fun _ => fun
  | [d1, d2, d3] => { results := [.lit (.bool true)], args := [d1, d2, d3] }
  | _ => none }
def regionsApartRow : OpenClaim := { program := "ytnakmjajpfilgaa", sum := "d9f1acc6e8da7afc10b97cb217a95922a8ae368f174a7080c5ddb36c5b6fac4e", func := "pantile/pantilelaw20.RegionsApart", spec := "regionsApart", unfollowed := true, recurses := true, apart := false }
def RegionsApartSaid : Prop := regionsApartRow.holds Try.pinned (OpenSpec.ofChange regionsApartSpec)

/-- ITS FALSE NEIGHBOUR: 'it returns false'. Refute it at one input. -/
def regionsApartWrong : ChangeSpec := { name := "regionsApart", fn := fun _ => fun
  | [d1, d2, d3] => { results := [.lit (.bool false)], args := [d1, d2, d3] }
  | _ => none }
def RegionsApartWrongFalsely : Prop := regionsApartRow.holds Try.pinned (OpenSpec.ofChange regionsApartWrong)

/-- 'pantilelaw20.RegionsCount': WHATEVER THE INPUT: true; the input reads as it did. -/
def regionsCountSpec : ChangeSpec := { name := "regionsCount", fn := fun _ => fun
  | [d] => { results := [.lit (.bool true)], args := [d] }
  | _ => none }
def regionsCountRow : OpenClaim := { program := "ytnakmjajpfilgaa", sum := "d9f1acc6e8da7afc10b97cb217a95922a8ae368f174a7080c5ddb36c5b6fac4e", func := "pantile/pantilelaw20.RegionsCount", spec := "regionsCount", unfollowed := true, recurses := true, apart := false }
def RegionsCountSaid : Prop := regionsCountRow.holds Try.pinned (OpenSpec.ofChange regionsCountSpec)

/-- ITS FALSE NEIGHBOUR: 'it returns false'. Refute it at one input. -/
def regionsCountWrong : ChangeSpec := { name := "regionsCount", fn := fun _ => fun
  | [d] => { results := [.lit (.bool false)], args := [d] }
  | _ => none }
def RegionsCountWrongFalsely : Prop := regionsCountRow.holds Try.pinned (OpenSpec.ofChange regionsCountWrong)

/-- 'pantilelaw20.RegionsNone': WHATEVER THE INPUT: true; the input reads as it did. -/
def regionsNoneSpec : ChangeSpec := { name := "regionsNone", fn := fun _ => fun
  | [d] => { results := [.lit (.bool true)], args := [d] }
  | _ => none }
def regionsNoneRow : OpenClaim := { program := "ytnakmjajpfilgaa", sum := "d9f1acc6e8da7afc10b97cb217a95922a8ae368f174a7080c5ddb36c5b6fac4e", func := "pantile/pantilelaw20.RegionsNone", spec := "regionsNone", unfollowed := true, recurses := true, apart := false }
def RegionsNoneSaid : Prop := regionsNoneRow.holds Try.pinned (OpenSpec.ofChange regionsNoneSpec)

/-- ITS FALSE NEIGHBOUR: 'it returns false'. Refute it at one input. -/
def regionsNoneWrong : ChangeSpec := { name := "regionsNone", fn := fun _ => fun
  | [d] => { results := [.lit (.bool false)], args := [d] }
  | _ => none }
def RegionsNoneWrongFalsely : Prop := regionsNoneRow.holds Try.pinned (OpenSpec.ofChange regionsNoneWrong)

/- THE SECOND FORM. 'bulk': how many values and letters a reading holds, each counted each time it is reached (what is shared counts as often as it is met; a slice's spare places count too). A statement '..UptoSaid' is the law's where the arguments, and the package variables that the reading takes, are together of bulk at most 1048576: NARROWER than '..Said'. Prove '..Said' where nothing that the law and all that it calls make is longer than what came in: it says more and counts as full. Else prove '..UptoSaid'. A law counts once. -/
mutual
def uptoBulk {H : Type} : DataW H → Nat
  | .lit (.string bytes) => bytes.length + 1
  | .lit _ => 1
  | .nil => 1
  | .ptr d => uptoBulk d + 1
  | .slice elems spare => uptoBulkAll elems + uptoBulkAll spare + 1
  | .agg parts => uptoBulkAll parts + 1
  | .iface _ d => uptoBulk d + 1
  | .map entries => uptoBulkEntries entries + 1
  | .held _ => 1
def uptoBulkAll {H : Type} : List (DataW H) → Nat
  | [] => 0
  | d :: r => uptoBulk d + uptoBulkAll r
def uptoBulkEntries {H : Type} : List (Lit × DataW H) → Nat
  | [] => 0
  | x :: r => uptoBulkEntry x + uptoBulkEntries r
def uptoBulkEntry {H : Type} : Lit × DataW H → Nat
  | (.string bytes, d) => bytes.length + uptoBulk d + 1
  | (_, d) => uptoBulk d + 1
 end
def uptoSmall : (H : Type) → List (DataW H) → Bool := fun _ ds => decide (uptoBulkAll ds ≤ 1048576)
def OpenSpec.upto (s : _root_.Go.ChangeSpec) : _root_.Go.OpenSpec := { _root_.Go.OpenSpec.ofChange s with cond := some uptoSmall }

/-- 'pantilelaw20.RegionsJoined', WHERE WHAT IT READS IS OF BULK AT MOST 1048576: true; the input reads as it did. -/
def regionsJoinedUptoRow : OpenClaim := { program := "ytnakmjajpfilgaa", sum := "d9f1acc6e8da7afc10b97cb217a95922a8ae368f174a7080c5ddb36c5b6fac4e", func := "pantile/pantilelaw20.RegionsJoined", spec := "regionsJoined", unfollowed := true, recurses := true, apart := false, narrowed := true }
def RegionsJoinedUptoSaid : Prop := regionsJoinedUptoRow.holds Try.pinned (OpenSpec.upto regionsJoinedSpec)

/-- 'pantilelaw20.RegionsBusy', WHERE WHAT IT READS IS OF BULK AT MOST 1048576: true; the input reads as it did. -/
def regionsBusyUptoRow : OpenClaim := { program := "ytnakmjajpfilgaa", sum := "d9f1acc6e8da7afc10b97cb217a95922a8ae368f174a7080c5ddb36c5b6fac4e", func := "pantile/pantilelaw20.RegionsBusy", spec := "regionsBusy", unfollowed := true, recurses := true, apart := false, narrowed := true }
def RegionsBusyUptoSaid : Prop := regionsBusyUptoRow.holds Try.pinned (OpenSpec.upto regionsBusySpec)

/-- 'pantilelaw20.RegionsApart', WHERE WHAT IT READS IS OF BULK AT MOST 1048576: true; the input reads as it did. -/
def regionsApartUptoRow : OpenClaim := { program := "ytnakmjajpfilgaa", sum := "d9f1acc6e8da7afc10b97cb217a95922a8ae368f174a7080c5ddb36c5b6fac4e", func := "pantile/pantilelaw20.RegionsApart", spec := "regionsApart", unfollowed := true, recurses := true, apart := false, narrowed := true }
def RegionsApartUptoSaid : Prop := regionsApartUptoRow.holds Try.pinned (OpenSpec.upto regionsApartSpec)

/-- 'pantilelaw20.RegionsCount', WHERE WHAT IT READS IS OF BULK AT MOST 1048576: true; the input reads as it did. -/
def regionsCountUptoRow : OpenClaim := { program := "ytnakmjajpfilgaa", sum := "d9f1acc6e8da7afc10b97cb217a95922a8ae368f174a7080c5ddb36c5b6fac4e", func := "pantile/pantilelaw20.RegionsCount", spec := "regionsCount", unfollowed := true, recurses := true, apart := false, narrowed := true }
def RegionsCountUptoSaid : Prop := regionsCountUptoRow.holds Try.pinned (OpenSpec.upto regionsCountSpec)

/-- 'pantilelaw20.RegionsNone', WHERE WHAT IT READS IS OF BULK AT MOST 1048576: true; the input reads as it did. -/
def regionsNoneUptoRow : OpenClaim := { program := "ytnakmjajpfilgaa", sum := "d9f1acc6e8da7afc10b97cb217a95922a8ae368f174a7080c5ddb36c5b6fac4e", func := "pantile/pantilelaw20.RegionsNone", spec := "regionsNone", unfollowed := true, recurses := true, apart := false, narrowed := true }
def RegionsNoneUptoSaid : Prop := regionsNoneUptoRow.holds Try.pinned (OpenSpec.upto regionsNoneSpec)

end Rows
end Go.Proofs.Ytnakmjajpfilgaa

/-
  No cell of these rows narrows 'for every input' (looked for: loops, veiled, ifaces, maps, wideKeys, modest, calm, conditions, laid).
  DERIVED. THE GIVEN ROWS OF THIS SEAT. 6 by the template 'for every input the law returns true; each argument reads behind the call as it read before'; 0 by the template 'total and deterministic' (their statements: YtdnnfoojdfmajaaTotals.lean).
  GIVEN WITH THE SEED: the statements are not yours to turn. If you find one false, say at which input.
  Laid BY PROGRAM, IN A SANDBOX (cutbox-rows.mjs): the forced cells as the released guide's own fill.sh prints them over the translation 0baf51dc5d57253a… (all of the seat's roots in one cut). By AI agents, Wed Nov 11 2026. No macro, syntax, notation, axiom, sorry.
-/
import Derived.Test.YtdnnfoojdfmajaaChecked
import GoSem.Claim
import GoSem.ClaimJoined
import GoSem.ClaimMapViews
import Derived.JoinedTies
import Derived.KernelRfl
namespace Go.Proofs.Ytdnnfoojdfmajaa
/- THE CELL 'sum', in the pinned program and in every row, IS THE sha256 OF THE DUMP (.gsa) THAT YtdnnfoojdfmajaaProg.lean LOADS. Nothing in Lean hashes anything: it is a label: what it is worth is what the hold of that sum in a sandbox is worth. -/
noncomputable def Try.pinned : Pinned := { name := "ytdnnfoojdfmajaa", sum := "0baf51dc5d57253ab159d49fc6857615e977e4e6789519e6f302ff7c6ef25833", checked := Try.checked }
namespace Rows
def none {H : Type} : Left H := { results := [], args := [] }

/-- 'pantilelaw19.RadixNext': WHATEVER THE INPUT: true; the input reads as it did. -/
def radixNextSpec : ChangeSpec := { name := "radixNext", fn := fun _ => fun
  | [d1, d2, d3] => { results := [.lit (.bool true)], args := [d1, d2, d3] }
  | _ => none }
def radixNextRow : OpenClaim := { program := "ytdnnfoojdfmajaa", sum := "0baf51dc5d57253ab159d49fc6857615e977e4e6789519e6f302ff7c6ef25833", func := "pantile/pantilelaw19.RadixNext", spec := "radixNext", unfollowed := true, recurses := true, apart := false }
def RadixNextSaid : Prop := radixNextRow.holds Try.pinned (OpenSpec.ofChange radixNextSpec)

/-- ITS FALSE NEIGHBOUR: 'it returns false'. Refute it at one input. -/
def radixNextWrong : ChangeSpec := { name := "radixNext", fn := fun _ => fun
  | [d1, d2, d3] => { results := [.lit (.bool false)], args := [d1, d2, d3] }
  | _ => none }
def RadixNextWrongFalsely : Prop := radixNextRow.holds Try.pinned (OpenSpec.ofChange radixNextWrong)

/-- 'pantilelaw19.RadixFinds': WHATEVER THE INPUT: true; the input reads as it did. -/
def radixFindsSpec : ChangeSpec := { name := "radixFinds", fn := fun _ => fun
  | [d1, d2] => { results := [.lit (.bool true)], args := [d1, d2] }
  | _ => none }
def radixFindsRow : OpenClaim := { program := "ytdnnfoojdfmajaa", sum := "0baf51dc5d57253ab159d49fc6857615e977e4e6789519e6f302ff7c6ef25833", func := "pantile/pantilelaw19.RadixFinds", spec := "radixFinds", unfollowed := true, recurses := true, apart := false }
def RadixFindsSaid : Prop := radixFindsRow.holds Try.pinned (OpenSpec.ofChange radixFindsSpec)

/-- ITS FALSE NEIGHBOUR: 'it returns false'. Refute it at one input. -/
def radixFindsWrong : ChangeSpec := { name := "radixFinds", fn := fun _ => fun
  | [d1, d2] => { results := [.lit (.bool false)], args := [d1, d2] }
  | _ => none }
def RadixFindsWrongFalsely : Prop := radixFindsRow.holds Try.pinned (OpenSpec.ofChange radixFindsWrong)

/-- 'pantilelaw19.RadixNodes': WHATEVER THE INPUT: true; the input reads as it did. -/
def radixNodesSpec : ChangeSpec := { name := "radixNodes", fn := fun _ => fun
  | [d] => { results := [.lit (.bool true)], args := [d] }
  | _ => none }
def radixNodesRow : OpenClaim := { program := "ytdnnfoojdfmajaa", sum := "0baf51dc5d57253ab159d49fc6857615e977e4e6789519e6f302ff7c6ef25833", func := "pantile/pantilelaw19.RadixNodes", spec := "radixNodes", unfollowed := true, recurses := true, apart := false }
def RadixNodesSaid : Prop := radixNodesRow.holds Try.pinned (OpenSpec.ofChange radixNodesSpec)

/-- ITS FALSE NEIGHBOUR: 'it returns false'. Refute it at one input. -/
def radixNodesWrong : ChangeSpec := { name := "radixNodes", fn := fun _ => fun
  | [d] => { results := [.lit (.bool false)], args := [d] }
  | _ => none }
def RadixNodesWrongFalsely : Prop := radixNodesRow.holds Try.pinned (OpenSpec.ofChange radixNodesWrong)

/-- 'pantilelaw19.RadixSplits': WHATEVER THE INPUT: true; the input reads as it did. -/
def radixSplitsSpec : ChangeSpec := { name := "radixSplits", fn := fun _ => fun
  | [d1, d2, d3] => { results := [.lit (.bool true)], args := [d1, d2, d3] }
  | _ => none }
def radixSplitsRow : OpenClaim := { program := "ytdnnfoojdfmajaa", sum := "0baf51dc5d57253ab159d49fc6857615e977e4e6789519e6f302ff7c6ef25833", func := "pantile/pantilelaw19.RadixSplits", spec := "radixSplits", unfollowed := true, recurses := true, apart := false }
def RadixSplitsSaid : Prop := radixSplitsRow.holds Try.pinned (OpenSpec.ofChange radixSplitsSpec)

/-- ITS FALSE NEIGHBOUR: 'it returns false'. Refute it at one input. -/
def radixSplitsWrong : ChangeSpec := { name := "radixSplits", fn := fun _ => fun
  | [d1, d2, d3] => { results := [.lit (.bool false)], args := [d1, d2, d3] }
  | _ => none }
def RadixSplitsWrongFalsely : Prop := radixSplitsRow.holds Try.pinned (OpenSpec.ofChange radixSplitsWrong)

/-- 'pantilelaw19.RadixApart': WHATEVER THE INPUT: true; the input reads as it did. -/
def radixApartSpec : ChangeSpec := { name := "radixApart", fn := fun _ => fun
  | [d1, d2, d3] => { results := [.lit (.bool true)], args := [d1, d2, d3] }
  | _ => none }
def radixApartRow : OpenClaim := { program := "ytdnnfoojdfmajaa", sum := "0baf51dc5d57253ab159d49fc6857615e977e4e6789519e6f302ff7c6ef25833", func := "pantile/pantilelaw19.RadixApart", spec := "radixApart", unfollowed := true, recurses := true, apart := false }
def RadixApartSaid : Prop := radixApartRow.holds Try.pinned (OpenSpec.ofChange radixApartSpec)

/-- ITS FALSE NEIGHBOUR: 'it returns false'. Refute it at one input. -/
def radixApartWrong : ChangeSpec := { name := "radixApart", fn := fun _ => fun
  | [d1, d2, d3] => { results := [.lit (.bool false)], args := [d1, d2, d3] }
  | _ => none }
def RadixApartWrongFalsely : Prop := radixApartRow.holds Try.pinned (OpenSpec.ofChange radixApartWrong)

/-- 'pantilelaw19.RadixNone': WHATEVER THE INPUT: true; the input reads as it did. -/
def radixNoneSpec : ChangeSpec := { name := "radixNone", fn := fun _ => fun
  | [d] => { results := [.lit (.bool true)], args := [d] }
  | _ => none }
def radixNoneRow : OpenClaim := { program := "ytdnnfoojdfmajaa", sum := "0baf51dc5d57253ab159d49fc6857615e977e4e6789519e6f302ff7c6ef25833", func := "pantile/pantilelaw19.RadixNone", spec := "radixNone", unfollowed := true, recurses := true, apart := false }
def RadixNoneSaid : Prop := radixNoneRow.holds Try.pinned (OpenSpec.ofChange radixNoneSpec)

/-- ITS FALSE NEIGHBOUR: 'it returns false'. Refute it at one input. -/
def radixNoneWrong : ChangeSpec := { name := "radixNone", fn := fun _ => fun
  | [d] => { results := [.lit (.bool false)], args := [d] }
  | _ => none }
def RadixNoneWrongFalsely : Prop := radixNoneRow.holds Try.pinned (OpenSpec.ofChange radixNoneWrong)

/- THE SECOND FORM. 'bulk': how many values and letters a reading holds, each counted each time it is reached (what is shared counts as often as it is met; a slice's spare places count too). A statement '..UptoSaid' is the law's where the arguments, and the package variables that the reading takes, are together of bulk at most 1048576: NARROWER than '..Said'. Prove '..Said' where nothing that the law and all that it calls make is longer than what came in: it says more and counts as full. Else prove '..UptoSaid'. A law counts once. -/
mutual
def uptoBulk {H : Type} : DataW H → Nat
  | .lit (.string bytes) => bytes.length + 1
  | .lit _ => 1
  | .nil => 1
  | .ptr d => uptoBulk d + 1
  | .slice elems spare => uptoBulkAll elems + uptoBulkAll spare + 1
  | .agg parts => uptoBulkAll parts + 1
  | .iface _ d => uptoBulk d + 1
  | .map entries => uptoBulkEntries entries + 1
  | .held _ => 1
def uptoBulkAll {H : Type} : List (DataW H) → Nat
  | [] => 0
  | d :: r => uptoBulk d + uptoBulkAll r
def uptoBulkEntries {H : Type} : List (Lit × DataW H) → Nat
  | [] => 0
  | x :: r => uptoBulkEntry x + uptoBulkEntries r
def uptoBulkEntry {H : Type} : Lit × DataW H → Nat
  | (.string bytes, d) => bytes.length + uptoBulk d + 1
  | (_, d) => uptoBulk d + 1
 end
def uptoSmall : (H : Type) → List (DataW H) → Bool := fun _ ds => decide (uptoBulkAll ds ≤ 1048576)
def OpenSpec.upto (s : _root_.Go.ChangeSpec) : _root_.Go.OpenSpec := { _root_.Go.OpenSpec.ofChange s with cond := some uptoSmall }

/-- 'pantilelaw19.RadixNext', WHERE WHAT IT READS IS OF BULK AT MOST 1048576: true; the input reads as it did. -/
def radixNextUptoRow : OpenClaim := { program := "ytdnnfoojdfmajaa", sum := "0baf51dc5d57253ab159d49fc6857615e977e4e6789519e6f302ff7c6ef25833", func := "pantile/pantilelaw19.RadixNext", spec := "radixNext", unfollowed := true, recurses := true, apart := false, narrowed := true }
def RadixNextUptoSaid : Prop := radixNextUptoRow.holds Try.pinned (OpenSpec.upto radixNextSpec)

/-- 'pantilelaw19.RadixFinds', WHERE WHAT IT READS IS OF BULK AT MOST 1048576: true; the input reads as it did. -/
def radixFindsUptoRow : OpenClaim := { program := "ytdnnfoojdfmajaa", sum := "0baf51dc5d57253ab159d49fc6857615e977e4e6789519e6f302ff7c6ef25833", func := "pantile/pantilelaw19.RadixFinds", spec := "radixFinds", unfollowed := true, recurses := true, apart := false, narrowed := true }
def RadixFindsUptoSaid : Prop := radixFindsUptoRow.holds Try.pinned (OpenSpec.upto radixFindsSpec)

/-- 'pantilelaw19.RadixNodes', WHERE WHAT IT READS IS OF BULK AT MOST 1048576: true; the input reads as it did. -/
def radixNodesUptoRow : OpenClaim := { program := "ytdnnfoojdfmajaa", sum := "0baf51dc5d57253ab159d49fc6857615e977e4e6789519e6f302ff7c6ef25833", func := "pantile/pantilelaw19.RadixNodes", spec := "radixNodes", unfollowed := true, recurses := true, apart := false, narrowed := true }
def RadixNodesUptoSaid : Prop := radixNodesUptoRow.holds Try.pinned (OpenSpec.upto radixNodesSpec)

/-- 'pantilelaw19.RadixSplits', WHERE WHAT IT READS IS OF BULK AT MOST 1048576: true; the input reads as it did. -/
def radixSplitsUptoRow : OpenClaim := { program := "ytdnnfoojdfmajaa", sum := "0baf51dc5d57253ab159d49fc6857615e977e4e6789519e6f302ff7c6ef25833", func := "pantile/pantilelaw19.RadixSplits", spec := "radixSplits", unfollowed := true, recurses := true, apart := false, narrowed := true }
def RadixSplitsUptoSaid : Prop := radixSplitsUptoRow.holds Try.pinned (OpenSpec.upto radixSplitsSpec)

/-- 'pantilelaw19.RadixApart', WHERE WHAT IT READS IS OF BULK AT MOST 1048576: true; the input reads as it did. -/
def radixApartUptoRow : OpenClaim := { program := "ytdnnfoojdfmajaa", sum := "0baf51dc5d57253ab159d49fc6857615e977e4e6789519e6f302ff7c6ef25833", func := "pantile/pantilelaw19.RadixApart", spec := "radixApart", unfollowed := true, recurses := true, apart := false, narrowed := true }
def RadixApartUptoSaid : Prop := radixApartUptoRow.holds Try.pinned (OpenSpec.upto radixApartSpec)

/-- 'pantilelaw19.RadixNone', WHERE WHAT IT READS IS OF BULK AT MOST 1048576: true; the input reads as it did. -/
def radixNoneUptoRow : OpenClaim := { program := "ytdnnfoojdfmajaa", sum := "0baf51dc5d57253ab159d49fc6857615e977e4e6789519e6f302ff7c6ef25833", func := "pantile/pantilelaw19.RadixNone", spec := "radixNone", unfollowed := true, recurses := true, apart := false, narrowed := true }
def RadixNoneUptoSaid : Prop := radixNoneUptoRow.holds Try.pinned (OpenSpec.upto radixNoneSpec)

end Rows
end Go.Proofs.Ytdnnfoojdfmajaa

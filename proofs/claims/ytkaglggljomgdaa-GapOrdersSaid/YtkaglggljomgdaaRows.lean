/-
  No cell of these rows narrows 'for every input' (looked for: loops, veiled, ifaces, maps, wideKeys, modest, calm, conditions, laid).
  DERIVED. THE GIVEN ROWS OF THIS SEAT. 7 by the template 'for every input the law returns true; each argument reads behind the call as it read before'; 0 by the template 'total and deterministic' (their statements: YtkaglggljomgdaaTotals.lean).
  GIVEN WITH THE SEED: the statements are not yours to turn. If you find one false, say at which input.
  Laid BY PROGRAM, IN A SANDBOX (cutbox-rows.mjs): the forced cells as the released guide's own fill.sh prints them over the translation c1a5d36c4ccdb9cc… (all of the seat's roots in one cut). By AI agents, Wed Nov 11 2026. No macro, syntax, notation, axiom, sorry.
-/
import Derived.Test.YtkaglggljomgdaaChecked
import GoSem.Claim
import GoSem.ClaimJoined
import GoSem.ClaimMapViews
import Derived.JoinedTies
import Derived.KernelRfl
namespace Go.Proofs.Ytkaglggljomgdaa
/- THE CELL 'sum', in the pinned program and in every row, IS THE sha256 OF THE DUMP (.gsa) THAT YtkaglggljomgdaaProg.lean LOADS. Nothing in Lean hashes anything: it is a label: what it is worth is what the hold of that sum in a sandbox is worth. -/
noncomputable def Try.pinned : Pinned := { name := "ytkaglggljomgdaa", sum := "c1a5d36c4ccdb9cca406297b1db9a7c06ccfc61ed646bfef3f153df1be0a6966", checked := Try.checked }
namespace Rows
def none {H : Type} : Left H := { results := [], args := [] }

/-- 'pantilelaw18.GapRooms': WHATEVER THE INPUT: true; the input reads as it did. -/
def gapRoomsSpec : ChangeSpec := { name := "gapRooms", fn := fun _ => fun
  | [d1, d2] => { results := [.lit (.bool true)], args := [d1, d2] }
  | _ => none }
def gapRoomsRow : OpenClaim := { program := "ytkaglggljomgdaa", sum := "c1a5d36c4ccdb9cca406297b1db9a7c06ccfc61ed646bfef3f153df1be0a6966", func := "pantile/pantilelaw18.GapRooms", spec := "gapRooms", unfollowed := true, recurses := true, apart := false }
def GapRoomsSaid : Prop := gapRoomsRow.holds Try.pinned (OpenSpec.ofChange gapRoomsSpec)

/-- ITS FALSE NEIGHBOUR: 'it returns false'. Refute it at one input. -/
def gapRoomsWrong : ChangeSpec := { name := "gapRooms", fn := fun _ => fun
  | [d1, d2] => { results := [.lit (.bool false)], args := [d1, d2] }
  | _ => none }
def GapRoomsWrongFalsely : Prop := gapRoomsRow.holds Try.pinned (OpenSpec.ofChange gapRoomsWrong)

/-- 'pantilelaw18.GapPuts': WHATEVER THE INPUT: true; the input reads as it did. -/
def gapPutsSpec : ChangeSpec := { name := "gapPuts", fn := fun _ => fun
  | [d1, d2] => { results := [.lit (.bool true)], args := [d1, d2] }
  | _ => none }
def gapPutsRow : OpenClaim := { program := "ytkaglggljomgdaa", sum := "c1a5d36c4ccdb9cca406297b1db9a7c06ccfc61ed646bfef3f153df1be0a6966", func := "pantile/pantilelaw18.GapPuts", spec := "gapPuts", unfollowed := true, recurses := true, apart := false }
def GapPutsSaid : Prop := gapPutsRow.holds Try.pinned (OpenSpec.ofChange gapPutsSpec)

/-- ITS FALSE NEIGHBOUR: 'it returns false'. Refute it at one input. -/
def gapPutsWrong : ChangeSpec := { name := "gapPuts", fn := fun _ => fun
  | [d1, d2] => { results := [.lit (.bool false)], args := [d1, d2] }
  | _ => none }
def GapPutsWrongFalsely : Prop := gapPutsRow.holds Try.pinned (OpenSpec.ofChange gapPutsWrong)

/-- 'pantilelaw18.GapBalanced': WHATEVER THE INPUT: true; the input reads as it did. -/
def gapBalancedSpec : ChangeSpec := { name := "gapBalanced", fn := fun _ => fun
  | [d] => { results := [.lit (.bool true)], args := [d] }
  | _ => none }
def gapBalancedRow : OpenClaim := { program := "ytkaglggljomgdaa", sum := "c1a5d36c4ccdb9cca406297b1db9a7c06ccfc61ed646bfef3f153df1be0a6966", func := "pantile/pantilelaw18.GapBalanced", spec := "gapBalanced", unfollowed := true, recurses := true, apart := false }
def GapBalancedSaid : Prop := gapBalancedRow.holds Try.pinned (OpenSpec.ofChange gapBalancedSpec)

/-- ITS FALSE NEIGHBOUR: 'it returns false'. Refute it at one input. -/
def gapBalancedWrong : ChangeSpec := { name := "gapBalanced", fn := fun _ => fun
  | [d] => { results := [.lit (.bool false)], args := [d] }
  | _ => none }
def GapBalancedWrongFalsely : Prop := gapBalancedRow.holds Try.pinned (OpenSpec.ofChange gapBalancedWrong)

/-- 'pantilelaw18.GapOrders': WHATEVER THE INPUT: true; the input reads as it did. -/
def gapOrdersSpec : ChangeSpec := { name := "gapOrders", fn := fun _ => fun
  | [d1, d2, d3] => { results := [.lit (.bool true)], args := [d1, d2, d3] }
  | _ => none }
def gapOrdersRow : OpenClaim := { program := "ytkaglggljomgdaa", sum := "c1a5d36c4ccdb9cca406297b1db9a7c06ccfc61ed646bfef3f153df1be0a6966", func := "pantile/pantilelaw18.GapOrders", spec := "gapOrders", unfollowed := true, recurses := true, apart := false }
def GapOrdersSaid : Prop := gapOrdersRow.holds Try.pinned (OpenSpec.ofChange gapOrdersSpec)

/-- ITS FALSE NEIGHBOUR: 'it returns false'. Refute it at one input. -/
def gapOrdersWrong : ChangeSpec := { name := "gapOrders", fn := fun _ => fun
  | [d1, d2, d3] => { results := [.lit (.bool false)], args := [d1, d2, d3] }
  | _ => none }
def GapOrdersWrongFalsely : Prop := gapOrdersRow.holds Try.pinned (OpenSpec.ofChange gapOrdersWrong)

/-- 'pantilelaw18.GapDoes': WHATEVER THE INPUT: true; the input reads as it did. -/
def gapDoesSpec : ChangeSpec := { name := "gapDoes", fn := fun _ => fun
  | [d1, d2] => { results := [.lit (.bool true)], args := [d1, d2] }
  | _ => none }
def gapDoesRow : OpenClaim := { program := "ytkaglggljomgdaa", sum := "c1a5d36c4ccdb9cca406297b1db9a7c06ccfc61ed646bfef3f153df1be0a6966", func := "pantile/pantilelaw18.GapDoes", spec := "gapDoes", unfollowed := true, recurses := true, apart := false }
def GapDoesSaid : Prop := gapDoesRow.holds Try.pinned (OpenSpec.ofChange gapDoesSpec)

/-- ITS FALSE NEIGHBOUR: 'it returns false'. Refute it at one input. -/
def gapDoesWrong : ChangeSpec := { name := "gapDoes", fn := fun _ => fun
  | [d1, d2] => { results := [.lit (.bool false)], args := [d1, d2] }
  | _ => none }
def GapDoesWrongFalsely : Prop := gapDoesRow.holds Try.pinned (OpenSpec.ofChange gapDoesWrong)

/-- 'pantilelaw18.GapBack': WHATEVER THE INPUT: true; the input reads as it did. -/
def gapBackSpec : ChangeSpec := { name := "gapBack", fn := fun _ => fun
  | [d1, d2, d3] => { results := [.lit (.bool true)], args := [d1, d2, d3] }
  | _ => none }
def gapBackRow : OpenClaim := { program := "ytkaglggljomgdaa", sum := "c1a5d36c4ccdb9cca406297b1db9a7c06ccfc61ed646bfef3f153df1be0a6966", func := "pantile/pantilelaw18.GapBack", spec := "gapBack", unfollowed := true, recurses := true, apart := false }
def GapBackSaid : Prop := gapBackRow.holds Try.pinned (OpenSpec.ofChange gapBackSpec)

/-- ITS FALSE NEIGHBOUR: 'it returns false'. Refute it at one input. -/
def gapBackWrong : ChangeSpec := { name := "gapBack", fn := fun _ => fun
  | [d1, d2, d3] => { results := [.lit (.bool false)], args := [d1, d2, d3] }
  | _ => none }
def GapBackWrongFalsely : Prop := gapBackRow.holds Try.pinned (OpenSpec.ofChange gapBackWrong)

/-- 'pantilelaw18.GapNone': WHATEVER THE INPUT: true; the input reads as it did. -/
def gapNoneSpec : ChangeSpec := { name := "gapNone", fn := fun _ => fun
  | [d1, d2] => { results := [.lit (.bool true)], args := [d1, d2] }
  | _ => none }
def gapNoneRow : OpenClaim := { program := "ytkaglggljomgdaa", sum := "c1a5d36c4ccdb9cca406297b1db9a7c06ccfc61ed646bfef3f153df1be0a6966", func := "pantile/pantilelaw18.GapNone", spec := "gapNone", unfollowed := true, recurses := true, apart := false }
def GapNoneSaid : Prop := gapNoneRow.holds Try.pinned (OpenSpec.ofChange gapNoneSpec)

/-- ITS FALSE NEIGHBOUR: 'it returns false'. Refute it at one input. -/
def gapNoneWrong : ChangeSpec := { name := "gapNone", fn := fun _ => fun
  | [d1, d2] => { results := [.lit (.bool false)], args := [d1, d2] }
  | _ => none }
def GapNoneWrongFalsely : Prop := gapNoneRow.holds Try.pinned (OpenSpec.ofChange gapNoneWrong)

/- THE SECOND FORM. 'bulk': how many values and letters a reading holds, each counted each time it is reached (what is shared counts as often as it is met; a slice's spare places count too). A statement '..UptoSaid' is the law's where the arguments, and the package variables that the reading takes, are together of bulk at most 1048576: NARROWER than '..Said'. Prove '..Said' where nothing that the law and all that it calls make is longer than what came in: it says more and counts as full. Else prove '..UptoSaid'. A law counts once. -/
mutual
def uptoBulk {H : Type} : DataW H → Nat
  | .lit (.string bytes) => bytes.length + 1
  | .lit _ => 1
  | .nil => 1
  | .ptr d => uptoBulk d + 1
  | .slice elems spare => uptoBulkAll elems + uptoBulkAll spare + 1
  | .agg parts => uptoBulkAll parts + 1
  | .iface _ d => uptoBulk d + 1
  | .map entries => uptoBulkEntries entries + 1
  | .held _ => 1
def uptoBulkAll {H : Type} : List (DataW H) → Nat
  | [] => 0
  | d :: r => uptoBulk d + uptoBulkAll r
def uptoBulkEntries {H : Type} : List (Lit × DataW H) → Nat
  | [] => 0
  | x :: r => uptoBulkEntry x + uptoBulkEntries r
def uptoBulkEntry {H : Type} : Lit × DataW H → Nat
  | (.string bytes, d) => bytes.length + uptoBulk d + 1
  | (_, d) => uptoBulk d + 1
 end
def uptoSmall : (H : Type) → List (DataW H) → Bool := fun _ ds => decide (uptoBulkAll ds ≤ 1048576)
def OpenSpec.upto (s : _root_.Go.ChangeSpec) : _root_.Go.OpenSpec := { _root_.Go.OpenSpec.ofChange s with cond := some uptoSmall }

/-- 'pantilelaw18.GapRooms', WHERE WHAT IT READS IS OF BULK AT MOST 1048576: true; the input reads as it did. -/
def gapRoomsUptoRow : OpenClaim := { program := "ytkaglggljomgdaa", sum := "c1a5d36c4ccdb9cca406297b1db9a7c06ccfc61ed646bfef3f153df1be0a6966", func := "pantile/pantilelaw18.GapRooms", spec := "gapRooms", unfollowed := true, recurses := true, apart := false, narrowed := true }
def GapRoomsUptoSaid : Prop := gapRoomsUptoRow.holds Try.pinned (OpenSpec.upto gapRoomsSpec)

/-- 'pantilelaw18.GapPuts', WHERE WHAT IT READS IS OF BULK AT MOST 1048576: true; the input reads as it did. -/
def gapPutsUptoRow : OpenClaim := { program := "ytkaglggljomgdaa", sum := "c1a5d36c4ccdb9cca406297b1db9a7c06ccfc61ed646bfef3f153df1be0a6966", func := "pantile/pantilelaw18.GapPuts", spec := "gapPuts", unfollowed := true, recurses := true, apart := false, narrowed := true }
def GapPutsUptoSaid : Prop := gapPutsUptoRow.holds Try.pinned (OpenSpec.upto gapPutsSpec)

/-- 'pantilelaw18.GapBalanced', WHERE WHAT IT READS IS OF BULK AT MOST 1048576: true; the input reads as it did. -/
def gapBalancedUptoRow : OpenClaim := { program := "ytkaglggljomgdaa", sum := "c1a5d36c4ccdb9cca406297b1db9a7c06ccfc61ed646bfef3f153df1be0a6966", func := "pantile/pantilelaw18.GapBalanced", spec := "gapBalanced", unfollowed := true, recurses := true, apart := false, narrowed := true }
def GapBalancedUptoSaid : Prop := gapBalancedUptoRow.holds Try.pinned (OpenSpec.upto gapBalancedSpec)

/-- 'pantilelaw18.GapOrders', WHERE WHAT IT READS IS OF BULK AT MOST 1048576: true; the input reads as it did. -/
def gapOrdersUptoRow : OpenClaim := { program := "ytkaglggljomgdaa", sum := "c1a5d36c4ccdb9cca406297b1db9a7c06ccfc61ed646bfef3f153df1be0a6966", func := "pantile/pantilelaw18.GapOrders", spec := "gapOrders", unfollowed := true, recurses := true, apart := false, narrowed := true }
def GapOrdersUptoSaid : Prop := gapOrdersUptoRow.holds Try.pinned (OpenSpec.upto gapOrdersSpec)

/-- 'pantilelaw18.GapDoes', WHERE WHAT IT READS IS OF BULK AT MOST 1048576: true; the input reads as it did. -/
def gapDoesUptoRow : OpenClaim := { program := "ytkaglggljomgdaa", sum := "c1a5d36c4ccdb9cca406297b1db9a7c06ccfc61ed646bfef3f153df1be0a6966", func := "pantile/pantilelaw18.GapDoes", spec := "gapDoes", unfollowed := true, recurses := true, apart := false, narrowed := true }
def GapDoesUptoSaid : Prop := gapDoesUptoRow.holds Try.pinned (OpenSpec.upto gapDoesSpec)

/-- 'pantilelaw18.GapBack', WHERE WHAT IT READS IS OF BULK AT MOST 1048576: true; the input reads as it did. -/
def gapBackUptoRow : OpenClaim := { program := "ytkaglggljomgdaa", sum := "c1a5d36c4ccdb9cca406297b1db9a7c06ccfc61ed646bfef3f153df1be0a6966", func := "pantile/pantilelaw18.GapBack", spec := "gapBack", unfollowed := true, recurses := true, apart := false, narrowed := true }
def GapBackUptoSaid : Prop := gapBackUptoRow.holds Try.pinned (OpenSpec.upto gapBackSpec)

/-- 'pantilelaw18.GapNone', WHERE WHAT IT READS IS OF BULK AT MOST 1048576: true; the input reads as it did. -/
def gapNoneUptoRow : OpenClaim := { program := "ytkaglggljomgdaa", sum := "c1a5d36c4ccdb9cca406297b1db9a7c06ccfc61ed646bfef3f153df1be0a6966", func := "pantile/pantilelaw18.GapNone", spec := "gapNone", unfollowed := true, recurses := true, apart := false, narrowed := true }
def GapNoneUptoSaid : Prop := gapNoneUptoRow.holds Try.pinned (OpenSpec.upto gapNoneSpec)

end Rows
end Go.Proofs.Ytkaglggljomgdaa

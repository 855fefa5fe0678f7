/-
  No cell of these rows narrows 'for every input' (looked for: loops, veiled, ifaces, maps, wideKeys, modest, calm, conditions, laid).
  DERIVED. THE GIVEN ROWS OF THIS SEAT. 6 by the template 'for every input the law returns true; each argument reads behind the call as it read before'; 0 by the template 'total and deterministic' (their statements: YtehbonhdhblpgaaTotals.lean).
  GIVEN WITH THE SEED: the statements are not yours to turn. If you find one false, say at which input.
  Laid BY PROGRAM, IN A SANDBOX (cutbox-rows.mjs): the forced cells as the released guide's own fill.sh prints them over the translation 74c03e831d14c86f… (all of the seat's roots in one cut). By AI agents, Wed Nov 11 2026. No macro, syntax, notation, axiom, sorry.
-/
import Derived.Test.YtehbonhdhblpgaaChecked
import GoSem.Claim
import GoSem.ClaimJoined
import GoSem.ClaimMapViews
import Derived.JoinedTies
import Derived.KernelRfl
namespace Go.Proofs.Ytehbonhdhblpgaa
/- THE CELL 'sum', in the pinned program and in every row, IS THE sha256 OF THE DUMP (.gsa) THAT YtehbonhdhblpgaaProg.lean LOADS. Nothing in Lean hashes anything: it is a label: what it is worth is what the hold of that sum in a sandbox is worth. -/
noncomputable def Try.pinned : Pinned := { name := "ytehbonhdhblpgaa", sum := "74c03e831d14c86f6c663724133c0334925b1a84d9ab03ef51bdd1d7403e8076", checked := Try.checked }
namespace Rows
def none {H : Type} : Left H := { results := [], args := [] }

/-- 'pantilelaw25.ClockChance': WHATEVER THE INPUT: true; the input reads as it did. -/
def clockChanceSpec : ChangeSpec := { name := "clockChance", fn := fun _ => fun
  | [d1, d2] => { results := [.lit (.bool true)], args := [d1, d2] }
  | _ => none }
def clockChanceRow : OpenClaim := { program := "ytehbonhdhblpgaa", sum := "74c03e831d14c86f6c663724133c0334925b1a84d9ab03ef51bdd1d7403e8076", func := "pantile/pantilelaw25.ClockChance", spec := "clockChance", unfollowed := true, recurses := true, apart := false }
def ClockChanceSaid : Prop := clockChanceRow.holds Try.pinned (OpenSpec.ofChange clockChanceSpec)

/-- ITS FALSE NEIGHBOUR: 'it returns false'. Refute it at one input. -/
def clockChanceWrong : ChangeSpec := { name := "clockChance", fn := fun _ => fun
  | [d1, d2] => { results := [.lit (.bool false)], args := [d1, d2] }
  | _ => none }
def ClockChanceWrongFalsely : Prop := clockChanceRow.holds Try.pinned (OpenSpec.ofChange clockChanceWrong)

/-- 'pantilelaw25.ClockOld': WHATEVER THE INPUT: true; the input reads as it did. -/
def clockOldSpec : ChangeSpec := { name := "clockOld", fn := fun _ => fun
  | [d1, d2, d3] => { results := [.lit (.bool true)], args := [d1, d2, d3] }
  | _ => none }
def clockOldRow : OpenClaim := { program := "ytehbonhdhblpgaa", sum := "74c03e831d14c86f6c663724133c0334925b1a84d9ab03ef51bdd1d7403e8076", func := "pantile/pantilelaw25.ClockOld", spec := "clockOld", unfollowed := true, recurses := true, apart := false }
def ClockOldSaid : Prop := clockOldRow.holds Try.pinned (OpenSpec.ofChange clockOldSpec)

/-- ITS FALSE NEIGHBOUR: 'it returns false'. Refute it at one input. -/
def clockOldWrong : ChangeSpec := { name := "clockOld", fn := fun _ => fun
  | [d1, d2, d3] => { results := [.lit (.bool false)], args := [d1, d2, d3] }
  | _ => none }
def ClockOldWrongFalsely : Prop := clockOldRow.holds Try.pinned (OpenSpec.ofChange clockOldWrong)

/-- 'pantilelaw25.ClockOrder': WHATEVER THE INPUT: true; the input reads as it did. -/
def clockOrderSpec : ChangeSpec := { name := "clockOrder", fn := fun _ => fun
  | [d1, d2] => { results := [.lit (.bool true)], args := [d1, d2] }
  | _ => none }
def clockOrderRow : OpenClaim := { program := "ytehbonhdhblpgaa", sum := "74c03e831d14c86f6c663724133c0334925b1a84d9ab03ef51bdd1d7403e8076", func := "pantile/pantilelaw25.ClockOrder", spec := "clockOrder", unfollowed := true, recurses := true, apart := false }
def ClockOrderSaid : Prop := clockOrderRow.holds Try.pinned (OpenSpec.ofChange clockOrderSpec)

/-- ITS FALSE NEIGHBOUR: 'it returns false'. Refute it at one input. -/
def clockOrderWrong : ChangeSpec := { name := "clockOrder", fn := fun _ => fun
  | [d1, d2] => { results := [.lit (.bool false)], args := [d1, d2] }
  | _ => none }
def ClockOrderWrongFalsely : Prop := clockOrderRow.holds Try.pinned (OpenSpec.ofChange clockOrderWrong)

/-- 'pantilelaw25.ClockDoes': WHATEVER THE INPUT: true; the input reads as it did. -/
def clockDoesSpec : ChangeSpec := { name := "clockDoes", fn := fun _ => fun
  | [d1, d2] => { results := [.lit (.bool true)], args := [d1, d2] }
  | _ => none }
def clockDoesRow : OpenClaim := { program := "ytehbonhdhblpgaa", sum := "74c03e831d14c86f6c663724133c0334925b1a84d9ab03ef51bdd1d7403e8076", func := "pantile/pantilelaw25.ClockDoes", spec := "clockDoes", unfollowed := true, recurses := true, apart := false }
def ClockDoesSaid : Prop := clockDoesRow.holds Try.pinned (OpenSpec.ofChange clockDoesSpec)

/-- ITS FALSE NEIGHBOUR: 'it returns false'. Refute it at one input. -/
def clockDoesWrong : ChangeSpec := { name := "clockDoes", fn := fun _ => fun
  | [d1, d2] => { results := [.lit (.bool false)], args := [d1, d2] }
  | _ => none }
def ClockDoesWrongFalsely : Prop := clockDoesRow.holds Try.pinned (OpenSpec.ofChange clockDoesWrong)

/-- 'pantilelaw25.ClockRounds': WHATEVER THE INPUT: true; the input reads as it did. -/
def clockRoundsSpec : ChangeSpec := { name := "clockRounds", fn := fun _ => fun
  | [d] => { results := [.lit (.bool true)], args := [d] }
  | _ => none }
def clockRoundsRow : OpenClaim := { program := "ytehbonhdhblpgaa", sum := "74c03e831d14c86f6c663724133c0334925b1a84d9ab03ef51bdd1d7403e8076", func := "pantile/pantilelaw25.ClockRounds", spec := "clockRounds", unfollowed := true, recurses := true, apart := false }
def ClockRoundsSaid : Prop := clockRoundsRow.holds Try.pinned (OpenSpec.ofChange clockRoundsSpec)

/-- ITS FALSE NEIGHBOUR: 'it returns false'. Refute it at one input. -/
def clockRoundsWrong : ChangeSpec := { name := "clockRounds", fn := fun _ => fun
  | [d] => { results := [.lit (.bool false)], args := [d] }
  | _ => none }
def ClockRoundsWrongFalsely : Prop := clockRoundsRow.holds Try.pinned (OpenSpec.ofChange clockRoundsWrong)

/-- 'pantilelaw25.ClockNone': WHATEVER THE INPUT: true; the input reads as it did. -/
def clockNoneSpec : ChangeSpec := { name := "clockNone", fn := fun _ => fun
  | [d] => { results := [.lit (.bool true)], args := [d] }
  | _ => none }
def clockNoneRow : OpenClaim := { program := "ytehbonhdhblpgaa", sum := "74c03e831d14c86f6c663724133c0334925b1a84d9ab03ef51bdd1d7403e8076", func := "pantile/pantilelaw25.ClockNone", spec := "clockNone", unfollowed := true, recurses := true, apart := false }
def ClockNoneSaid : Prop := clockNoneRow.holds Try.pinned (OpenSpec.ofChange clockNoneSpec)

/-- ITS FALSE NEIGHBOUR: 'it returns false'. Refute it at one input. -/
def clockNoneWrong : ChangeSpec := { name := "clockNone", fn := fun _ => fun
  | [d] => { results := [.lit (.bool false)], args := [d] }
  | _ => none }
def ClockNoneWrongFalsely : Prop := clockNoneRow.holds Try.pinned (OpenSpec.ofChange clockNoneWrong)

/- THE SECOND FORM. 'bulk': how many values and letters a reading holds, each counted each time it is reached (what is shared counts as often as it is met; a slice's spare places count too). A statement '..UptoSaid' is the law's where the arguments, and the package variables that the reading takes, are together of bulk at most 1048576: NARROWER than '..Said'. Prove '..Said' where nothing that the law and all that it calls make is longer than what came in: it says more and counts as full. Else prove '..UptoSaid'. A law counts once. -/
mutual
def uptoBulk {H : Type} : DataW H → Nat
  | .lit (.string bytes) => bytes.length + 1
  | .lit _ => 1
  | .nil => 1
  | .ptr d => uptoBulk d + 1
  | .slice elems spare => uptoBulkAll elems + uptoBulkAll spare + 1
  | .agg parts => uptoBulkAll parts + 1
  | .iface _ d => uptoBulk d + 1
  | .map entries => uptoBulkEntries entries + 1
  | .held _ => 1
def uptoBulkAll {H : Type} : List (DataW H) → Nat
  | [] => 0
  | d :: r => uptoBulk d + uptoBulkAll r
def uptoBulkEntries {H : Type} : List (Lit × DataW H) → Nat
  | [] => 0
  | x :: r => uptoBulkEntry x + uptoBulkEntries r
def uptoBulkEntry {H : Type} : Lit × DataW H → Nat
  | (.string bytes, d) => bytes.length + uptoBulk d + 1
  | (_, d) => uptoBulk d + 1
 end
def uptoSmall : (H : Type) → List (DataW H) → Bool := fun _ ds => decide (uptoBulkAll ds ≤ 1048576)
def OpenSpec.upto (s : _root_.Go.ChangeSpec) : _root_.Go.OpenSpec := { _root_.Go.OpenSpec.ofChange s with cond := some uptoSmall }

/-- 'pantilelaw25.ClockChance', WHERE WHAT IT READS IS OF BULK AT MOST 1048576: true; the input reads as it did. -/
def clockChanceUptoRow : OpenClaim := { program := "ytehbonhdhblpgaa", sum := "74c03e831d14c86f6c663724133c0334925b1a84d9ab03ef51bdd1d7403e8076", func := "pantile/pantilelaw25.ClockChance", spec := "clockChance", unfollowed := true, recurses := true, apart := false, narrowed := true }
def ClockChanceUptoSaid : Prop := clockChanceUptoRow.holds Try.pinned (OpenSpec.upto clockChanceSpec)

/-- 'pantilelaw25.ClockOld', WHERE WHAT IT READS IS OF BULK AT MOST 1048576: true; the input reads as it did. -/
def clockOldUptoRow : OpenClaim := { program := "ytehbonhdhblpgaa", sum := "74c03e831d14c86f6c663724133c0334925b1a84d9ab03ef51bdd1d7403e8076", func := "pantile/pantilelaw25.ClockOld", spec := "clockOld", unfollowed := true, recurses := true, apart := false, narrowed := true }
def ClockOldUptoSaid : Prop := clockOldUptoRow.holds Try.pinned (OpenSpec.upto clockOldSpec)

/-- 'pantilelaw25.ClockOrder', WHERE WHAT IT READS IS OF BULK AT MOST 1048576: true; the input reads as it did. -/
def clockOrderUptoRow : OpenClaim := { program := "ytehbonhdhblpgaa", sum := "74c03e831d14c86f6c663724133c0334925b1a84d9ab03ef51bdd1d7403e8076", func := "pantile/pantilelaw25.ClockOrder", spec := "clockOrder", unfollowed := true, recurses := true, apart := false, narrowed := true }
def ClockOrderUptoSaid : Prop := clockOrderUptoRow.holds Try.pinned (OpenSpec.upto clockOrderSpec)

/-- 'pantilelaw25.ClockDoes', WHERE WHAT IT READS IS OF BULK AT MOST 1048576: true; the input reads as it did. -/
def clockDoesUptoRow : OpenClaim := { program := "ytehbonhdhblpgaa", sum := "74c03e831d14c86f6c663724133c0334925b1a84d9ab03ef51bdd1d7403e8076", func := "pantile/pantilelaw25.ClockDoes", spec := "clockDoes", unfollowed := true, recurses := true, apart := false, narrowed := true }
def ClockDoesUptoSaid : Prop := clockDoesUptoRow.holds Try.pinned (OpenSpec.upto clockDoesSpec)

/-- 'pantilelaw25.ClockRounds', WHERE WHAT IT READS IS OF BULK AT MOST 1048576: true; the input reads as it did. -/
def clockRoundsUptoRow : OpenClaim := { program := "ytehbonhdhblpgaa", sum := "74c03e831d14c86f6c663724133c0334925b1a84d9ab03ef51bdd1d7403e8076", func := "pantile/pantilelaw25.ClockRounds", spec := "clockRounds", unfollowed := true, recurses := true, apart := false, narrowed := true }
def ClockRoundsUptoSaid : Prop := clockRoundsUptoRow.holds Try.pinned (OpenSpec.upto clockRoundsSpec)

/-- 'pantilelaw25.ClockNone', WHERE WHAT IT READS IS OF BULK AT MOST 1048576: true; the input reads as it did. -/
def clockNoneUptoRow : OpenClaim := { program := "ytehbonhdhblpgaa", sum := "74c03e831d14c86f6c663724133c0334925b1a84d9ab03ef51bdd1d7403e8076", func := "pantile/pantilelaw25.ClockNone", spec := "clockNone", unfollowed := true, recurses := true, apart := false, narrowed := true }
def ClockNoneUptoSaid : Prop := clockNoneUptoRow.holds Try.pinned (OpenSpec.upto clockNoneSpec)

end Rows
end Go.Proofs.Ytehbonhdhblpgaa

/-
  No cell of these rows narrows 'for every input' (looked for: loops, veiled, ifaces, maps, wideKeys, modest, calm, conditions, laid).
  DERIVED. THE GIVEN ROWS OF THIS SEAT. 6 by the template 'for every input the law returns true; each argument reads behind the call as it read before'; 0 by the template 'total and deterministic' (their statements: YtmjkcmpanoepgaaTotals.lean).
  GIVEN WITH THE SEED: the statements are not yours to turn. If you find one false, say at which input.
  Laid BY PROGRAM, IN A SANDBOX (cutbox-rows.mjs): the forced cells as the released guide's own fill.sh prints them over the translation b46f8022e3a10a95… (all of the seat's roots in one cut). By AI agents, Wed Nov 11 2026. No macro, syntax, notation, axiom, sorry.
-/
import Derived.Test.YtmjkcmpanoepgaaChecked
import GoSem.Claim
import GoSem.ClaimJoined
import GoSem.ClaimMapViews
import Derived.JoinedTies
import Derived.KernelRfl
namespace Go.Proofs.Ytmjkcmpanoepgaa
/- THE CELL 'sum', in the pinned program and in every row, IS THE sha256 OF THE DUMP (.gsa) THAT YtmjkcmpanoepgaaProg.lean LOADS. Nothing in Lean hashes anything: it is a label: what it is worth is what the hold of that sum in a sandbox is worth. -/
noncomputable def Try.pinned : Pinned := { name := "ytmjkcmpanoepgaa", sum := "b46f8022e3a10a9566730c156165fe16eccead197938d09d537eeb7cfd09e94b", checked := Try.checked }
namespace Rows
def none {H : Type} : Left H := { results := [], args := [] }

/-- 'pantilelaw02.RamEnds': WHATEVER THE INPUT: true; the input reads as it did. -/
def ramEndsSpec : ChangeSpec := { name := "ramEnds", fn := fun _ => fun
  | [d1, d2] => { results := [.lit (.bool true)], args := [d1, d2] }
  | _ => none }
def ramEndsRow : OpenClaim := { program := "ytmjkcmpanoepgaa", sum := "b46f8022e3a10a9566730c156165fe16eccead197938d09d537eeb7cfd09e94b", func := "pantile/pantilelaw02.RamEnds", spec := "ramEnds", apart := false }
def RamEndsSaid : Prop := ramEndsRow.holds Try.pinned (OpenSpec.ofChange ramEndsSpec)

/-- ITS FALSE NEIGHBOUR: 'it returns false'. Refute it at one input. -/
def ramEndsWrong : ChangeSpec := { name := "ramEnds", fn := fun _ => fun
  | [d1, d2] => { results := [.lit (.bool false)], args := [d1, d2] }
  | _ => none }
def RamEndsWrongFalsely : Prop := ramEndsRow.holds Try.pinned (OpenSpec.ofChange ramEndsWrong)

/-- 'pantilelaw02.RamWords': WHATEVER THE INPUT: true; the input reads as it did. -/
def ramWordsSpec : ChangeSpec := { name := "ramWords", fn := fun _ => fun
  | [d] => { results := [.lit (.bool true)], args := [d] }
  | _ => none }
def ramWordsRow : OpenClaim := { program := "ytmjkcmpanoepgaa", sum := "b46f8022e3a10a9566730c156165fe16eccead197938d09d537eeb7cfd09e94b", func := "pantile/pantilelaw02.RamWords", spec := "ramWords", apart := false }
def RamWordsSaid : Prop := ramWordsRow.holds Try.pinned (OpenSpec.ofChange ramWordsSpec)

/-- ITS FALSE NEIGHBOUR: 'it returns false'. Refute it at one input. -/
def ramWordsWrong : ChangeSpec := { name := "ramWords", fn := fun _ => fun
  | [d] => { results := [.lit (.bool false)], args := [d] }
  | _ => none }
def RamWordsWrongFalsely : Prop := ramWordsRow.holds Try.pinned (OpenSpec.ofChange ramWordsWrong)

/-- 'pantilelaw02.RamDoes': WHATEVER THE INPUT: true; the input reads as it did. -/
def ramDoesSpec : ChangeSpec := { name := "ramDoes", fn := fun _ => fun
  | [d1, d2, d3] => { results := [.lit (.bool true)], args := [d1, d2, d3] }
  | _ => none }
def ramDoesRow : OpenClaim := { program := "ytmjkcmpanoepgaa", sum := "b46f8022e3a10a9566730c156165fe16eccead197938d09d537eeb7cfd09e94b", func := "pantile/pantilelaw02.RamDoes", spec := "ramDoes", apart := false }
def RamDoesSaid : Prop := ramDoesRow.holds Try.pinned (OpenSpec.ofChange ramDoesSpec)

/-- ITS FALSE NEIGHBOUR: 'it returns false'. Refute it at one input. -/
def ramDoesWrong : ChangeSpec := { name := "ramDoes", fn := fun _ => fun
  | [d1, d2, d3] => { results := [.lit (.bool false)], args := [d1, d2, d3] }
  | _ => none }
def RamDoesWrongFalsely : Prop := ramDoesRow.holds Try.pinned (OpenSpec.ofChange ramDoesWrong)

/-- 'pantilelaw02.RamApart': WHATEVER THE INPUT: true; the input reads as it did. -/
def ramApartSpec : ChangeSpec := { name := "ramApart", fn := fun _ => fun
  | [d1, d2] => { results := [.lit (.bool true)], args := [d1, d2] }
  | _ => none }
def ramApartRow : OpenClaim := { program := "ytmjkcmpanoepgaa", sum := "b46f8022e3a10a9566730c156165fe16eccead197938d09d537eeb7cfd09e94b", func := "pantile/pantilelaw02.RamApart", spec := "ramApart", apart := false }
def RamApartSaid : Prop := ramApartRow.holds Try.pinned (OpenSpec.ofChange ramApartSpec)

/-- ITS FALSE NEIGHBOUR: 'it returns false'. Refute it at one input. -/
def ramApartWrong : ChangeSpec := { name := "ramApart", fn := fun _ => fun
  | [d1, d2] => { results := [.lit (.bool false)], args := [d1, d2] }
  | _ => none }
def RamApartWrongFalsely : Prop := ramApartRow.holds Try.pinned (OpenSpec.ofChange ramApartWrong)

/-- 'pantilelaw02.RamCopies': WHATEVER THE INPUT: true; the input reads as it did. -/
def ramCopiesSpec : ChangeSpec := { name := "ramCopies", fn := fun _ => fun
  | [d] => { results := [.lit (.bool true)], args := [d] }
  | _ => none }
def ramCopiesRow : OpenClaim := { program := "ytmjkcmpanoepgaa", sum := "b46f8022e3a10a9566730c156165fe16eccead197938d09d537eeb7cfd09e94b", func := "pantile/pantilelaw02.RamCopies", spec := "ramCopies", apart := false }
def RamCopiesSaid : Prop := ramCopiesRow.holds Try.pinned (OpenSpec.ofChange ramCopiesSpec)

/-- ITS FALSE NEIGHBOUR: 'it returns false'. Refute it at one input. -/
def ramCopiesWrong : ChangeSpec := { name := "ramCopies", fn := fun _ => fun
  | [d] => { results := [.lit (.bool false)], args := [d] }
  | _ => none }
def RamCopiesWrongFalsely : Prop := ramCopiesRow.holds Try.pinned (OpenSpec.ofChange ramCopiesWrong)

/-- 'pantilelaw02.RamNone': WHATEVER THE INPUT: true; the input reads as it did. -/
def ramNoneSpec : ChangeSpec := { name := "ramNone", fn := fun _ => fun
  | [d] => { results := [.lit (.bool true)], args := [d] }
  | _ => none }
def ramNoneRow : OpenClaim := { program := "ytmjkcmpanoepgaa", sum := "b46f8022e3a10a9566730c156165fe16eccead197938d09d537eeb7cfd09e94b", func := "pantile/pantilelaw02.RamNone", spec := "ramNone", apart := false }
def RamNoneSaid : Prop := ramNoneRow.holds Try.pinned (OpenSpec.ofChange ramNoneSpec)

/-- ITS FALSE NEIGHBOUR: 'it returns false'. Refute it at one input. -/
def ramNoneWrong : ChangeSpec := { name := "ramNone", fn := fun _ => fun
  | [d] => { results := [.lit (.bool false)], args := [d] }
  | _ => none }
def RamNoneWrongFalsely : Prop := ramNoneRow.holds Try.pinned (OpenSpec.ofChange ramNoneWrong)

/- THE SECOND FORM. 'bulk': how many values and letters a reading holds, each counted each time it is reached (what is shared counts as often as it is met; a slice's spare places count too). A statement '..UptoSaid' is the law's where the arguments, and the package variables that the reading takes, are together of bulk at most 1048576: NARROWER than '..Said'. Prove '..Said' where nothing that the law and all that it calls make is longer than what came in: it says more and counts as full. Else prove '..UptoSaid'. A law counts once. -/
mutual
def uptoBulk {H : Type} : DataW H → Nat
  | .lit (.string bytes) => bytes.length + 1
  | .lit _ => 1
  | .nil => 1
  | .ptr d => uptoBulk d + 1
  | .slice elems spare => uptoBulkAll elems + uptoBulkAll spare + 1
  | .agg parts => uptoBulkAll parts + 1
  | .iface _ d => uptoBulk d + 1
  | .map entries => uptoBulkEntries entries + 1
  | .held _ => 1
def uptoBulkAll {H : Type} : List (DataW H) → Nat
  | [] => 0
  | d :: r => uptoBulk d + uptoBulkAll r
def uptoBulkEntries {H : Type} : List (Lit × DataW H) → Nat
  | [] => 0
  | x :: r => uptoBulkEntry x + uptoBulkEntries r
def uptoBulkEntry {H : Type} : Lit × DataW H → Nat
  | (.string bytes, d) => bytes.length + uptoBulk d + 1
  | (_, d) => uptoBulk d + 1
 end
def uptoSmall : (H : Type) → List (DataW H) → Bool := fun _ ds => decide (uptoBulkAll ds ≤ 1048576)
def OpenSpec.upto (s : _root_.Go.ChangeSpec) : _root_.Go.OpenSpec := { _root_.Go.OpenSpec.ofChange s with cond := some uptoSmall }

/-- 'pantilelaw02.RamEnds', WHERE WHAT IT READS IS OF BULK AT MOST 1048576: true; the input reads as it did. -/
def ramEndsUptoRow : OpenClaim := { program := "ytmjkcmpanoepgaa", sum := "b46f8022e3a10a9566730c156165fe16eccead197938d09d537eeb7cfd09e94b", func := "pantile/pantilelaw02.RamEnds", spec := "ramEnds", apart := false, narrowed := true }
def RamEndsUptoSaid : Prop := ramEndsUptoRow.holds Try.pinned (OpenSpec.upto ramEndsSpec)

/-- 'pantilelaw02.RamWords', WHERE WHAT IT READS IS OF BULK AT MOST 1048576: true; the input reads as it did. -/
def ramWordsUptoRow : OpenClaim := { program := "ytmjkcmpanoepgaa", sum := "b46f8022e3a10a9566730c156165fe16eccead197938d09d537eeb7cfd09e94b", func := "pantile/pantilelaw02.RamWords", spec := "ramWords", apart := false, narrowed := true }
def RamWordsUptoSaid : Prop := ramWordsUptoRow.holds Try.pinned (OpenSpec.upto ramWordsSpec)

/-- 'pantilelaw02.RamDoes', WHERE WHAT IT READS IS OF BULK AT MOST 1048576: true; the input reads as it did. -/
def ramDoesUptoRow : OpenClaim := { program := "ytmjkcmpanoepgaa", sum := "b46f8022e3a10a9566730c156165fe16eccead197938d09d537eeb7cfd09e94b", func := "pantile/pantilelaw02.RamDoes", spec := "ramDoes", apart := false, narrowed := true }
def RamDoesUptoSaid : Prop := ramDoesUptoRow.holds Try.pinned (OpenSpec.upto ramDoesSpec)

/-- 'pantilelaw02.RamApart', WHERE WHAT IT READS IS OF BULK AT MOST 1048576: true; the input reads as it did. -/
def ramApartUptoRow : OpenClaim := { program := "ytmjkcmpanoepgaa", sum := "b46f8022e3a10a9566730c156165fe16eccead197938d09d537eeb7cfd09e94b", func := "pantile/pantilelaw02.RamApart", spec := "ramApart", apart := false, narrowed := true }
def RamApartUptoSaid : Prop := ramApartUptoRow.holds Try.pinned (OpenSpec.upto ramApartSpec)

/-- 'pantilelaw02.RamCopies', WHERE WHAT IT READS IS OF BULK AT MOST 1048576: true; the input reads as it did. -/
def ramCopiesUptoRow : OpenClaim := { program := "ytmjkcmpanoepgaa", sum := "b46f8022e3a10a9566730c156165fe16eccead197938d09d537eeb7cfd09e94b", func := "pantile/pantilelaw02.RamCopies", spec := "ramCopies", apart := false, narrowed := true }
def RamCopiesUptoSaid : Prop := ramCopiesUptoRow.holds Try.pinned (OpenSpec.upto ramCopiesSpec)

/-- 'pantilelaw02.RamNone', WHERE WHAT IT READS IS OF BULK AT MOST 1048576: true; the input reads as it did. -/
def ramNoneUptoRow : OpenClaim := { program := "ytmjkcmpanoepgaa", sum := "b46f8022e3a10a9566730c156165fe16eccead197938d09d537eeb7cfd09e94b", func := "pantile/pantilelaw02.RamNone", spec := "ramNone", apart := false, narrowed := true }
def RamNoneUptoSaid : Prop := ramNoneUptoRow.holds Try.pinned (OpenSpec.upto ramNoneSpec)

end Rows
end Go.Proofs.Ytmjkcmpanoepgaa

/-
  No cell of these rows narrows 'for every input' (looked for: loops, veiled, ifaces, maps, wideKeys, modest, calm, conditions, laid).
  DERIVED. THE GIVEN ROWS OF THIS SEAT. 6 by the template 'for every input the law returns true; each argument reads behind the call as it read before'; 0 by the template 'total and deterministic' (their statements: YtnbolfjijhbfbaaTotals.lean).
  GIVEN WITH THE SEED: the statements are not yours to turn. If you find one false, say at which input.
  Laid BY PROGRAM, IN A SANDBOX (cutbox-rows.mjs): the forced cells as the released guide's own fill.sh prints them over the translation 67797179344f1fc8… (all of the seat's roots in one cut). By AI agents, Wed Nov 11 2026. No macro, syntax, notation, axiom, sorry.
-/
import Derived.Test.YtnbolfjijhbfbaaChecked
import GoSem.Claim
import GoSem.ClaimJoined
import GoSem.ClaimMapViews
import Derived.JoinedTies
import Derived.KernelRfl
namespace Go.Proofs.Ytnbolfjijhbfbaa
/- THE CELL 'sum', in the pinned program and in every row, IS THE sha256 OF THE DUMP (.gsa) THAT YtnbolfjijhbfbaaProg.lean LOADS. Nothing in Lean hashes anything: it is a label: what it is worth is what the hold of that sum in a sandbox is worth. -/
noncomputable def Try.pinned : Pinned := { name := "ytnbolfjijhbfbaa", sum := "67797179344f1fc8e2a54e7a1af4919ec369e32d94367fe675b4efea7aba5b77", checked := Try.checked }
namespace Rows
def none {H : Type} : Left H := { results := [], args := [] }

/-- 'pantilelaw01.EntryPacks': WHATEVER THE INPUT: true; the input reads as it did. -/
def entryPacksSpec : ChangeSpec := { name := "entryPacks", fn := fun _ => fun
  | [d] => { results := [.lit (.bool true)], args := [d] }
  | _ => none }
def entryPacksRow : OpenClaim := { program := "ytnbolfjijhbfbaa", sum := "67797179344f1fc8e2a54e7a1af4919ec369e32d94367fe675b4efea7aba5b77", func := "pantile/pantilelaw01.EntryPacks", spec := "entryPacks", unfollowed := true, recurses := true, apart := false }
def EntryPacksSaid : Prop := entryPacksRow.holds Try.pinned (OpenSpec.ofChange entryPacksSpec)

/-- ITS FALSE NEIGHBOUR: 'it returns false'. Refute it at one input. -/
def entryPacksWrong : ChangeSpec := { name := "entryPacks", fn := fun _ => fun
  | [d] => { results := [.lit (.bool false)], args := [d] }
  | _ => none }
def EntryPacksWrongFalsely : Prop := entryPacksRow.holds Try.pinned (OpenSpec.ofChange entryPacksWrong)

/-- 'pantilelaw01.EntryUnpacks': WHATEVER THE INPUT: true; the input reads as it did. -/
def entryUnpacksSpec : ChangeSpec := { name := "entryUnpacks", fn := fun _ => fun
  | [d] => { results := [.lit (.bool true)], args := [d] }
  | _ => none }
def entryUnpacksRow : OpenClaim := { program := "ytnbolfjijhbfbaa", sum := "67797179344f1fc8e2a54e7a1af4919ec369e32d94367fe675b4efea7aba5b77", func := "pantile/pantilelaw01.EntryUnpacks", spec := "entryUnpacks", unfollowed := true, recurses := true, apart := false }
def EntryUnpacksSaid : Prop := entryUnpacksRow.holds Try.pinned (OpenSpec.ofChange entryUnpacksSpec)

/-- ITS FALSE NEIGHBOUR: 'it returns false'. Refute it at one input. -/
def entryUnpacksWrong : ChangeSpec := { name := "entryUnpacks", fn := fun _ => fun
  | [d] => { results := [.lit (.bool false)], args := [d] }
  | _ => none }
def EntryUnpacksWrongFalsely : Prop := entryUnpacksRow.holds Try.pinned (OpenSpec.ofChange entryUnpacksWrong)

/-- 'pantilelaw01.EntryBack': WHATEVER THE INPUT: true; the input reads as it did. -/
def entryBackSpec : ChangeSpec := { name := "entryBack", fn := fun _ => fun
  | [d1, d2] => { results := [.lit (.bool true)], args := [d1, d2] }
  | _ => none }
def entryBackRow : OpenClaim := { program := "ytnbolfjijhbfbaa", sum := "67797179344f1fc8e2a54e7a1af4919ec369e32d94367fe675b4efea7aba5b77", func := "pantile/pantilelaw01.EntryBack", spec := "entryBack", unfollowed := true, recurses := true, apart := false }
def EntryBackSaid : Prop := entryBackRow.holds Try.pinned (OpenSpec.ofChange entryBackSpec)

/-- ITS FALSE NEIGHBOUR: 'it returns false'. Refute it at one input. -/
def entryBackWrong : ChangeSpec := { name := "entryBack", fn := fun _ => fun
  | [d1, d2] => { results := [.lit (.bool false)], args := [d1, d2] }
  | _ => none }
def EntryBackWrongFalsely : Prop := entryBackRow.holds Try.pinned (OpenSpec.ofChange entryBackWrong)

/-- 'pantilelaw01.EntryApart': WHATEVER THE INPUT: true; the input reads as it did. -/
def entryApartSpec : ChangeSpec := { name := "entryApart", fn := fun _ => fun
  | [d1, d2] => { results := [.lit (.bool true)], args := [d1, d2] }
  | _ => none }
def entryApartRow : OpenClaim := { program := "ytnbolfjijhbfbaa", sum := "67797179344f1fc8e2a54e7a1af4919ec369e32d94367fe675b4efea7aba5b77", func := "pantile/pantilelaw01.EntryApart", spec := "entryApart", unfollowed := true, recurses := true, apart := false }
def EntryApartSaid : Prop := entryApartRow.holds Try.pinned (OpenSpec.ofChange entryApartSpec)

/-- ITS FALSE NEIGHBOUR: 'it returns false'. Refute it at one input. -/
def entryApartWrong : ChangeSpec := { name := "entryApart", fn := fun _ => fun
  | [d1, d2] => { results := [.lit (.bool false)], args := [d1, d2] }
  | _ => none }
def EntryApartWrongFalsely : Prop := entryApartRow.holds Try.pinned (OpenSpec.ofChange entryApartWrong)

/-- 'pantilelaw01.EntryAllows': WHATEVER THE INPUT: true; the input reads as it did. -/
def entryAllowsSpec : ChangeSpec := { name := "entryAllows", fn := fun _ => fun
  | [d1, d2] => { results := [.lit (.bool true)], args := [d1, d2] }
  | _ => none }
def entryAllowsRow : OpenClaim := { program := "ytnbolfjijhbfbaa", sum := "67797179344f1fc8e2a54e7a1af4919ec369e32d94367fe675b4efea7aba5b77", func := "pantile/pantilelaw01.EntryAllows", spec := "entryAllows", unfollowed := true, recurses := true, apart := false }
def EntryAllowsSaid : Prop := entryAllowsRow.holds Try.pinned (OpenSpec.ofChange entryAllowsSpec)

/-- ITS FALSE NEIGHBOUR: 'it returns false'. Refute it at one input. -/
def entryAllowsWrong : ChangeSpec := { name := "entryAllows", fn := fun _ => fun
  | [d1, d2] => { results := [.lit (.bool false)], args := [d1, d2] }
  | _ => none }
def EntryAllowsWrongFalsely : Prop := entryAllowsRow.holds Try.pinned (OpenSpec.ofChange entryAllowsWrong)

/-- 'pantilelaw01.EntryKeeps': WHATEVER THE INPUT: true; the input reads as it did. -/
def entryKeepsSpec : ChangeSpec := { name := "entryKeeps", fn := fun _ => fun
  | [d1, d2] => { results := [.lit (.bool true)], args := [d1, d2] }
  | _ => none }
def entryKeepsRow : OpenClaim := { program := "ytnbolfjijhbfbaa", sum := "67797179344f1fc8e2a54e7a1af4919ec369e32d94367fe675b4efea7aba5b77", func := "pantile/pantilelaw01.EntryKeeps", spec := "entryKeeps", unfollowed := true, recurses := true, apart := false }
def EntryKeepsSaid : Prop := entryKeepsRow.holds Try.pinned (OpenSpec.ofChange entryKeepsSpec)

/-- ITS FALSE NEIGHBOUR: 'it returns false'. Refute it at one input. -/
def entryKeepsWrong : ChangeSpec := { name := "entryKeeps", fn := fun _ => fun
  | [d1, d2] => { results := [.lit (.bool false)], args := [d1, d2] }
  | _ => none }
def EntryKeepsWrongFalsely : Prop := entryKeepsRow.holds Try.pinned (OpenSpec.ofChange entryKeepsWrong)

/- THE SECOND FORM. 'bulk': how many values and letters a reading holds, each counted each time it is reached (what is shared counts as often as it is met; a slice's spare places count too). A statement '..UptoSaid' is the law's where the arguments, and the package variables that the reading takes, are together of bulk at most 1048576: NARROWER than '..Said'. Prove '..Said' where nothing that the law and all that it calls make is longer than what came in: it says more and counts as full. Else prove '..UptoSaid'. A law counts once. -/
mutual
def uptoBulk {H : Type} : DataW H → Nat
  | .lit (.string bytes) => bytes.length + 1
  | .lit _ => 1
  | .nil => 1
  | .ptr d => uptoBulk d + 1
  | .slice elems spare => uptoBulkAll elems + uptoBulkAll spare + 1
  | .agg parts => uptoBulkAll parts + 1
  | .iface _ d => uptoBulk d + 1
  | .map entries => uptoBulkEntries entries + 1
  | .held _ => 1
def uptoBulkAll {H : Type} : List (DataW H) → Nat
  | [] => 0
  | d :: r => uptoBulk d + uptoBulkAll r
def uptoBulkEntries {H : Type} : List (Lit × DataW H) → Nat
  | [] => 0
  | x :: r => uptoBulkEntry x + uptoBulkEntries r
def uptoBulkEntry {H : Type} : Lit × DataW H → Nat
  | (.string bytes, d) => bytes.length + uptoBulk d + 1
  | (_, d) => uptoBulk d + 1
 end
def uptoSmall : (H : Type) → List (DataW H) → Bool := fun _ ds => decide (uptoBulkAll ds ≤ 1048576)
def OpenSpec.upto (s : _root_.Go.ChangeSpec) : _root_.Go.OpenSpec := { _root_.Go.OpenSpec.ofChange s with cond := some uptoSmall }

/-- 'pantilelaw01.EntryPacks', WHERE WHAT IT READS IS OF BULK AT MOST 1048576: true; the input reads as it did. -/
def entryPacksUptoRow : OpenClaim := { program := "ytnbolfjijhbfbaa", sum := "67797179344f1fc8e2a54e7a1af4919ec369e32d94367fe675b4efea7aba5b77", func := "pantile/pantilelaw01.EntryPacks", spec := "entryPacks", unfollowed := true, recurses := true, apart := false, narrowed := true }
def EntryPacksUptoSaid : Prop := entryPacksUptoRow.holds Try.pinned (OpenSpec.upto entryPacksSpec)

/-- 'pantilelaw01.EntryUnpacks', WHERE WHAT IT READS IS OF BULK AT MOST 1048576: true; the input reads as it did. -/
def entryUnpacksUptoRow : OpenClaim := { program := "ytnbolfjijhbfbaa", sum := "67797179344f1fc8e2a54e7a1af4919ec369e32d94367fe675b4efea7aba5b77", func := "pantile/pantilelaw01.EntryUnpacks", spec := "entryUnpacks", unfollowed := true, recurses := true, apart := false, narrowed := true }
def EntryUnpacksUptoSaid : Prop := entryUnpacksUptoRow.holds Try.pinned (OpenSpec.upto entryUnpacksSpec)

/-- 'pantilelaw01.EntryBack', WHERE WHAT IT READS IS OF BULK AT MOST 1048576: true; the input reads as it did. -/
def entryBackUptoRow : OpenClaim := { program := "ytnbolfjijhbfbaa", sum := "67797179344f1fc8e2a54e7a1af4919ec369e32d94367fe675b4efea7aba5b77", func := "pantile/pantilelaw01.EntryBack", spec := "entryBack", unfollowed := true, recurses := true, apart := false, narrowed := true }
def EntryBackUptoSaid : Prop := entryBackUptoRow.holds Try.pinned (OpenSpec.upto entryBackSpec)

/-- 'pantilelaw01.EntryApart', WHERE WHAT IT READS IS OF BULK AT MOST 1048576: true; the input reads as it did. -/
def entryApartUptoRow : OpenClaim := { program := "ytnbolfjijhbfbaa", sum := "67797179344f1fc8e2a54e7a1af4919ec369e32d94367fe675b4efea7aba5b77", func := "pantile/pantilelaw01.EntryApart", spec := "entryApart", unfollowed := true, recurses := true, apart := false, narrowed := true }
def EntryApartUptoSaid : Prop := entryApartUptoRow.holds Try.pinned (OpenSpec.upto entryApartSpec)

/-- 'pantilelaw01.EntryAllows', WHERE WHAT IT READS IS OF BULK AT MOST 1048576: true; the input reads as it did. -/
def entryAllowsUptoRow : OpenClaim := { program := "ytnbolfjijhbfbaa", sum := "67797179344f1fc8e2a54e7a1af4919ec369e32d94367fe675b4efea7aba5b77", func := "pantile/pantilelaw01.EntryAllows", spec := "entryAllows", unfollowed := true, recurses := true, apart := false, narrowed := true }
def EntryAllowsUptoSaid : Prop := entryAllowsUptoRow.holds Try.pinned (OpenSpec.upto entryAllowsSpec)

/-- 'pantilelaw01.EntryKeeps', WHERE WHAT IT READS IS OF BULK AT MOST 1048576: true; the input reads as it did. -/
def entryKeepsUptoRow : OpenClaim := { program := "ytnbolfjijhbfbaa", sum := "67797179344f1fc8e2a54e7a1af4919ec369e32d94367fe675b4efea7aba5b77", func := "pantile/pantilelaw01.EntryKeeps", spec := "entryKeeps", unfollowed := true, recurses := true, apart := false, narrowed := true }
def EntryKeepsUptoSaid : Prop := entryKeepsUptoRow.holds Try.pinned (OpenSpec.upto entryKeepsSpec)

end Rows
end Go.Proofs.Ytnbolfjijhbfbaa

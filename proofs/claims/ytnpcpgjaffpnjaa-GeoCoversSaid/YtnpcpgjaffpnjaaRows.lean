/-
  No cell of these rows narrows 'for every input' (looked for: loops, veiled, ifaces, maps, wideKeys, modest, calm, conditions, laid).
  DERIVED. THE GIVEN ROWS OF THIS SEAT. 6 by the template 'for every input the law returns true; each argument reads behind the call as it read before'; 0 by the template 'total and deterministic' (their statements: YtnpcpgjaffpnjaaTotals.lean).
  GIVEN WITH THE SEED: the statements are not yours to turn. If you find one false, say at which input.
  Laid BY PROGRAM, IN A SANDBOX (cutbox-rows.mjs): the forced cells as the released guide's own fill.sh prints them over the translation 6f00abb11dd70759… (all of the seat's roots in one cut). By AI agents, Wed Nov 11 2026. No macro, syntax, notation, axiom, sorry.
-/
import Derived.Test.YtnpcpgjaffpnjaaChecked
import GoSem.Claim
import GoSem.ClaimJoined
import GoSem.ClaimMapViews
import Derived.JoinedTies
import Derived.KernelRfl
namespace Go.Proofs.Ytnpcpgjaffpnjaa
/- THE CELL 'sum', in the pinned program and in every row, IS THE sha256 OF THE DUMP (.gsa) THAT YtnpcpgjaffpnjaaProg.lean LOADS. Nothing in Lean hashes anything: it is a label: what it is worth is what the hold of that sum in a sandbox is worth. -/
noncomputable def Try.pinned : Pinned := { name := "ytnpcpgjaffpnjaa", sum := "6f00abb11dd70759d3317ca3dc4854b62ba15c7db1bc34a0ed7186c1e613a95e", checked := Try.checked }
namespace Rows
def none {H : Type} : Left H := { results := [], args := [] }

/-- 'pantilelaw03.GeoDigits': WHATEVER THE INPUT: true; the input reads as it did. -/
def geoDigitsSpec : ChangeSpec := { name := "geoDigits", fn := fun _ => fun
  | [d1, d2] => { results := [.lit (.bool true)], args := [d1, d2] }
  | _ => none }
def geoDigitsRow : OpenClaim := { program := "ytnpcpgjaffpnjaa", sum := "6f00abb11dd70759d3317ca3dc4854b62ba15c7db1bc34a0ed7186c1e613a95e", func := "pantile/pantilelaw03.GeoDigits", spec := "geoDigits", unfollowed := true, recurses := true, apart := false }
def GeoDigitsSaid : Prop := geoDigitsRow.holds Try.pinned (OpenSpec.ofChange geoDigitsSpec)

/-- ITS FALSE NEIGHBOUR: 'it returns false'. Refute it at one input. -/
def geoDigitsWrong : ChangeSpec := { name := "geoDigits", fn := fun _ => fun
  | [d1, d2] => { results := [.lit (.bool false)], args := [d1, d2] }
  | _ => none }
def GeoDigitsWrongFalsely : Prop := geoDigitsRow.holds Try.pinned (OpenSpec.ofChange geoDigitsWrong)

/-- 'pantilelaw03.GeoBack': WHATEVER THE INPUT: true; the input reads as it did. -/
def geoBackSpec : ChangeSpec := { name := "geoBack", fn := fun _ => fun
  | [d] => { results := [.lit (.bool true)], args := [d] }
  | _ => none }
def geoBackRow : OpenClaim := { program := "ytnpcpgjaffpnjaa", sum := "6f00abb11dd70759d3317ca3dc4854b62ba15c7db1bc34a0ed7186c1e613a95e", func := "pantile/pantilelaw03.GeoBack", spec := "geoBack", unfollowed := true, recurses := true, apart := false }
def GeoBackSaid : Prop := geoBackRow.holds Try.pinned (OpenSpec.ofChange geoBackSpec)

/-- ITS FALSE NEIGHBOUR: 'it returns false'. Refute it at one input. -/
def geoBackWrong : ChangeSpec := { name := "geoBack", fn := fun _ => fun
  | [d] => { results := [.lit (.bool false)], args := [d] }
  | _ => none }
def GeoBackWrongFalsely : Prop := geoBackRow.holds Try.pinned (OpenSpec.ofChange geoBackWrong)

/-- 'pantilelaw03.GeoEven': WHATEVER THE INPUT: true; the input reads as it did. -/
def geoEvenSpec : ChangeSpec := { name := "geoEven", fn := fun _ => fun
  | [d1, d2, d3] => { results := [.lit (.bool true)], args := [d1, d2, d3] }
  | _ => none }
def geoEvenRow : OpenClaim := { program := "ytnpcpgjaffpnjaa", sum := "6f00abb11dd70759d3317ca3dc4854b62ba15c7db1bc34a0ed7186c1e613a95e", func := "pantile/pantilelaw03.GeoEven", spec := "geoEven", unfollowed := true, recurses := true, apart := false }
def GeoEvenSaid : Prop := geoEvenRow.holds Try.pinned (OpenSpec.ofChange geoEvenSpec)

/-- ITS FALSE NEIGHBOUR: 'it returns false'. Refute it at one input. -/
def geoEvenWrong : ChangeSpec := { name := "geoEven", fn := fun _ => fun
  | [d1, d2, d3] => { results := [.lit (.bool false)], args := [d1, d2, d3] }
  | _ => none }
def GeoEvenWrongFalsely : Prop := geoEvenRow.holds Try.pinned (OpenSpec.ofChange geoEvenWrong)

/-- 'pantilelaw03.GeoCuts': WHATEVER THE INPUT: true; the input reads as it did. -/
def geoCutsSpec : ChangeSpec := { name := "geoCuts", fn := fun _ => fun
  | [d1, d2, d3] => { results := [.lit (.bool true)], args := [d1, d2, d3] }
  | _ => none }
def geoCutsRow : OpenClaim := { program := "ytnpcpgjaffpnjaa", sum := "6f00abb11dd70759d3317ca3dc4854b62ba15c7db1bc34a0ed7186c1e613a95e", func := "pantile/pantilelaw03.GeoCuts", spec := "geoCuts", unfollowed := true, recurses := true, apart := false }
def GeoCutsSaid : Prop := geoCutsRow.holds Try.pinned (OpenSpec.ofChange geoCutsSpec)

/-- ITS FALSE NEIGHBOUR: 'it returns false'. Refute it at one input. -/
def geoCutsWrong : ChangeSpec := { name := "geoCuts", fn := fun _ => fun
  | [d1, d2, d3] => { results := [.lit (.bool false)], args := [d1, d2, d3] }
  | _ => none }
def GeoCutsWrongFalsely : Prop := geoCutsRow.holds Try.pinned (OpenSpec.ofChange geoCutsWrong)

/-- 'pantilelaw03.GeoCovers': WHATEVER THE INPUT: true; the input reads as it did. -/
def geoCoversSpec : ChangeSpec := { name := "geoCovers", fn := fun _ => fun
  | [d1, d2, d3] => { results := [.lit (.bool true)], args := [d1, d2, d3] }
  | _ => none }
def geoCoversRow : OpenClaim := { program := "ytnpcpgjaffpnjaa", sum := "6f00abb11dd70759d3317ca3dc4854b62ba15c7db1bc34a0ed7186c1e613a95e", func := "pantile/pantilelaw03.GeoCovers", spec := "geoCovers", unfollowed := true, recurses := true, apart := false }
def GeoCoversSaid : Prop := geoCoversRow.holds Try.pinned (OpenSpec.ofChange geoCoversSpec)

/-- ITS FALSE NEIGHBOUR: 'it returns false'. Refute it at one input. -/
def geoCoversWrong : ChangeSpec := { name := "geoCovers", fn := fun _ => fun
  | [d1, d2, d3] => { results := [.lit (.bool false)], args := [d1, d2, d3] }
  | _ => none }
def GeoCoversWrongFalsely : Prop := geoCoversRow.holds Try.pinned (OpenSpec.ofChange geoCoversWrong)

/-- 'pantilelaw03.GeoDown': WHATEVER THE INPUT: true; the input reads as it did. -/
def geoDownSpec : ChangeSpec := { name := "geoDown", fn := fun _ => fun
  | [d1, d2, d3] => { results := [.lit (.bool true)], args := [d1, d2, d3] }
  | _ => none }
def geoDownRow : OpenClaim := { program := "ytnpcpgjaffpnjaa", sum := "6f00abb11dd70759d3317ca3dc4854b62ba15c7db1bc34a0ed7186c1e613a95e", func := "pantile/pantilelaw03.GeoDown", spec := "geoDown", unfollowed := true, recurses := true, apart := false }
def GeoDownSaid : Prop := geoDownRow.holds Try.pinned (OpenSpec.ofChange geoDownSpec)

/-- ITS FALSE NEIGHBOUR: 'it returns false'. Refute it at one input. -/
def geoDownWrong : ChangeSpec := { name := "geoDown", fn := fun _ => fun
  | [d1, d2, d3] => { results := [.lit (.bool false)], args := [d1, d2, d3] }
  | _ => none }
def GeoDownWrongFalsely : Prop := geoDownRow.holds Try.pinned (OpenSpec.ofChange geoDownWrong)

/- THE SECOND FORM. 'bulk': how many values and letters a reading holds, each counted each time it is reached (what is shared counts as often as it is met; a slice's spare places count too). A statement '..UptoSaid' is the law's where the arguments, and the package variables that the reading takes, are together of bulk at most 1048576: NARROWER than '..Said'. Prove '..Said' where nothing that the law and all that it calls make is longer than what came in: it says more and counts as full. Else prove '..UptoSaid'. A law counts once. -/
mutual
def uptoBulk {H : Type} : DataW H → Nat
  | .lit (.string bytes) => bytes.length + 1
  | .lit _ => 1
  | .nil => 1
  | .ptr d => uptoBulk d + 1
  | .slice elems spare => uptoBulkAll elems + uptoBulkAll spare + 1
  | .agg parts => uptoBulkAll parts + 1
  | .iface _ d => uptoBulk d + 1
  | .map entries => uptoBulkEntries entries + 1
  | .held _ => 1
def uptoBulkAll {H : Type} : List (DataW H) → Nat
  | [] => 0
  | d :: r => uptoBulk d + uptoBulkAll r
def uptoBulkEntries {H : Type} : List (Lit × DataW H) → Nat
  | [] => 0
  | x :: r => uptoBulkEntry x + uptoBulkEntries r
def uptoBulkEntry {H : Type} : Lit × DataW H → Nat
  | (.string bytes, d) => bytes.length + uptoBulk d + 1
  | (_, d) => uptoBulk d + 1
 end
def uptoSmall : (H : Type) → List (DataW H) → Bool := fun _ ds => decide (uptoBulkAll ds ≤ 1048576)
def OpenSpec.upto (s : _root_.Go.ChangeSpec) : _root_.Go.OpenSpec := { _root_.Go.OpenSpec.ofChange s with cond := some uptoSmall }

/-- 'pantilelaw03.GeoDigits', WHERE WHAT IT READS IS OF BULK AT MOST 1048576: true; the input reads as it did. -/
def geoDigitsUptoRow : OpenClaim := { program := "ytnpcpgjaffpnjaa", sum := "6f00abb11dd70759d3317ca3dc4854b62ba15c7db1bc34a0ed7186c1e613a95e", func := "pantile/pantilelaw03.GeoDigits", spec := "geoDigits", unfollowed := true, recurses := true, apart := false, narrowed := true }
def GeoDigitsUptoSaid : Prop := geoDigitsUptoRow.holds Try.pinned (OpenSpec.upto geoDigitsSpec)

/-- 'pantilelaw03.GeoBack', WHERE WHAT IT READS IS OF BULK AT MOST 1048576: true; the input reads as it did. -/
def geoBackUptoRow : OpenClaim := { program := "ytnpcpgjaffpnjaa", sum := "6f00abb11dd70759d3317ca3dc4854b62ba15c7db1bc34a0ed7186c1e613a95e", func := "pantile/pantilelaw03.GeoBack", spec := "geoBack", unfollowed := true, recurses := true, apart := false, narrowed := true }
def GeoBackUptoSaid : Prop := geoBackUptoRow.holds Try.pinned (OpenSpec.upto geoBackSpec)

/-- 'pantilelaw03.GeoEven', WHERE WHAT IT READS IS OF BULK AT MOST 1048576: true; the input reads as it did. -/
def geoEvenUptoRow : OpenClaim := { program := "ytnpcpgjaffpnjaa", sum := "6f00abb11dd70759d3317ca3dc4854b62ba15c7db1bc34a0ed7186c1e613a95e", func := "pantile/pantilelaw03.GeoEven", spec := "geoEven", unfollowed := true, recurses := true, apart := false, narrowed := true }
def GeoEvenUptoSaid : Prop := geoEvenUptoRow.holds Try.pinned (OpenSpec.upto geoEvenSpec)

/-- 'pantilelaw03.GeoCuts', WHERE WHAT IT READS IS OF BULK AT MOST 1048576: true; the input reads as it did. -/
def geoCutsUptoRow : OpenClaim := { program := "ytnpcpgjaffpnjaa", sum := "6f00abb11dd70759d3317ca3dc4854b62ba15c7db1bc34a0ed7186c1e613a95e", func := "pantile/pantilelaw03.GeoCuts", spec := "geoCuts", unfollowed := true, recurses := true, apart := false, narrowed := true }
def GeoCutsUptoSaid : Prop := geoCutsUptoRow.holds Try.pinned (OpenSpec.upto geoCutsSpec)

/-- 'pantilelaw03.GeoCovers', WHERE WHAT IT READS IS OF BULK AT MOST 1048576: true; the input reads as it did. -/
def geoCoversUptoRow : OpenClaim := { program := "ytnpcpgjaffpnjaa", sum := "6f00abb11dd70759d3317ca3dc4854b62ba15c7db1bc34a0ed7186c1e613a95e", func := "pantile/pantilelaw03.GeoCovers", spec := "geoCovers", unfollowed := true, recurses := true, apart := false, narrowed := true }
def GeoCoversUptoSaid : Prop := geoCoversUptoRow.holds Try.pinned (OpenSpec.upto geoCoversSpec)

/-- 'pantilelaw03.GeoDown', WHERE WHAT IT READS IS OF BULK AT MOST 1048576: true; the input reads as it did. -/
def geoDownUptoRow : OpenClaim := { program := "ytnpcpgjaffpnjaa", sum := "6f00abb11dd70759d3317ca3dc4854b62ba15c7db1bc34a0ed7186c1e613a95e", func := "pantile/pantilelaw03.GeoDown", spec := "geoDown", unfollowed := true, recurses := true, apart := false, narrowed := true }
def GeoDownUptoSaid : Prop := geoDownUptoRow.holds Try.pinned (OpenSpec.upto geoDownSpec)

end Rows
end Go.Proofs.Ytnpcpgjaffpnjaa

/-
  No cell of these rows narrows 'for every input' (looked for: loops, veiled, ifaces, maps, wideKeys, modest, calm, conditions, laid).
  DERIVED. THE GIVEN ROWS OF THIS SEAT. 11 by the template 'for every input the law returns true; each argument reads behind the call as it read before'; 0 by the template 'total and deterministic' (their statements: YtbdnellgioimbaaTotals.lean).
  GIVEN WITH THE SEED: the statements are not yours to turn. If you find one false, say at which input.
  Laid BY PROGRAM, IN A SANDBOX (cutbox-rows.mjs): the forced cells as the released guide's own fill.sh prints them over the translation 9a78c930bb1bdec2… (all of the seat's roots in one cut). By AI agents, Wed Nov 11 2026. No macro, syntax, notation, axiom, sorry.
-/
import Derived.Test.YtbdnellgioimbaaChecked
import GoSem.Claim
import GoSem.ClaimJoined
import GoSem.ClaimMapViews
import Derived.JoinedTies
import Derived.KernelRfl
namespace Go.Proofs.Ytbdnellgioimbaa
/- THE CELL 'sum', in the pinned program and in every row, IS THE sha256 OF THE DUMP (.gsa) THAT YtbdnellgioimbaaProg.lean LOADS. Nothing in Lean hashes anything: it is a label: what it is worth is what the hold of that sum in a sandbox is worth. -/
noncomputable def Try.pinned : Pinned := { name := "ytbdnellgioimbaa", sum := "9a78c930bb1bdec262254fdcbe7155ee5bb2de3870edbfe73004f4a3a6f435ca", checked := Try.checked }
namespace Rows
def none {H : Type} : Left H := { results := [], args := [] }

/-- 'laws.FnExactIsHyperelliptic': WHATEVER THE INPUT: true; the input reads as it did. -/
def fnExactIsHyperellipticSpec : ChangeSpec := { name := "fnExactIsHyperelliptic", fn := fun _ => fun
  | [d] => { results := [.lit (.bool true)], args := [d] }
  | _ => none }
def fnExactIsHyperellipticRow : OpenClaim := { program := "ytbdnellgioimbaa", sum := "9a78c930bb1bdec262254fdcbe7155ee5bb2de3870edbfe73004f4a3a6f435ca", func := "loop.example/g00928/laws.FnExactIsHyperelliptic", spec := "fnExactIsHyperelliptic", apart := false }
def FnExactIsHyperellipticSaid : Prop := fnExactIsHyperellipticRow.holds Try.pinned (OpenSpec.ofChange fnExactIsHyperellipticSpec)

/-- ITS FALSE NEIGHBOUR: 'it returns false'. Refute it at one input. -/
def fnExactIsHyperellipticWrong : ChangeSpec := { name := "fnExactIsHyperelliptic", fn := fun _ => fun
  | [d] => { results := [.lit (.bool false)], args := [d] }
  | _ => none }
def FnExactIsHyperellipticWrongFalsely : Prop := fnExactIsHyperellipticRow.holds Try.pinned (OpenSpec.ofChange fnExactIsHyperellipticWrong)

/-- 'laws.FnExactCylindersOf': WHATEVER THE INPUT: true; the input reads as it did. -/
def fnExactCylindersOfSpec : ChangeSpec := { name := "fnExactCylindersOf", fn := fun _ => fun
  | [d] => { results := [.lit (.bool true)], args := [d] }
  | _ => none }
def fnExactCylindersOfRow : OpenClaim := { program := "ytbdnellgioimbaa", sum := "9a78c930bb1bdec262254fdcbe7155ee5bb2de3870edbfe73004f4a3a6f435ca", func := "loop.example/g00928/laws.FnExactCylindersOf", spec := "fnExactCylindersOf", unfollowed := true, recurses := true, apart := false }
def FnExactCylindersOfSaid : Prop := fnExactCylindersOfRow.holds Try.pinned (OpenSpec.ofChange fnExactCylindersOfSpec)

/-- ITS FALSE NEIGHBOUR: 'it returns false'. Refute it at one input. -/
def fnExactCylindersOfWrong : ChangeSpec := { name := "fnExactCylindersOf", fn := fun _ => fun
  | [d] => { results := [.lit (.bool false)], args := [d] }
  | _ => none }
def FnExactCylindersOfWrongFalsely : Prop := fnExactCylindersOfRow.holds Try.pinned (OpenSpec.ofChange fnExactCylindersOfWrong)

/-- 'laws.FnExactLeastShears': WHATEVER THE INPUT: true; the input reads as it did. -/
def fnExactLeastShearsSpec : ChangeSpec := { name := "fnExactLeastShears", fn := fun _ => fun
  | [d] => { results := [.lit (.bool true)], args := [d] }
  | _ => none }
def fnExactLeastShearsRow : OpenClaim := { program := "ytbdnellgioimbaa", sum := "9a78c930bb1bdec262254fdcbe7155ee5bb2de3870edbfe73004f4a3a6f435ca", func := "loop.example/g00928/laws.FnExactLeastShears", spec := "fnExactLeastShears", unfollowed := true, recurses := true, apart := false }
def FnExactLeastShearsSaid : Prop := fnExactLeastShearsRow.holds Try.pinned (OpenSpec.ofChange fnExactLeastShearsSpec)

/-- ITS FALSE NEIGHBOUR: 'it returns false'. Refute it at one input. -/
def fnExactLeastShearsWrong : ChangeSpec := { name := "fnExactLeastShears", fn := fun _ => fun
  | [d] => { results := [.lit (.bool false)], args := [d] }
  | _ => none }
def FnExactLeastShearsWrongFalsely : Prop := fnExactLeastShearsRow.holds Try.pinned (OpenSpec.ofChange fnExactLeastShearsWrong)

/-- 'laws.FnCylinders': WHATEVER THE INPUT: true; the input reads as it did. -/
def fnCylindersSpec : ChangeSpec := { name := "fnCylinders", fn := fun _ => fun
  | [d] => { results := [.lit (.bool true)], args := [d] }
  | _ => none }
def fnCylindersRow : OpenClaim := { program := "ytbdnellgioimbaa", sum := "9a78c930bb1bdec262254fdcbe7155ee5bb2de3870edbfe73004f4a3a6f435ca", func := "loop.example/g00928/laws.FnCylinders", spec := "fnCylinders", unfollowed := true, recurses := true, apart := false }
def FnCylindersSaid : Prop := fnCylindersRow.holds Try.pinned (OpenSpec.ofChange fnCylindersSpec)

/-- ITS FALSE NEIGHBOUR: 'it returns false'. Refute it at one input. -/
def fnCylindersWrong : ChangeSpec := { name := "fnCylinders", fn := fun _ => fun
  | [d] => { results := [.lit (.bool false)], args := [d] }
  | _ => none }
def FnCylindersWrongFalsely : Prop := fnCylindersRow.holds Try.pinned (OpenSpec.ofChange fnCylindersWrong)

/-- 'laws.FnExactPathText': WHATEVER THE INPUT: true; the input reads as it did. -/
def fnExactPathTextSpec : ChangeSpec := { name := "fnExactPathText", fn := fun _ => fun
  | [d1, d2, d3, d4] => { results := [.lit (.bool true)], args := [d1, d2, d3, d4] }
  | _ => none }
def fnExactPathTextRow : OpenClaim := { program := "ytbdnellgioimbaa", sum := "9a78c930bb1bdec262254fdcbe7155ee5bb2de3870edbfe73004f4a3a6f435ca", func := "loop.example/g00928/laws.FnExactPathText", spec := "fnExactPathText", inPlace := ["internal/abi.NoEscape", "internal/bytealg.MakeNoZero"], apart := false }
def FnExactPathTextSaid : Prop := fnExactPathTextRow.holds Try.pinned (OpenSpec.ofChange fnExactPathTextSpec)

/-- ITS FALSE NEIGHBOUR: 'it returns false'. Refute it at one input. -/
def fnExactPathTextWrong : ChangeSpec := { name := "fnExactPathText", fn := fun _ => fun
  | [d1, d2, d3, d4] => { results := [.lit (.bool false)], args := [d1, d2, d3, d4] }
  | _ => none }
def FnExactPathTextWrongFalsely : Prop := fnExactPathTextRow.holds Try.pinned (OpenSpec.ofChange fnExactPathTextWrong)

/-- 'laws.FnExactPathSquares': WHATEVER THE INPUT: true; the input reads as it did. -/
def fnExactPathSquaresSpec : ChangeSpec := { name := "fnExactPathSquares", fn := fun _ => fun
  | [d1, d2, d3, d4] => { results := [.lit (.bool true)], args := [d1, d2, d3, d4] }
  | _ => none }
def fnExactPathSquaresRow : OpenClaim := { program := "ytbdnellgioimbaa", sum := "9a78c930bb1bdec262254fdcbe7155ee5bb2de3870edbfe73004f4a3a6f435ca", func := "loop.example/g00928/laws.FnExactPathSquares", spec := "fnExactPathSquares", inPlace := ["internal/abi.NoEscape", "internal/bytealg.MakeNoZero"], apart := false }
def FnExactPathSquaresSaid : Prop := fnExactPathSquaresRow.holds Try.pinned (OpenSpec.ofChange fnExactPathSquaresSpec)

/-- ITS FALSE NEIGHBOUR: 'it returns false'. Refute it at one input. -/
def fnExactPathSquaresWrong : ChangeSpec := { name := "fnExactPathSquares", fn := fun _ => fun
  | [d1, d2, d3, d4] => { results := [.lit (.bool false)], args := [d1, d2, d3, d4] }
  | _ => none }
def FnExactPathSquaresWrongFalsely : Prop := fnExactPathSquaresRow.holds Try.pinned (OpenSpec.ofChange fnExactPathSquaresWrong)

/-- 'laws.FnExactVisits': WHATEVER THE INPUT: true; the input reads as it did. -/
def fnExactVisitsSpec : ChangeSpec := { name := "fnExactVisits", fn := fun _ => fun
  | [d1, d2, d3, d4] => { results := [.lit (.bool true)], args := [d1, d2, d3, d4] }
  | _ => none }
def fnExactVisitsRow : OpenClaim := { program := "ytbdnellgioimbaa", sum := "9a78c930bb1bdec262254fdcbe7155ee5bb2de3870edbfe73004f4a3a6f435ca", func := "loop.example/g00928/laws.FnExactVisits", spec := "fnExactVisits", inPlace := ["internal/abi.NoEscape", "internal/bytealg.MakeNoZero"], apart := false }
def FnExactVisitsSaid : Prop := fnExactVisitsRow.holds Try.pinned (OpenSpec.ofChange fnExactVisitsSpec)

/-- ITS FALSE NEIGHBOUR: 'it returns false'. Refute it at one input. -/
def fnExactVisitsWrong : ChangeSpec := { name := "fnExactVisits", fn := fun _ => fun
  | [d1, d2, d3, d4] => { results := [.lit (.bool false)], args := [d1, d2, d3, d4] }
  | _ => none }
def FnExactVisitsWrongFalsely : Prop := fnExactVisitsRow.holds Try.pinned (OpenSpec.ofChange fnExactVisitsWrong)

/-- 'laws.FnPaths': WHATEVER THE INPUT: true; the input reads as it did. -/
def fnPathsSpec : ChangeSpec := { name := "fnPaths", fn := fun _ => fun
  | [d] => { results := [.lit (.bool true)], args := [d] }
  | _ => none }
def fnPathsRow : OpenClaim := { program := "ytbdnellgioimbaa", sum := "9a78c930bb1bdec262254fdcbe7155ee5bb2de3870edbfe73004f4a3a6f435ca", func := "loop.example/g00928/laws.FnPaths", spec := "fnPaths", inPlace := ["internal/abi.NoEscape", "internal/bytealg.MakeNoZero"], apart := false }
def FnPathsSaid : Prop := fnPathsRow.holds Try.pinned (OpenSpec.ofChange fnPathsSpec)

/-- ITS FALSE NEIGHBOUR: 'it returns false'. Refute it at one input. -/
def fnPathsWrong : ChangeSpec := { name := "fnPaths", fn := fun _ => fun
  | [d] => { results := [.lit (.bool false)], args := [d] }
  | _ => none }
def FnPathsWrongFalsely : Prop := fnPathsRow.holds Try.pinned (OpenSpec.ofChange fnPathsWrong)

/-- 'laws.FnExactCylindersIn': WHATEVER THE INPUT: true; the input reads as it did. -/
def fnExactCylindersInSpec : ChangeSpec := { name := "fnExactCylindersIn", fn := fun _ => fun
  | [d1, d2, d3] => { results := [.lit (.bool true)], args := [d1, d2, d3] }
  | _ => none }
def fnExactCylindersInRow : OpenClaim := { program := "ytbdnellgioimbaa", sum := "9a78c930bb1bdec262254fdcbe7155ee5bb2de3870edbfe73004f4a3a6f435ca", func := "loop.example/g00928/laws.FnExactCylindersIn", spec := "fnExactCylindersIn", inPlace := ["internal/bytealg.IndexByteString"], unfollowed := true, recurses := true, apart := false }
def FnExactCylindersInSaid : Prop := fnExactCylindersInRow.holds Try.pinned (OpenSpec.ofChange fnExactCylindersInSpec)

/-- ITS FALSE NEIGHBOUR: 'it returns false'. Refute it at one input. -/
def fnExactCylindersInWrong : ChangeSpec := { name := "fnExactCylindersIn", fn := fun _ => fun
  | [d1, d2, d3] => { results := [.lit (.bool false)], args := [d1, d2, d3] }
  | _ => none }
def FnExactCylindersInWrongFalsely : Prop := fnExactCylindersInRow.holds Try.pinned (OpenSpec.ofChange fnExactCylindersInWrong)

/-- 'laws.FnExactIsOneCylinder': WHATEVER THE INPUT: true; the input reads as it did. -/
def fnExactIsOneCylinderSpec : ChangeSpec := { name := "fnExactIsOneCylinder", fn := fun _ => fun
  | [d1, d2, d3] => { results := [.lit (.bool true)], args := [d1, d2, d3] }
  | _ => none }
def fnExactIsOneCylinderRow : OpenClaim := { program := "ytbdnellgioimbaa", sum := "9a78c930bb1bdec262254fdcbe7155ee5bb2de3870edbfe73004f4a3a6f435ca", func := "loop.example/g00928/laws.FnExactIsOneCylinder", spec := "fnExactIsOneCylinder", inPlace := ["internal/bytealg.IndexByteString"], unfollowed := true, recurses := true, apart := false }
def FnExactIsOneCylinderSaid : Prop := fnExactIsOneCylinderRow.holds Try.pinned (OpenSpec.ofChange fnExactIsOneCylinderSpec)

/-- ITS FALSE NEIGHBOUR: 'it returns false'. Refute it at one input. -/
def fnExactIsOneCylinderWrong : ChangeSpec := { name := "fnExactIsOneCylinder", fn := fun _ => fun
  | [d1, d2, d3] => { results := [.lit (.bool false)], args := [d1, d2, d3] }
  | _ => none }
def FnExactIsOneCylinderWrongFalsely : Prop := fnExactIsOneCylinderRow.holds Try.pinned (OpenSpec.ofChange fnExactIsOneCylinderWrong)

/-- 'laws.FnDirections': WHATEVER THE INPUT: true; the input reads as it did. -/
def fnDirectionsSpec : ChangeSpec := { name := "fnDirections", fn := fun _ => fun
  | [d] => { results := [.lit (.bool true)], args := [d] }
  | _ => none }
def fnDirectionsRow : OpenClaim := { program := "ytbdnellgioimbaa", sum := "9a78c930bb1bdec262254fdcbe7155ee5bb2de3870edbfe73004f4a3a6f435ca", func := "loop.example/g00928/laws.FnDirections", spec := "fnDirections", inPlace := ["internal/bytealg.IndexByteString"], unfollowed := true, recurses := true, apart := false }
def FnDirectionsSaid : Prop := fnDirectionsRow.holds Try.pinned (OpenSpec.ofChange fnDirectionsSpec)

/-- ITS FALSE NEIGHBOUR: 'it returns false'. Refute it at one input. -/
def fnDirectionsWrong : ChangeSpec := { name := "fnDirections", fn := fun _ => fun
  | [d] => { results := [.lit (.bool false)], args := [d] }
  | _ => none }
def FnDirectionsWrongFalsely : Prop := fnDirectionsRow.holds Try.pinned (OpenSpec.ofChange fnDirectionsWrong)

/- THE SECOND FORM. 'bulk': how many values and letters a reading holds, each counted each time it is reached (what is shared counts as often as it is met; a slice's spare places count too). A statement '..UptoSaid' is the law's where the arguments, and the package variables that the reading takes, are together of bulk at most 1048576: NARROWER than '..Said'. Prove '..Said' where nothing that the law and all that it calls make is longer than what came in: it says more and counts as full. Else prove '..UptoSaid'. A law counts once. -/
mutual
def uptoBulk {H : Type} : DataW H → Nat
  | .lit (.string bytes) => bytes.length + 1
  | .lit _ => 1
  | .nil => 1
  | .ptr d => uptoBulk d + 1
  | .slice elems spare => uptoBulkAll elems + uptoBulkAll spare + 1
  | .agg parts => uptoBulkAll parts + 1
  | .iface _ d => uptoBulk d + 1
  | .map entries => uptoBulkEntries entries + 1
  | .held _ => 1
def uptoBulkAll {H : Type} : List (DataW H) → Nat
  | [] => 0
  | d :: r => uptoBulk d + uptoBulkAll r
def uptoBulkEntries {H : Type} : List (Lit × DataW H) → Nat
  | [] => 0
  | x :: r => uptoBulkEntry x + uptoBulkEntries r
def uptoBulkEntry {H : Type} : Lit × DataW H → Nat
  | (.string bytes, d) => bytes.length + uptoBulk d + 1
  | (_, d) => uptoBulk d + 1
 end
def uptoSmall : (H : Type) → List (DataW H) → Bool := fun _ ds => decide (uptoBulkAll ds ≤ 1048576)
def OpenSpec.upto (s : _root_.Go.ChangeSpec) : _root_.Go.OpenSpec := { _root_.Go.OpenSpec.ofChange s with cond := some uptoSmall }

/-- 'laws.FnExactIsHyperelliptic', WHERE WHAT IT READS IS OF BULK AT MOST 1048576: true; the input reads as it did. -/
def fnExactIsHyperellipticUptoRow : OpenClaim := { program := "ytbdnellgioimbaa", sum := "9a78c930bb1bdec262254fdcbe7155ee5bb2de3870edbfe73004f4a3a6f435ca", func := "loop.example/g00928/laws.FnExactIsHyperelliptic", spec := "fnExactIsHyperelliptic", apart := false, narrowed := true }
def FnExactIsHyperellipticUptoSaid : Prop := fnExactIsHyperellipticUptoRow.holds Try.pinned (OpenSpec.upto fnExactIsHyperellipticSpec)

/-- 'laws.FnExactCylindersOf', WHERE WHAT IT READS IS OF BULK AT MOST 1048576: true; the input reads as it did. -/
def fnExactCylindersOfUptoRow : OpenClaim := { program := "ytbdnellgioimbaa", sum := "9a78c930bb1bdec262254fdcbe7155ee5bb2de3870edbfe73004f4a3a6f435ca", func := "loop.example/g00928/laws.FnExactCylindersOf", spec := "fnExactCylindersOf", unfollowed := true, recurses := true, apart := false, narrowed := true }
def FnExactCylindersOfUptoSaid : Prop := fnExactCylindersOfUptoRow.holds Try.pinned (OpenSpec.upto fnExactCylindersOfSpec)

/-- 'laws.FnExactLeastShears', WHERE WHAT IT READS IS OF BULK AT MOST 1048576: true; the input reads as it did. -/
def fnExactLeastShearsUptoRow : OpenClaim := { program := "ytbdnellgioimbaa", sum := "9a78c930bb1bdec262254fdcbe7155ee5bb2de3870edbfe73004f4a3a6f435ca", func := "loop.example/g00928/laws.FnExactLeastShears", spec := "fnExactLeastShears", unfollowed := true, recurses := true, apart := false, narrowed := true }
def FnExactLeastShearsUptoSaid : Prop := fnExactLeastShearsUptoRow.holds Try.pinned (OpenSpec.upto fnExactLeastShearsSpec)

/-- 'laws.FnCylinders', WHERE WHAT IT READS IS OF BULK AT MOST 1048576: true; the input reads as it did. -/
def fnCylindersUptoRow : OpenClaim := { program := "ytbdnellgioimbaa", sum := "9a78c930bb1bdec262254fdcbe7155ee5bb2de3870edbfe73004f4a3a6f435ca", func := "loop.example/g00928/laws.FnCylinders", spec := "fnCylinders", unfollowed := true, recurses := true, apart := false, narrowed := true }
def FnCylindersUptoSaid : Prop := fnCylindersUptoRow.holds Try.pinned (OpenSpec.upto fnCylindersSpec)

/-- 'laws.FnExactPathText', WHERE WHAT IT READS IS OF BULK AT MOST 1048576: true; the input reads as it did. -/
def fnExactPathTextUptoRow : OpenClaim := { program := "ytbdnellgioimbaa", sum := "9a78c930bb1bdec262254fdcbe7155ee5bb2de3870edbfe73004f4a3a6f435ca", func := "loop.example/g00928/laws.FnExactPathText", spec := "fnExactPathText", inPlace := ["internal/abi.NoEscape", "internal/bytealg.MakeNoZero"], apart := false, narrowed := true }
def FnExactPathTextUptoSaid : Prop := fnExactPathTextUptoRow.holds Try.pinned (OpenSpec.upto fnExactPathTextSpec)

/-- 'laws.FnExactPathSquares', WHERE WHAT IT READS IS OF BULK AT MOST 1048576: true; the input reads as it did. -/
def fnExactPathSquaresUptoRow : OpenClaim := { program := "ytbdnellgioimbaa", sum := "9a78c930bb1bdec262254fdcbe7155ee5bb2de3870edbfe73004f4a3a6f435ca", func := "loop.example/g00928/laws.FnExactPathSquares", spec := "fnExactPathSquares", inPlace := ["internal/abi.NoEscape", "internal/bytealg.MakeNoZero"], apart := false, narrowed := true }
def FnExactPathSquaresUptoSaid : Prop := fnExactPathSquaresUptoRow.holds Try.pinned (OpenSpec.upto fnExactPathSquaresSpec)

/-- 'laws.FnExactVisits', WHERE WHAT IT READS IS OF BULK AT MOST 1048576: true; the input reads as it did. -/
def fnExactVisitsUptoRow : OpenClaim := { program := "ytbdnellgioimbaa", sum := "9a78c930bb1bdec262254fdcbe7155ee5bb2de3870edbfe73004f4a3a6f435ca", func := "loop.example/g00928/laws.FnExactVisits", spec := "fnExactVisits", inPlace := ["internal/abi.NoEscape", "internal/bytealg.MakeNoZero"], apart := false, narrowed := true }
def FnExactVisitsUptoSaid : Prop := fnExactVisitsUptoRow.holds Try.pinned (OpenSpec.upto fnExactVisitsSpec)

/-- 'laws.FnPaths', WHERE WHAT IT READS IS OF BULK AT MOST 1048576: true; the input reads as it did. -/
def fnPathsUptoRow : OpenClaim := { program := "ytbdnellgioimbaa", sum := "9a78c930bb1bdec262254fdcbe7155ee5bb2de3870edbfe73004f4a3a6f435ca", func := "loop.example/g00928/laws.FnPaths", spec := "fnPaths", inPlace := ["internal/abi.NoEscape", "internal/bytealg.MakeNoZero"], apart := false, narrowed := true }
def FnPathsUptoSaid : Prop := fnPathsUptoRow.holds Try.pinned (OpenSpec.upto fnPathsSpec)

/-- 'laws.FnExactCylindersIn', WHERE WHAT IT READS IS OF BULK AT MOST 1048576: true; the input reads as it did. -/
def fnExactCylindersInUptoRow : OpenClaim := { program := "ytbdnellgioimbaa", sum := "9a78c930bb1bdec262254fdcbe7155ee5bb2de3870edbfe73004f4a3a6f435ca", func := "loop.example/g00928/laws.FnExactCylindersIn", spec := "fnExactCylindersIn", inPlace := ["internal/bytealg.IndexByteString"], unfollowed := true, recurses := true, apart := false, narrowed := true }
def FnExactCylindersInUptoSaid : Prop := fnExactCylindersInUptoRow.holds Try.pinned (OpenSpec.upto fnExactCylindersInSpec)

/-- 'laws.FnExactIsOneCylinder', WHERE WHAT IT READS IS OF BULK AT MOST 1048576: true; the input reads as it did. -/
def fnExactIsOneCylinderUptoRow : OpenClaim := { program := "ytbdnellgioimbaa", sum := "9a78c930bb1bdec262254fdcbe7155ee5bb2de3870edbfe73004f4a3a6f435ca", func := "loop.example/g00928/laws.FnExactIsOneCylinder", spec := "fnExactIsOneCylinder", inPlace := ["internal/bytealg.IndexByteString"], unfollowed := true, recurses := true, apart := false, narrowed := true }
def FnExactIsOneCylinderUptoSaid : Prop := fnExactIsOneCylinderUptoRow.holds Try.pinned (OpenSpec.upto fnExactIsOneCylinderSpec)

/-- 'laws.FnDirections', WHERE WHAT IT READS IS OF BULK AT MOST 1048576: true; the input reads as it did. -/
def fnDirectionsUptoRow : OpenClaim := { program := "ytbdnellgioimbaa", sum := "9a78c930bb1bdec262254fdcbe7155ee5bb2de3870edbfe73004f4a3a6f435ca", func := "loop.example/g00928/laws.FnDirections", spec := "fnDirections", inPlace := ["internal/bytealg.IndexByteString"], unfollowed := true, recurses := true, apart := false, narrowed := true }
def FnDirectionsUptoSaid : Prop := fnDirectionsUptoRow.holds Try.pinned (OpenSpec.upto fnDirectionsSpec)

end Rows
end Go.Proofs.Ytbdnellgioimbaa

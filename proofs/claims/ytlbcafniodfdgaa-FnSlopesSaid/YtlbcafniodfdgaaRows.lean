/-
  No cell of these rows narrows 'for every input' (looked for: loops, veiled, ifaces, maps, wideKeys, modest, calm, conditions, laid).
  DERIVED. THE GIVEN ROWS OF THIS SEAT. 12 by the template 'for every input the law returns true; each argument reads behind the call as it read before'; 0 by the template 'total and deterministic' (their statements: YtlbcafniodfdgaaTotals.lean).
  GIVEN WITH THE SEED: the statements are not yours to turn. If you find one false, say at which input.
  Laid BY PROGRAM, IN A SANDBOX (cutbox-rows.mjs): the forced cells as the released guide's own fill.sh prints them over the translation bce9063ca2bfa8c9… (all of the seat's roots in one cut). By AI agents, Wed Nov 11 2026. No macro, syntax, notation, axiom, sorry.
-/
import Derived.Test.YtlbcafniodfdgaaChecked
import GoSem.Claim
import GoSem.ClaimJoined
import GoSem.ClaimMapViews
import Derived.JoinedTies
import Derived.KernelRfl
namespace Go.Proofs.Ytlbcafniodfdgaa
/- THE CELL 'sum', in the pinned program and in every row, IS THE sha256 OF THE DUMP (.gsa) THAT YtlbcafniodfdgaaProg.lean LOADS. Nothing in Lean hashes anything: it is a label: what it is worth is what the hold of that sum in a sandbox is worth. -/
noncomputable def Try.pinned : Pinned := { name := "ytlbcafniodfdgaa", sum := "bce9063ca2bfa8c91607a34e7abe4ae5d03f5849484683fa5ddc8d9fb8b23320", checked := Try.checked }
namespace Rows
def none {H : Type} : Left H := { results := [], args := [] }

/-- 'laws.FnExactAreaOf': WHATEVER THE INPUT: true; the input reads as it did. -/
def fnExactAreaOfSpec : ChangeSpec := { name := "fnExactAreaOf", fn := fun _ => fun
  | [d] => { results := [.lit (.bool true)], args := [d] }
  | _ => none }
def fnExactAreaOfRow : OpenClaim := { program := "ytlbcafniodfdgaa", sum := "bce9063ca2bfa8c91607a34e7abe4ae5d03f5849484683fa5ddc8d9fb8b23320", func := "loop.example/g00928/laws.FnExactAreaOf", spec := "fnExactAreaOf", apart := false }
def FnExactAreaOfSaid : Prop := fnExactAreaOfRow.holds Try.pinned (OpenSpec.ofChange fnExactAreaOfSpec)

/-- ITS FALSE NEIGHBOUR: 'it returns false'. Refute it at one input. -/
def fnExactAreaOfWrong : ChangeSpec := { name := "fnExactAreaOf", fn := fun _ => fun
  | [d] => { results := [.lit (.bool false)], args := [d] }
  | _ => none }
def FnExactAreaOfWrongFalsely : Prop := fnExactAreaOfRow.holds Try.pinned (OpenSpec.ofChange fnExactAreaOfWrong)

/-- 'laws.FnExactIsTurn': WHATEVER THE INPUT: true; the input reads as it did. -/
def fnExactIsTurnSpec : ChangeSpec := { name := "fnExactIsTurn", fn := fun _ => fun
  | [d1, d2] => { results := [.lit (.bool true)], args := [d1, d2] }
  | _ => none }
def fnExactIsTurnRow : OpenClaim := { program := "ytlbcafniodfdgaa", sum := "bce9063ca2bfa8c91607a34e7abe4ae5d03f5849484683fa5ddc8d9fb8b23320", func := "loop.example/g00928/laws.FnExactIsTurn", spec := "fnExactIsTurn", apart := false }
def FnExactIsTurnSaid : Prop := fnExactIsTurnRow.holds Try.pinned (OpenSpec.ofChange fnExactIsTurnSpec)

/-- ITS FALSE NEIGHBOUR: 'it returns false'. Refute it at one input. -/
def fnExactIsTurnWrong : ChangeSpec := { name := "fnExactIsTurn", fn := fun _ => fun
  | [d1, d2] => { results := [.lit (.bool false)], args := [d1, d2] }
  | _ => none }
def FnExactIsTurnWrongFalsely : Prop := fnExactIsTurnRow.holds Try.pinned (OpenSpec.ofChange fnExactIsTurnWrong)

/-- 'laws.FnExactSlopeFrom': WHATEVER THE INPUT: true; the input reads as it did. -/
def fnExactSlopeFromSpec : ChangeSpec := { name := "fnExactSlopeFrom", fn := fun _ => fun
  | [d] => { results := [.lit (.bool true)], args := [d] }
  | _ => none }
def fnExactSlopeFromRow : OpenClaim := { program := "ytlbcafniodfdgaa", sum := "bce9063ca2bfa8c91607a34e7abe4ae5d03f5849484683fa5ddc8d9fb8b23320", func := "loop.example/g00928/laws.FnExactSlopeFrom", spec := "fnExactSlopeFrom", inPlace := ["internal/bytealg.CountString", "internal/bytealg.IndexByteString", "internal/bytealg.IndexString"], named := ["internal/bytealg.MaxLen"], apart := false }
def FnExactSlopeFromSaid : Prop := fnExactSlopeFromRow.holds Try.pinned (OpenSpec.ofChange fnExactSlopeFromSpec)

/-- ITS FALSE NEIGHBOUR: 'it returns false'. Refute it at one input. -/
def fnExactSlopeFromWrong : ChangeSpec := { name := "fnExactSlopeFrom", fn := fun _ => fun
  | [d] => { results := [.lit (.bool false)], args := [d] }
  | _ => none }
def FnExactSlopeFromWrongFalsely : Prop := fnExactSlopeFromRow.holds Try.pinned (OpenSpec.ofChange fnExactSlopeFromWrong)

/-- 'laws.FnExactRowsOf': WHATEVER THE INPUT: true; the input reads as it did. -/
def fnExactRowsOfSpec : ChangeSpec := { name := "fnExactRowsOf", fn := fun _ => fun
  | [d] => { results := [.lit (.bool true)], args := [d] }
  | _ => none }
def fnExactRowsOfRow : OpenClaim := { program := "ytlbcafniodfdgaa", sum := "bce9063ca2bfa8c91607a34e7abe4ae5d03f5849484683fa5ddc8d9fb8b23320", func := "loop.example/g00928/laws.FnExactRowsOf", spec := "fnExactRowsOf", apart := false }
def FnExactRowsOfSaid : Prop := fnExactRowsOfRow.holds Try.pinned (OpenSpec.ofChange fnExactRowsOfSpec)

/-- ITS FALSE NEIGHBOUR: 'it returns false'. Refute it at one input. -/
def fnExactRowsOfWrong : ChangeSpec := { name := "fnExactRowsOf", fn := fun _ => fun
  | [d] => { results := [.lit (.bool false)], args := [d] }
  | _ => none }
def FnExactRowsOfWrongFalsely : Prop := fnExactRowsOfRow.holds Try.pinned (OpenSpec.ofChange fnExactRowsOfWrong)

/-- 'laws.FnSlopes': WHATEVER THE INPUT: true; the input reads as it did. -/
def fnSlopesSpec : ChangeSpec := { name := "fnSlopes", fn := fun _ => fun
  | [d] => { results := [.lit (.bool true)], args := [d] }
  | _ => none }
def fnSlopesRow : OpenClaim := { program := "ytlbcafniodfdgaa", sum := "bce9063ca2bfa8c91607a34e7abe4ae5d03f5849484683fa5ddc8d9fb8b23320", func := "loop.example/g00928/laws.FnSlopes", spec := "fnSlopes", inPlace := ["internal/bytealg.CountString", "internal/bytealg.IndexByteString", "internal/bytealg.IndexString"], named := ["internal/bytealg.MaxLen"], apart := false }
def FnSlopesSaid : Prop := fnSlopesRow.holds Try.pinned (OpenSpec.ofChange fnSlopesSpec)

/-- ITS FALSE NEIGHBOUR: 'it returns false'. Refute it at one input. -/
def fnSlopesWrong : ChangeSpec := { name := "fnSlopes", fn := fun _ => fun
  | [d] => { results := [.lit (.bool false)], args := [d] }
  | _ => none }
def FnSlopesWrongFalsely : Prop := fnSlopesRow.holds Try.pinned (OpenSpec.ofChange fnSlopesWrong)

/-- 'laws.FnExactPathRounds': WHATEVER THE INPUT: true; the input reads as it did. -/
def fnExactPathRoundsSpec : ChangeSpec := { name := "fnExactPathRounds", fn := fun _ => fun
  | [d1, d2, d3, d4] => { results := [.lit (.bool true)], args := [d1, d2, d3, d4] }
  | _ => none }
def fnExactPathRoundsRow : OpenClaim := { program := "ytlbcafniodfdgaa", sum := "bce9063ca2bfa8c91607a34e7abe4ae5d03f5849484683fa5ddc8d9fb8b23320", func := "loop.example/g00928/laws.FnExactPathRounds", spec := "fnExactPathRounds", apart := false }
def FnExactPathRoundsSaid : Prop := fnExactPathRoundsRow.holds Try.pinned (OpenSpec.ofChange fnExactPathRoundsSpec)

/-- ITS FALSE NEIGHBOUR: 'it returns false'. Refute it at one input. -/
def fnExactPathRoundsWrong : ChangeSpec := { name := "fnExactPathRounds", fn := fun _ => fun
  | [d1, d2, d3, d4] => { results := [.lit (.bool false)], args := [d1, d2, d3, d4] }
  | _ => none }
def FnExactPathRoundsWrongFalsely : Prop := fnExactPathRoundsRow.holds Try.pinned (OpenSpec.ofChange fnExactPathRoundsWrong)

/-- 'laws.FnExactPathPerm': WHATEVER THE INPUT: true; the input reads as it did. -/
def fnExactPathPermSpec : ChangeSpec := { name := "fnExactPathPerm", fn := fun _ => fun
  | [d1, d2, d3] => { results := [.lit (.bool true)], args := [d1, d2, d3] }
  | _ => none }
def fnExactPathPermRow : OpenClaim := { program := "ytlbcafniodfdgaa", sum := "bce9063ca2bfa8c91607a34e7abe4ae5d03f5849484683fa5ddc8d9fb8b23320", func := "loop.example/g00928/laws.FnExactPathPerm", spec := "fnExactPathPerm", apart := false }
def FnExactPathPermSaid : Prop := fnExactPathPermRow.holds Try.pinned (OpenSpec.ofChange fnExactPathPermSpec)

/-- ITS FALSE NEIGHBOUR: 'it returns false'. Refute it at one input. -/
def fnExactPathPermWrong : ChangeSpec := { name := "fnExactPathPerm", fn := fun _ => fun
  | [d1, d2, d3] => { results := [.lit (.bool false)], args := [d1, d2, d3] }
  | _ => none }
def FnExactPathPermWrongFalsely : Prop := fnExactPathPermRow.holds Try.pinned (OpenSpec.ofChange fnExactPathPermWrong)

/-- 'laws.FnExactTurnsOf': WHATEVER THE INPUT: true; the input reads as it did. -/
def fnExactTurnsOfSpec : ChangeSpec := { name := "fnExactTurnsOf", fn := fun _ => fun
  | [d] => { results := [.lit (.bool true)], args := [d] }
  | _ => none }
def fnExactTurnsOfRow : OpenClaim := { program := "ytlbcafniodfdgaa", sum := "bce9063ca2bfa8c91607a34e7abe4ae5d03f5849484683fa5ddc8d9fb8b23320", func := "loop.example/g00928/laws.FnExactTurnsOf", spec := "fnExactTurnsOf", apart := false }
def FnExactTurnsOfSaid : Prop := fnExactTurnsOfRow.holds Try.pinned (OpenSpec.ofChange fnExactTurnsOfSpec)

/-- ITS FALSE NEIGHBOUR: 'it returns false'. Refute it at one input. -/
def fnExactTurnsOfWrong : ChangeSpec := { name := "fnExactTurnsOf", fn := fun _ => fun
  | [d] => { results := [.lit (.bool false)], args := [d] }
  | _ => none }
def FnExactTurnsOfWrongFalsely : Prop := fnExactTurnsOfRow.holds Try.pinned (OpenSpec.ofChange fnExactTurnsOfWrong)

/-- 'laws.FnExactRowAbove': WHATEVER THE INPUT: true; the input reads as it did. -/
def fnExactRowAboveSpec : ChangeSpec := { name := "fnExactRowAbove", fn := fun _ => fun
  | [d1, d2] => { results := [.lit (.bool true)], args := [d1, d2] }
  | _ => none }
def fnExactRowAboveRow : OpenClaim := { program := "ytlbcafniodfdgaa", sum := "bce9063ca2bfa8c91607a34e7abe4ae5d03f5849484683fa5ddc8d9fb8b23320", func := "loop.example/g00928/laws.FnExactRowAbove", spec := "fnExactRowAbove", apart := false }
def FnExactRowAboveSaid : Prop := fnExactRowAboveRow.holds Try.pinned (OpenSpec.ofChange fnExactRowAboveSpec)

/-- ITS FALSE NEIGHBOUR: 'it returns false'. Refute it at one input. -/
def fnExactRowAboveWrong : ChangeSpec := { name := "fnExactRowAbove", fn := fun _ => fun
  | [d1, d2] => { results := [.lit (.bool false)], args := [d1, d2] }
  | _ => none }
def FnExactRowAboveWrongFalsely : Prop := fnExactRowAboveRow.holds Try.pinned (OpenSpec.ofChange fnExactRowAboveWrong)

/-- 'laws.FnExactCountFixed': WHATEVER THE INPUT: true; the input reads as it did. -/
def fnExactCountFixedSpec : ChangeSpec := { name := "fnExactCountFixed", fn := fun _ => fun
  | [d1, d2] => { results := [.lit (.bool true)], args := [d1, d2] }
  | _ => none }
def fnExactCountFixedRow : OpenClaim := { program := "ytlbcafniodfdgaa", sum := "bce9063ca2bfa8c91607a34e7abe4ae5d03f5849484683fa5ddc8d9fb8b23320", func := "loop.example/g00928/laws.FnExactCountFixed", spec := "fnExactCountFixed", apart := false }
def FnExactCountFixedSaid : Prop := fnExactCountFixedRow.holds Try.pinned (OpenSpec.ofChange fnExactCountFixedSpec)

/-- ITS FALSE NEIGHBOUR: 'it returns false'. Refute it at one input. -/
def fnExactCountFixedWrong : ChangeSpec := { name := "fnExactCountFixed", fn := fun _ => fun
  | [d1, d2] => { results := [.lit (.bool false)], args := [d1, d2] }
  | _ => none }
def FnExactCountFixedWrongFalsely : Prop := fnExactCountFixedRow.holds Try.pinned (OpenSpec.ofChange fnExactCountFixedWrong)

/-- 'laws.FnExactFixedPoints': WHATEVER THE INPUT: true; the input reads as it did. -/
def fnExactFixedPointsSpec : ChangeSpec := { name := "fnExactFixedPoints", fn := fun _ => fun
  | [d1, d2] => { results := [.lit (.bool true)], args := [d1, d2] }
  | _ => none }
def fnExactFixedPointsRow : OpenClaim := { program := "ytlbcafniodfdgaa", sum := "bce9063ca2bfa8c91607a34e7abe4ae5d03f5849484683fa5ddc8d9fb8b23320", func := "loop.example/g00928/laws.FnExactFixedPoints", spec := "fnExactFixedPoints", apart := false }
def FnExactFixedPointsSaid : Prop := fnExactFixedPointsRow.holds Try.pinned (OpenSpec.ofChange fnExactFixedPointsSpec)

/-- ITS FALSE NEIGHBOUR: 'it returns false'. Refute it at one input. -/
def fnExactFixedPointsWrong : ChangeSpec := { name := "fnExactFixedPoints", fn := fun _ => fun
  | [d1, d2] => { results := [.lit (.bool false)], args := [d1, d2] }
  | _ => none }
def FnExactFixedPointsWrongFalsely : Prop := fnExactFixedPointsRow.holds Try.pinned (OpenSpec.ofChange fnExactFixedPointsWrong)

/-- 'laws.FnExactQuotientGenus': WHATEVER THE INPUT: true; the input reads as it did. -/
def fnExactQuotientGenusSpec : ChangeSpec := { name := "fnExactQuotientGenus", fn := fun _ => fun
  | [d1, d2] => { results := [.lit (.bool true)], args := [d1, d2] }
  | _ => none }
def fnExactQuotientGenusRow : OpenClaim := { program := "ytlbcafniodfdgaa", sum := "bce9063ca2bfa8c91607a34e7abe4ae5d03f5849484683fa5ddc8d9fb8b23320", func := "loop.example/g00928/laws.FnExactQuotientGenus", spec := "fnExactQuotientGenus", apart := false }
def FnExactQuotientGenusSaid : Prop := fnExactQuotientGenusRow.holds Try.pinned (OpenSpec.ofChange fnExactQuotientGenusSpec)

/-- ITS FALSE NEIGHBOUR: 'it returns false'. Refute it at one input. -/
def fnExactQuotientGenusWrong : ChangeSpec := { name := "fnExactQuotientGenus", fn := fun _ => fun
  | [d1, d2] => { results := [.lit (.bool false)], args := [d1, d2] }
  | _ => none }
def FnExactQuotientGenusWrongFalsely : Prop := fnExactQuotientGenusRow.holds Try.pinned (OpenSpec.ofChange fnExactQuotientGenusWrong)

/- THE SECOND FORM. 'bulk': how many values and letters a reading holds, each counted each time it is reached (what is shared counts as often as it is met; a slice's spare places count too). A statement '..UptoSaid' is the law's where the arguments, and the package variables that the reading takes, are together of bulk at most 1048576: NARROWER than '..Said'. Prove '..Said' where nothing that the law and all that it calls make is longer than what came in: it says more and counts as full. Else prove '..UptoSaid'. A law counts once. -/
mutual
def uptoBulk {H : Type} : DataW H → Nat
  | .lit (.string bytes) => bytes.length + 1
  | .lit _ => 1
  | .nil => 1
  | .ptr d => uptoBulk d + 1
  | .slice elems spare => uptoBulkAll elems + uptoBulkAll spare + 1
  | .agg parts => uptoBulkAll parts + 1
  | .iface _ d => uptoBulk d + 1
  | .map entries => uptoBulkEntries entries + 1
  | .held _ => 1
def uptoBulkAll {H : Type} : List (DataW H) → Nat
  | [] => 0
  | d :: r => uptoBulk d + uptoBulkAll r
def uptoBulkEntries {H : Type} : List (Lit × DataW H) → Nat
  | [] => 0
  | x :: r => uptoBulkEntry x + uptoBulkEntries r
def uptoBulkEntry {H : Type} : Lit × DataW H → Nat
  | (.string bytes, d) => bytes.length + uptoBulk d + 1
  | (_, d) => uptoBulk d + 1
 end
def uptoSmall : (H : Type) → List (DataW H) → Bool := fun _ ds => decide (uptoBulkAll ds ≤ 1048576)
def OpenSpec.upto (s : _root_.Go.ChangeSpec) : _root_.Go.OpenSpec := { _root_.Go.OpenSpec.ofChange s with cond := some uptoSmall }

/-- 'laws.FnExactAreaOf', WHERE WHAT IT READS IS OF BULK AT MOST 1048576: true; the input reads as it did. -/
def fnExactAreaOfUptoRow : OpenClaim := { program := "ytlbcafniodfdgaa", sum := "bce9063ca2bfa8c91607a34e7abe4ae5d03f5849484683fa5ddc8d9fb8b23320", func := "loop.example/g00928/laws.FnExactAreaOf", spec := "fnExactAreaOf", apart := false, narrowed := true }
def FnExactAreaOfUptoSaid : Prop := fnExactAreaOfUptoRow.holds Try.pinned (OpenSpec.upto fnExactAreaOfSpec)

/-- 'laws.FnExactIsTurn', WHERE WHAT IT READS IS OF BULK AT MOST 1048576: true; the input reads as it did. -/
def fnExactIsTurnUptoRow : OpenClaim := { program := "ytlbcafniodfdgaa", sum := "bce9063ca2bfa8c91607a34e7abe4ae5d03f5849484683fa5ddc8d9fb8b23320", func := "loop.example/g00928/laws.FnExactIsTurn", spec := "fnExactIsTurn", apart := false, narrowed := true }
def FnExactIsTurnUptoSaid : Prop := fnExactIsTurnUptoRow.holds Try.pinned (OpenSpec.upto fnExactIsTurnSpec)

/-- 'laws.FnExactSlopeFrom', WHERE WHAT IT READS IS OF BULK AT MOST 1048576: true; the input reads as it did. -/
def fnExactSlopeFromUptoRow : OpenClaim := { program := "ytlbcafniodfdgaa", sum := "bce9063ca2bfa8c91607a34e7abe4ae5d03f5849484683fa5ddc8d9fb8b23320", func := "loop.example/g00928/laws.FnExactSlopeFrom", spec := "fnExactSlopeFrom", inPlace := ["internal/bytealg.CountString", "internal/bytealg.IndexByteString", "internal/bytealg.IndexString"], named := ["internal/bytealg.MaxLen"], apart := false, narrowed := true }
def FnExactSlopeFromUptoSaid : Prop := fnExactSlopeFromUptoRow.holds Try.pinned (OpenSpec.upto fnExactSlopeFromSpec)

/-- 'laws.FnExactRowsOf', WHERE WHAT IT READS IS OF BULK AT MOST 1048576: true; the input reads as it did. -/
def fnExactRowsOfUptoRow : OpenClaim := { program := "ytlbcafniodfdgaa", sum := "bce9063ca2bfa8c91607a34e7abe4ae5d03f5849484683fa5ddc8d9fb8b23320", func := "loop.example/g00928/laws.FnExactRowsOf", spec := "fnExactRowsOf", apart := false, narrowed := true }
def FnExactRowsOfUptoSaid : Prop := fnExactRowsOfUptoRow.holds Try.pinned (OpenSpec.upto fnExactRowsOfSpec)

/-- 'laws.FnSlopes', WHERE WHAT IT READS IS OF BULK AT MOST 1048576: true; the input reads as it did. -/
def fnSlopesUptoRow : OpenClaim := { program := "ytlbcafniodfdgaa", sum := "bce9063ca2bfa8c91607a34e7abe4ae5d03f5849484683fa5ddc8d9fb8b23320", func := "loop.example/g00928/laws.FnSlopes", spec := "fnSlopes", inPlace := ["internal/bytealg.CountString", "internal/bytealg.IndexByteString", "internal/bytealg.IndexString"], named := ["internal/bytealg.MaxLen"], apart := false, narrowed := true }
def FnSlopesUptoSaid : Prop := fnSlopesUptoRow.holds Try.pinned (OpenSpec.upto fnSlopesSpec)

/-- 'laws.FnExactPathRounds', WHERE WHAT IT READS IS OF BULK AT MOST 1048576: true; the input reads as it did. -/
def fnExactPathRoundsUptoRow : OpenClaim := { program := "ytlbcafniodfdgaa", sum := "bce9063ca2bfa8c91607a34e7abe4ae5d03f5849484683fa5ddc8d9fb8b23320", func := "loop.example/g00928/laws.FnExactPathRounds", spec := "fnExactPathRounds", apart := false, narrowed := true }
def FnExactPathRoundsUptoSaid : Prop := fnExactPathRoundsUptoRow.holds Try.pinned (OpenSpec.upto fnExactPathRoundsSpec)

/-- 'laws.FnExactPathPerm', WHERE WHAT IT READS IS OF BULK AT MOST 1048576: true; the input reads as it did. -/
def fnExactPathPermUptoRow : OpenClaim := { program := "ytlbcafniodfdgaa", sum := "bce9063ca2bfa8c91607a34e7abe4ae5d03f5849484683fa5ddc8d9fb8b23320", func := "loop.example/g00928/laws.FnExactPathPerm", spec := "fnExactPathPerm", apart := false, narrowed := true }
def FnExactPathPermUptoSaid : Prop := fnExactPathPermUptoRow.holds Try.pinned (OpenSpec.upto fnExactPathPermSpec)

/-- 'laws.FnExactTurnsOf', WHERE WHAT IT READS IS OF BULK AT MOST 1048576: true; the input reads as it did. -/
def fnExactTurnsOfUptoRow : OpenClaim := { program := "ytlbcafniodfdgaa", sum := "bce9063ca2bfa8c91607a34e7abe4ae5d03f5849484683fa5ddc8d9fb8b23320", func := "loop.example/g00928/laws.FnExactTurnsOf", spec := "fnExactTurnsOf", apart := false, narrowed := true }
def FnExactTurnsOfUptoSaid : Prop := fnExactTurnsOfUptoRow.holds Try.pinned (OpenSpec.upto fnExactTurnsOfSpec)

/-- 'laws.FnExactRowAbove', WHERE WHAT IT READS IS OF BULK AT MOST 1048576: true; the input reads as it did. -/
def fnExactRowAboveUptoRow : OpenClaim := { program := "ytlbcafniodfdgaa", sum := "bce9063ca2bfa8c91607a34e7abe4ae5d03f5849484683fa5ddc8d9fb8b23320", func := "loop.example/g00928/laws.FnExactRowAbove", spec := "fnExactRowAbove", apart := false, narrowed := true }
def FnExactRowAboveUptoSaid : Prop := fnExactRowAboveUptoRow.holds Try.pinned (OpenSpec.upto fnExactRowAboveSpec)

/-- 'laws.FnExactCountFixed', WHERE WHAT IT READS IS OF BULK AT MOST 1048576: true; the input reads as it did. -/
def fnExactCountFixedUptoRow : OpenClaim := { program := "ytlbcafniodfdgaa", sum := "bce9063ca2bfa8c91607a34e7abe4ae5d03f5849484683fa5ddc8d9fb8b23320", func := "loop.example/g00928/laws.FnExactCountFixed", spec := "fnExactCountFixed", apart := false, narrowed := true }
def FnExactCountFixedUptoSaid : Prop := fnExactCountFixedUptoRow.holds Try.pinned (OpenSpec.upto fnExactCountFixedSpec)

/-- 'laws.FnExactFixedPoints', WHERE WHAT IT READS IS OF BULK AT MOST 1048576: true; the input reads as it did. -/
def fnExactFixedPointsUptoRow : OpenClaim := { program := "ytlbcafniodfdgaa", sum := "bce9063ca2bfa8c91607a34e7abe4ae5d03f5849484683fa5ddc8d9fb8b23320", func := "loop.example/g00928/laws.FnExactFixedPoints", spec := "fnExactFixedPoints", apart := false, narrowed := true }
def FnExactFixedPointsUptoSaid : Prop := fnExactFixedPointsUptoRow.holds Try.pinned (OpenSpec.upto fnExactFixedPointsSpec)

/-- 'laws.FnExactQuotientGenus', WHERE WHAT IT READS IS OF BULK AT MOST 1048576: true; the input reads as it did. -/
def fnExactQuotientGenusUptoRow : OpenClaim := { program := "ytlbcafniodfdgaa", sum := "bce9063ca2bfa8c91607a34e7abe4ae5d03f5849484683fa5ddc8d9fb8b23320", func := "loop.example/g00928/laws.FnExactQuotientGenus", spec := "fnExactQuotientGenus", apart := false, narrowed := true }
def FnExactQuotientGenusUptoSaid : Prop := fnExactQuotientGenusUptoRow.holds Try.pinned (OpenSpec.upto fnExactQuotientGenusSpec)

end Rows
end Go.Proofs.Ytlbcafniodfdgaa

/-
  No cell of these rows narrows 'for every input' (looked for: loops, veiled, ifaces, maps, wideKeys, modest, calm, conditions, laid).
  DERIVED. THE GIVEN ROWS OF THIS SEAT. 8 by the template 'for every input the law returns true; each argument reads behind the call as it read before'; 0 by the template 'total and deterministic' (their statements: YtoijcallajegfaaTotals.lean).
  GIVEN WITH THE SEED: the statements are not yours to turn. If you find one false, say at which input.
  Laid BY PROGRAM, IN A SANDBOX (cutbox-rows.mjs): the forced cells as the released guide's own fill.sh prints them over the translation d0bda551298a922c… (all of the seat's roots in one cut). By AI agents, Wed Nov 11 2026. No macro, syntax, notation, axiom, sorry.
-/
import Derived.Test.YtoijcallajegfaaChecked
import GoSem.Claim
import GoSem.ClaimJoined
import GoSem.ClaimMapViews
import Derived.JoinedTies
import Derived.KernelRfl
namespace Go.Proofs.Ytoijcallajegfaa
/- THE CELL 'sum', in the pinned program and in every row, IS THE sha256 OF THE DUMP (.gsa) THAT YtoijcallajegfaaProg.lean LOADS. Nothing in Lean hashes anything: it is a label: what it is worth is what the hold of that sum in a sandbox is worth. -/
noncomputable def Try.pinned : Pinned := { name := "ytoijcallajegfaa", sum := "d0bda551298a922c12cb046bc320d6fc274f729bb8ef1d19c02d86709fcf2c1e", checked := Try.checked }
namespace Rows
def none {H : Type} : Left H := { results := [], args := [] }

/-- 'laws.FnListed': WHATEVER THE INPUT: true; the input reads as it did. -/
def fnListedSpec : ChangeSpec := { name := "fnListed", fn := fun _ => fun
  | [d] => { results := [.lit (.bool true)], args := [d] }
  | _ => none }
def fnListedRow : OpenClaim := { program := "ytoijcallajegfaa", sum := "d0bda551298a922c12cb046bc320d6fc274f729bb8ef1d19c02d86709fcf2c1e", func := "loop.example/g00928/laws.FnListed", spec := "fnListed", unfollowed := true, recurses := true, apart := false }
def FnListedSaid : Prop := fnListedRow.holds Try.pinned (OpenSpec.ofChange fnListedSpec)

/-- ITS FALSE NEIGHBOUR: 'it returns false'. Refute it at one input. -/
def fnListedWrong : ChangeSpec := { name := "fnListed", fn := fun _ => fun
  | [d] => { results := [.lit (.bool false)], args := [d] }
  | _ => none }
def FnListedWrongFalsely : Prop := fnListedRow.holds Try.pinned (OpenSpec.ofChange fnListedWrong)

/-- 'laws.FnKept': WHATEVER THE INPUT: true; the input reads as it did. -/
def fnKeptSpec : ChangeSpec := { name := "fnKept", fn := fun _ => fun
  | [d] => { results := [.lit (.bool true)], args := [d] }
  | _ => none }
def fnKeptRow : OpenClaim := { program := "ytoijcallajegfaa", sum := "d0bda551298a922c12cb046bc320d6fc274f729bb8ef1d19c02d86709fcf2c1e", func := "loop.example/g00928/laws.FnKept", spec := "fnKept", inPlace := ["internal/bytealg.IndexByteString"], unfollowed := true, recurses := true, apart := false }
def FnKeptSaid : Prop := fnKeptRow.holds Try.pinned (OpenSpec.ofChange fnKeptSpec)

/-- ITS FALSE NEIGHBOUR: 'it returns false'. Refute it at one input. -/
def fnKeptWrong : ChangeSpec := { name := "fnKept", fn := fun _ => fun
  | [d] => { results := [.lit (.bool false)], args := [d] }
  | _ => none }
def FnKeptWrongFalsely : Prop := fnKeptRow.holds Try.pinned (OpenSpec.ofChange fnKeptWrong)

/-- 'laws.FnExactIsFixedBy': WHATEVER THE INPUT: true; the input reads as it did. -/
def fnExactIsFixedBySpec : ChangeSpec := { name := "fnExactIsFixedBy", fn := fun _ => fun
  | [d1, d2] => { results := [.lit (.bool true)], args := [d1, d2] }
  | _ => none }
def fnExactIsFixedByRow : OpenClaim := { program := "ytoijcallajegfaa", sum := "d0bda551298a922c12cb046bc320d6fc274f729bb8ef1d19c02d86709fcf2c1e", func := "loop.example/g00928/laws.FnExactIsFixedBy", spec := "fnExactIsFixedBy", inPlace := ["internal/bytealg.IndexByteString"], unfollowed := true, recurses := true, apart := false }
def FnExactIsFixedBySaid : Prop := fnExactIsFixedByRow.holds Try.pinned (OpenSpec.ofChange fnExactIsFixedBySpec)

/-- ITS FALSE NEIGHBOUR: 'it returns false'. Refute it at one input. -/
def fnExactIsFixedByWrong : ChangeSpec := { name := "fnExactIsFixedBy", fn := fun _ => fun
  | [d1, d2] => { results := [.lit (.bool false)], args := [d1, d2] }
  | _ => none }
def FnExactIsFixedByWrongFalsely : Prop := fnExactIsFixedByRow.holds Try.pinned (OpenSpec.ofChange fnExactIsFixedByWrong)

/-- 'laws.FnExactHasHalfTurn': WHATEVER THE INPUT: true; the input reads as it did. -/
def fnExactHasHalfTurnSpec : ChangeSpec := { name := "fnExactHasHalfTurn", fn := fun _ => fun
  | [d] => { results := [.lit (.bool true)], args := [d] }
  | _ => none }
def fnExactHasHalfTurnRow : OpenClaim := { program := "ytoijcallajegfaa", sum := "d0bda551298a922c12cb046bc320d6fc274f729bb8ef1d19c02d86709fcf2c1e", func := "loop.example/g00928/laws.FnExactHasHalfTurn", spec := "fnExactHasHalfTurn", inPlace := ["internal/bytealg.IndexByteString"], unfollowed := true, recurses := true, apart := false }
def FnExactHasHalfTurnSaid : Prop := fnExactHasHalfTurnRow.holds Try.pinned (OpenSpec.ofChange fnExactHasHalfTurnSpec)

/-- ITS FALSE NEIGHBOUR: 'it returns false'. Refute it at one input. -/
def fnExactHasHalfTurnWrong : ChangeSpec := { name := "fnExactHasHalfTurn", fn := fun _ => fun
  | [d] => { results := [.lit (.bool false)], args := [d] }
  | _ => none }
def FnExactHasHalfTurnWrongFalsely : Prop := fnExactHasHalfTurnRow.holds Try.pinned (OpenSpec.ofChange fnExactHasHalfTurnWrong)

/-- 'laws.FnExactSurfacesWith': WHATEVER THE INPUT: true; the input reads as it did. -/
def fnExactSurfacesWithSpec : ChangeSpec := { name := "fnExactSurfacesWith", fn := fun _ => fun
  | [d] => { results := [.lit (.bool true)], args := [d] }
  | _ => none }
def fnExactSurfacesWithRow : OpenClaim := { program := "ytoijcallajegfaa", sum := "d0bda551298a922c12cb046bc320d6fc274f729bb8ef1d19c02d86709fcf2c1e", func := "loop.example/g00928/laws.FnExactSurfacesWith", spec := "fnExactSurfacesWith", unfollowed := true, recurses := true, apart := false }
def FnExactSurfacesWithSaid : Prop := fnExactSurfacesWithRow.holds Try.pinned (OpenSpec.ofChange fnExactSurfacesWithSpec)

/-- ITS FALSE NEIGHBOUR: 'it returns false'. Refute it at one input. -/
def fnExactSurfacesWithWrong : ChangeSpec := { name := "fnExactSurfacesWith", fn := fun _ => fun
  | [d] => { results := [.lit (.bool false)], args := [d] }
  | _ => none }
def FnExactSurfacesWithWrongFalsely : Prop := fnExactSurfacesWithRow.holds Try.pinned (OpenSpec.ofChange fnExactSurfacesWithWrong)

/-- 'laws.FnClasses': WHATEVER THE INPUT: true; the input reads as it did. -/
def fnClassesSpec : ChangeSpec := { name := "fnClasses", fn := fun _ => fun
  | [d] => { results := [.lit (.bool true)], args := [d] }
  | _ => none }
def fnClassesRow : OpenClaim := { program := "ytoijcallajegfaa", sum := "d0bda551298a922c12cb046bc320d6fc274f729bb8ef1d19c02d86709fcf2c1e", func := "loop.example/g00928/laws.FnClasses", spec := "fnClasses", unfollowed := true, recurses := true, apart := false }
def FnClassesSaid : Prop := fnClassesRow.holds Try.pinned (OpenSpec.ofChange fnClassesSpec)

/-- ITS FALSE NEIGHBOUR: 'it returns false'. Refute it at one input. -/
def fnClassesWrong : ChangeSpec := { name := "fnClasses", fn := fun _ => fun
  | [d] => { results := [.lit (.bool false)], args := [d] }
  | _ => none }
def FnClassesWrongFalsely : Prop := fnClassesRow.holds Try.pinned (OpenSpec.ofChange fnClassesWrong)

/-- 'laws.FnExactCountTori': WHATEVER THE INPUT: true; the input reads as it did. -/
def fnExactCountToriSpec : ChangeSpec := { name := "fnExactCountTori", fn := fun _ => fun
  | [d] => { results := [.lit (.bool true)], args := [d] }
  | _ => none }
def fnExactCountToriRow : OpenClaim := { program := "ytoijcallajegfaa", sum := "d0bda551298a922c12cb046bc320d6fc274f729bb8ef1d19c02d86709fcf2c1e", func := "loop.example/g00928/laws.FnExactCountTori", spec := "fnExactCountTori", unfollowed := true, recurses := true, apart := false }
def FnExactCountToriSaid : Prop := fnExactCountToriRow.holds Try.pinned (OpenSpec.ofChange fnExactCountToriSpec)

/-- ITS FALSE NEIGHBOUR: 'it returns false'. Refute it at one input. -/
def fnExactCountToriWrong : ChangeSpec := { name := "fnExactCountTori", fn := fun _ => fun
  | [d] => { results := [.lit (.bool false)], args := [d] }
  | _ => none }
def FnExactCountToriWrongFalsely : Prop := fnExactCountToriRow.holds Try.pinned (OpenSpec.ofChange fnExactCountToriWrong)

/-- 'laws.FnExactOrbitsWith': WHATEVER THE INPUT: true; the input reads as it did. -/
def fnExactOrbitsWithSpec : ChangeSpec := { name := "fnExactOrbitsWith", fn := fun _ => fun
  | [d] => { results := [.lit (.bool true)], args := [d] }
  | _ => none }
def fnExactOrbitsWithRow : OpenClaim := { program := "ytoijcallajegfaa", sum := "d0bda551298a922c12cb046bc320d6fc274f729bb8ef1d19c02d86709fcf2c1e", func := "loop.example/g00928/laws.FnExactOrbitsWith", spec := "fnExactOrbitsWith", unfollowed := true, recurses := true, apart := false }
def FnExactOrbitsWithSaid : Prop := fnExactOrbitsWithRow.holds Try.pinned (OpenSpec.ofChange fnExactOrbitsWithSpec)

/-- ITS FALSE NEIGHBOUR: 'it returns false'. Refute it at one input. -/
def fnExactOrbitsWithWrong : ChangeSpec := { name := "fnExactOrbitsWith", fn := fun _ => fun
  | [d] => { results := [.lit (.bool false)], args := [d] }
  | _ => none }
def FnExactOrbitsWithWrongFalsely : Prop := fnExactOrbitsWithRow.holds Try.pinned (OpenSpec.ofChange fnExactOrbitsWithWrong)

/- THE SECOND FORM. 'bulk': how many values and letters a reading holds, each counted each time it is reached (what is shared counts as often as it is met; a slice's spare places count too). A statement '..UptoSaid' is the law's where the arguments, and the package variables that the reading takes, are together of bulk at most 1048576: NARROWER than '..Said'. Prove '..Said' where nothing that the law and all that it calls make is longer than what came in: it says more and counts as full. Else prove '..UptoSaid'. A law counts once. -/
mutual
def uptoBulk {H : Type} : DataW H → Nat
  | .lit (.string bytes) => bytes.length + 1
  | .lit _ => 1
  | .nil => 1
  | .ptr d => uptoBulk d + 1
  | .slice elems spare => uptoBulkAll elems + uptoBulkAll spare + 1
  | .agg parts => uptoBulkAll parts + 1
  | .iface _ d => uptoBulk d + 1
  | .map entries => uptoBulkEntries entries + 1
  | .held _ => 1
def uptoBulkAll {H : Type} : List (DataW H) → Nat
  | [] => 0
  | d :: r => uptoBulk d + uptoBulkAll r
def uptoBulkEntries {H : Type} : List (Lit × DataW H) → Nat
  | [] => 0
  | x :: r => uptoBulkEntry x + uptoBulkEntries r
def uptoBulkEntry {H : Type} : Lit × DataW H → Nat
  | (.string bytes, d) => bytes.length + uptoBulk d + 1
  | (_, d) => uptoBulk d + 1
 end
def uptoSmall : (H : Type) → List (DataW H) → Bool := fun _ ds => decide (uptoBulkAll ds ≤ 1048576)
def OpenSpec.upto (s : _root_.Go.ChangeSpec) : _root_.Go.OpenSpec := { _root_.Go.OpenSpec.ofChange s with cond := some uptoSmall }

/-- 'laws.FnListed', WHERE WHAT IT READS IS OF BULK AT MOST 1048576: true; the input reads as it did. -/
def fnListedUptoRow : OpenClaim := { program := "ytoijcallajegfaa", sum := "d0bda551298a922c12cb046bc320d6fc274f729bb8ef1d19c02d86709fcf2c1e", func := "loop.example/g00928/laws.FnListed", spec := "fnListed", unfollowed := true, recurses := true, apart := false, narrowed := true }
def FnListedUptoSaid : Prop := fnListedUptoRow.holds Try.pinned (OpenSpec.upto fnListedSpec)

/-- 'laws.FnKept', WHERE WHAT IT READS IS OF BULK AT MOST 1048576: true; the input reads as it did. -/
def fnKeptUptoRow : OpenClaim := { program := "ytoijcallajegfaa", sum := "d0bda551298a922c12cb046bc320d6fc274f729bb8ef1d19c02d86709fcf2c1e", func := "loop.example/g00928/laws.FnKept", spec := "fnKept", inPlace := ["internal/bytealg.IndexByteString"], unfollowed := true, recurses := true, apart := false, narrowed := true }
def FnKeptUptoSaid : Prop := fnKeptUptoRow.holds Try.pinned (OpenSpec.upto fnKeptSpec)

/-- 'laws.FnExactIsFixedBy', WHERE WHAT IT READS IS OF BULK AT MOST 1048576: true; the input reads as it did. -/
def fnExactIsFixedByUptoRow : OpenClaim := { program := "ytoijcallajegfaa", sum := "d0bda551298a922c12cb046bc320d6fc274f729bb8ef1d19c02d86709fcf2c1e", func := "loop.example/g00928/laws.FnExactIsFixedBy", spec := "fnExactIsFixedBy", inPlace := ["internal/bytealg.IndexByteString"], unfollowed := true, recurses := true, apart := false, narrowed := true }
def FnExactIsFixedByUptoSaid : Prop := fnExactIsFixedByUptoRow.holds Try.pinned (OpenSpec.upto fnExactIsFixedBySpec)

/-- 'laws.FnExactHasHalfTurn', WHERE WHAT IT READS IS OF BULK AT MOST 1048576: true; the input reads as it did. -/
def fnExactHasHalfTurnUptoRow : OpenClaim := { program := "ytoijcallajegfaa", sum := "d0bda551298a922c12cb046bc320d6fc274f729bb8ef1d19c02d86709fcf2c1e", func := "loop.example/g00928/laws.FnExactHasHalfTurn", spec := "fnExactHasHalfTurn", inPlace := ["internal/bytealg.IndexByteString"], unfollowed := true, recurses := true, apart := false, narrowed := true }
def FnExactHasHalfTurnUptoSaid : Prop := fnExactHasHalfTurnUptoRow.holds Try.pinned (OpenSpec.upto fnExactHasHalfTurnSpec)

/-- 'laws.FnExactSurfacesWith', WHERE WHAT IT READS IS OF BULK AT MOST 1048576: true; the input reads as it did. -/
def fnExactSurfacesWithUptoRow : OpenClaim := { program := "ytoijcallajegfaa", sum := "d0bda551298a922c12cb046bc320d6fc274f729bb8ef1d19c02d86709fcf2c1e", func := "loop.example/g00928/laws.FnExactSurfacesWith", spec := "fnExactSurfacesWith", unfollowed := true, recurses := true, apart := false, narrowed := true }
def FnExactSurfacesWithUptoSaid : Prop := fnExactSurfacesWithUptoRow.holds Try.pinned (OpenSpec.upto fnExactSurfacesWithSpec)

/-- 'laws.FnClasses', WHERE WHAT IT READS IS OF BULK AT MOST 1048576: true; the input reads as it did. -/
def fnClassesUptoRow : OpenClaim := { program := "ytoijcallajegfaa", sum := "d0bda551298a922c12cb046bc320d6fc274f729bb8ef1d19c02d86709fcf2c1e", func := "loop.example/g00928/laws.FnClasses", spec := "fnClasses", unfollowed := true, recurses := true, apart := false, narrowed := true }
def FnClassesUptoSaid : Prop := fnClassesUptoRow.holds Try.pinned (OpenSpec.upto fnClassesSpec)

/-- 'laws.FnExactCountTori', WHERE WHAT IT READS IS OF BULK AT MOST 1048576: true; the input reads as it did. -/
def fnExactCountToriUptoRow : OpenClaim := { program := "ytoijcallajegfaa", sum := "d0bda551298a922c12cb046bc320d6fc274f729bb8ef1d19c02d86709fcf2c1e", func := "loop.example/g00928/laws.FnExactCountTori", spec := "fnExactCountTori", unfollowed := true, recurses := true, apart := false, narrowed := true }
def FnExactCountToriUptoSaid : Prop := fnExactCountToriUptoRow.holds Try.pinned (OpenSpec.upto fnExactCountToriSpec)

/-- 'laws.FnExactOrbitsWith', WHERE WHAT IT READS IS OF BULK AT MOST 1048576: true; the input reads as it did. -/
def fnExactOrbitsWithUptoRow : OpenClaim := { program := "ytoijcallajegfaa", sum := "d0bda551298a922c12cb046bc320d6fc274f729bb8ef1d19c02d86709fcf2c1e", func := "loop.example/g00928/laws.FnExactOrbitsWith", spec := "fnExactOrbitsWith", unfollowed := true, recurses := true, apart := false, narrowed := true }
def FnExactOrbitsWithUptoSaid : Prop := fnExactOrbitsWithUptoRow.holds Try.pinned (OpenSpec.upto fnExactOrbitsWithSpec)

end Rows
end Go.Proofs.Ytoijcallajegfaa

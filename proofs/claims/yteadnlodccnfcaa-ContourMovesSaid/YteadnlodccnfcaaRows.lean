/-
  No cell of these rows narrows 'for every input' (looked for: loops, veiled, ifaces, maps, wideKeys, modest, calm, conditions, laid).
  DERIVED. THE GIVEN ROWS OF THIS SEAT. 10 by the template 'for every input the law returns true; each argument reads behind the call as it read before'; 0 by the template 'total and deterministic' (their statements: YteadnlodccnfcaaTotals.lean).
  GIVEN WITH THE SEED: the statements are not yours to turn. If you find one false, say at which input.
  Laid BY PROGRAM, IN A SANDBOX (cutbox-rows.mjs): the forced cells as the released guide's own fill.sh prints them over the translation b6661c64f470574a… (all of the seat's roots in one cut). By AI agents, Wed Nov 11 2026. No macro, syntax, notation, axiom, sorry.
-/
import Derived.Test.YteadnlodccnfcaaChecked
import GoSem.Claim
import GoSem.ClaimJoined
import GoSem.ClaimMapViews
import Derived.JoinedTies
import Derived.KernelRfl
namespace Go.Proofs.Yteadnlodccnfcaa
/- THE CELL 'sum', in the pinned program and in every row, IS THE sha256 OF THE DUMP (.gsa) THAT YteadnlodccnfcaaProg.lean LOADS. Nothing in Lean hashes anything: it is a label: what it is worth is what the hold of that sum in a sandbox is worth. -/
noncomputable def Try.pinned : Pinned := { name := "yteadnlodccnfcaa", sum := "b6661c64f470574a266bf7d581aaaf5667a0539fc88d392fbaa8ff5d9709de0b", checked := Try.checked }
namespace Rows
def none {H : Type} : Left H := { results := [], args := [] }

/-- 'additivelaw16.ContourChains': WHATEVER THE INPUT: true; the input reads as it did. -/
def contourChainsSpec : ChangeSpec := { name := "contourChains", fn := fun _ => fun
  | [d] => { results := [.lit (.bool true)], args := [d] }
  | _ => none }
def contourChainsRow : OpenClaim := { program := "yteadnlodccnfcaa", sum := "b6661c64f470574a266bf7d581aaaf5667a0539fc88d392fbaa8ff5d9709de0b", func := "additive/additivelaw16.ContourChains", spec := "contourChains", unfollowed := true, recurses := true, plainKeys := false, apart := false }
def ContourChainsSaid : Prop := contourChainsRow.holds Try.pinned (OpenSpec.ofChange contourChainsSpec)

/-- ITS FALSE NEIGHBOUR: 'it returns false'. Refute it at one input. -/
def contourChainsWrong : ChangeSpec := { name := "contourChains", fn := fun _ => fun
  | [d] => { results := [.lit (.bool false)], args := [d] }
  | _ => none }
def ContourChainsWrongFalsely : Prop := contourChainsRow.holds Try.pinned (OpenSpec.ofChange contourChainsWrong)

/-- 'additivelaw16.ContourSegs': WHATEVER THE INPUT: true; the input reads as it did. -/
def contourSegsSpec : ChangeSpec := { name := "contourSegs", fn := fun _ => fun
  | [d] => { results := [.lit (.bool true)], args := [d] }
  | _ => none }
def contourSegsRow : OpenClaim := { program := "yteadnlodccnfcaa", sum := "b6661c64f470574a266bf7d581aaaf5667a0539fc88d392fbaa8ff5d9709de0b", func := "additive/additivelaw16.ContourSegs", spec := "contourSegs", unfollowed := true, recurses := true, plainKeys := false, apart := false }
def ContourSegsSaid : Prop := contourSegsRow.holds Try.pinned (OpenSpec.ofChange contourSegsSpec)

/-- ITS FALSE NEIGHBOUR: 'it returns false'. Refute it at one input. -/
def contourSegsWrong : ChangeSpec := { name := "contourSegs", fn := fun _ => fun
  | [d] => { results := [.lit (.bool false)], args := [d] }
  | _ => none }
def ContourSegsWrongFalsely : Prop := contourSegsRow.holds Try.pinned (OpenSpec.ofChange contourSegsWrong)

/-- 'additivelaw16.ContourUses': WHATEVER THE INPUT: true; the input reads as it did. -/
def contourUsesSpec : ChangeSpec := { name := "contourUses", fn := fun _ => fun
  | [d] => { results := [.lit (.bool true)], args := [d] }
  | _ => none }
def contourUsesRow : OpenClaim := { program := "yteadnlodccnfcaa", sum := "b6661c64f470574a266bf7d581aaaf5667a0539fc88d392fbaa8ff5d9709de0b", func := "additive/additivelaw16.ContourUses", spec := "contourUses", unfollowed := true, recurses := true, plainKeys := false, apart := false }
def ContourUsesSaid : Prop := contourUsesRow.holds Try.pinned (OpenSpec.ofChange contourUsesSpec)

/-- ITS FALSE NEIGHBOUR: 'it returns false'. Refute it at one input. -/
def contourUsesWrong : ChangeSpec := { name := "contourUses", fn := fun _ => fun
  | [d] => { results := [.lit (.bool false)], args := [d] }
  | _ => none }
def ContourUsesWrongFalsely : Prop := contourUsesRow.holds Try.pinned (OpenSpec.ofChange contourUsesWrong)

/-- 'additivelaw16.ContourAgain': WHATEVER THE INPUT: true; the input reads as it did. -/
def contourAgainSpec : ChangeSpec := { name := "contourAgain", fn := fun _ => fun
  | [d] => { results := [.lit (.bool true)], args := [d] }
  | _ => none }
def contourAgainRow : OpenClaim := { program := "yteadnlodccnfcaa", sum := "b6661c64f470574a266bf7d581aaaf5667a0539fc88d392fbaa8ff5d9709de0b", func := "additive/additivelaw16.ContourAgain", spec := "contourAgain", unfollowed := true, recurses := true, plainKeys := false, apart := false }
def ContourAgainSaid : Prop := contourAgainRow.holds Try.pinned (OpenSpec.ofChange contourAgainSpec)

/-- ITS FALSE NEIGHBOUR: 'it returns false'. Refute it at one input. -/
def contourAgainWrong : ChangeSpec := { name := "contourAgain", fn := fun _ => fun
  | [d] => { results := [.lit (.bool false)], args := [d] }
  | _ => none }
def ContourAgainWrongFalsely : Prop := contourAgainRow.holds Try.pinned (OpenSpec.ofChange contourAgainWrong)

/-- 'additivelaw16.ContourNests': WHATEVER THE INPUT: true; the input reads as it did. -/
def contourNestsSpec : ChangeSpec := { name := "contourNests", fn := fun _ => fun
  | [d] => { results := [.lit (.bool true)], args := [d] }
  | _ => none }
def contourNestsRow : OpenClaim := { program := "yteadnlodccnfcaa", sum := "b6661c64f470574a266bf7d581aaaf5667a0539fc88d392fbaa8ff5d9709de0b", func := "additive/additivelaw16.ContourNests", spec := "contourNests", unfollowed := true, recurses := true, plainKeys := false, apart := false }
def ContourNestsSaid : Prop := contourNestsRow.holds Try.pinned (OpenSpec.ofChange contourNestsSpec)

/-- ITS FALSE NEIGHBOUR: 'it returns false'. Refute it at one input. -/
def contourNestsWrong : ChangeSpec := { name := "contourNests", fn := fun _ => fun
  | [d] => { results := [.lit (.bool false)], args := [d] }
  | _ => none }
def ContourNestsWrongFalsely : Prop := contourNestsRow.holds Try.pinned (OpenSpec.ofChange contourNestsWrong)

/-- 'additivelaw16.ContourNested': WHATEVER THE INPUT: true; the input reads as it did. -/
def contourNestedSpec : ChangeSpec := { name := "contourNested", fn := fun _ => fun
  | [d1, d2] => { results := [.lit (.bool true)], args := [d1, d2] }
  | _ => none }
def contourNestedRow : OpenClaim := { program := "yteadnlodccnfcaa", sum := "b6661c64f470574a266bf7d581aaaf5667a0539fc88d392fbaa8ff5d9709de0b", func := "additive/additivelaw16.ContourNested", spec := "contourNested", unfollowed := true, recurses := true, plainKeys := false, apart := false }
def ContourNestedSaid : Prop := contourNestedRow.holds Try.pinned (OpenSpec.ofChange contourNestedSpec)

/-- ITS FALSE NEIGHBOUR: 'it returns false'. Refute it at one input. -/
def contourNestedWrong : ChangeSpec := { name := "contourNested", fn := fun _ => fun
  | [d1, d2] => { results := [.lit (.bool false)], args := [d1, d2] }
  | _ => none }
def ContourNestedWrongFalsely : Prop := contourNestedRow.holds Try.pinned (OpenSpec.ofChange contourNestedWrong)

/-- 'additivelaw16.ContourMoves': WHATEVER THE INPUT: true; the input reads as it did. -/
def contourMovesSpec : ChangeSpec := { name := "contourMoves", fn := fun _ => fun
  | [d1, d2, d3] => { results := [.lit (.bool true)], args := [d1, d2, d3] }
  | _ => none }
def contourMovesRow : OpenClaim := { program := "yteadnlodccnfcaa", sum := "b6661c64f470574a266bf7d581aaaf5667a0539fc88d392fbaa8ff5d9709de0b", func := "additive/additivelaw16.ContourMoves", spec := "contourMoves", unfollowed := true, recurses := true, plainKeys := false, apart := false }
def ContourMovesSaid : Prop := contourMovesRow.holds Try.pinned (OpenSpec.ofChange contourMovesSpec)

/-- ITS FALSE NEIGHBOUR: 'it returns false'. Refute it at one input. -/
def contourMovesWrong : ChangeSpec := { name := "contourMoves", fn := fun _ => fun
  | [d1, d2, d3] => { results := [.lit (.bool false)], args := [d1, d2, d3] }
  | _ => none }
def ContourMovesWrongFalsely : Prop := contourMovesRow.holds Try.pinned (OpenSpec.ofChange contourMovesWrong)

/-- 'additivelaw16.ContourLimits': WHATEVER THE INPUT: true; the input reads as it did. -/
def contourLimitsSpec : ChangeSpec := { name := "contourLimits", fn := fun _ => fun
  | [d1, d2] => { results := [.lit (.bool true)], args := [d1, d2] }
  | _ => none }
def contourLimitsRow : OpenClaim := { program := "yteadnlodccnfcaa", sum := "b6661c64f470574a266bf7d581aaaf5667a0539fc88d392fbaa8ff5d9709de0b", func := "additive/additivelaw16.ContourLimits", spec := "contourLimits", unfollowed := true, recurses := true, plainKeys := false, apart := false }
def ContourLimitsSaid : Prop := contourLimitsRow.holds Try.pinned (OpenSpec.ofChange contourLimitsSpec)

/-- ITS FALSE NEIGHBOUR: 'it returns false'. Refute it at one input. -/
def contourLimitsWrong : ChangeSpec := { name := "contourLimits", fn := fun _ => fun
  | [d1, d2] => { results := [.lit (.bool false)], args := [d1, d2] }
  | _ => none }
def ContourLimitsWrongFalsely : Prop := contourLimitsRow.holds Try.pinned (OpenSpec.ofChange contourLimitsWrong)

/-- 'additivelaw16.ContourSimplifies': WHATEVER THE INPUT: true; the input reads as it did. -/
def contourSimplifiesSpec : ChangeSpec := { name := "contourSimplifies", fn := fun _ => fun
  | [d] => { results := [.lit (.bool true)], args := [d] }
  | _ => none }
def contourSimplifiesRow : OpenClaim := { program := "yteadnlodccnfcaa", sum := "b6661c64f470574a266bf7d581aaaf5667a0539fc88d392fbaa8ff5d9709de0b", func := "additive/additivelaw16.ContourSimplifies", spec := "contourSimplifies", unfollowed := true, recurses := true, plainKeys := false, apart := false }
def ContourSimplifiesSaid : Prop := contourSimplifiesRow.holds Try.pinned (OpenSpec.ofChange contourSimplifiesSpec)

/-- ITS FALSE NEIGHBOUR: 'it returns false'. Refute it at one input. -/
def contourSimplifiesWrong : ChangeSpec := { name := "contourSimplifies", fn := fun _ => fun
  | [d] => { results := [.lit (.bool false)], args := [d] }
  | _ => none }
def ContourSimplifiesWrongFalsely : Prop := contourSimplifiesRow.holds Try.pinned (OpenSpec.ofChange contourSimplifiesWrong)

/-- 'additivelaw16.ContourTurns': WHATEVER THE INPUT: true; the input reads as it did. -/
def contourTurnsSpec : ChangeSpec := { name := "contourTurns", fn := fun _ => fun
  | [d] => { results := [.lit (.bool true)], args := [d] }
  | _ => none }
def contourTurnsRow : OpenClaim := { program := "yteadnlodccnfcaa", sum := "b6661c64f470574a266bf7d581aaaf5667a0539fc88d392fbaa8ff5d9709de0b", func := "additive/additivelaw16.ContourTurns", spec := "contourTurns", unfollowed := true, recurses := true, plainKeys := false, apart := false }
def ContourTurnsSaid : Prop := contourTurnsRow.holds Try.pinned (OpenSpec.ofChange contourTurnsSpec)

/-- ITS FALSE NEIGHBOUR: 'it returns false'. Refute it at one input. -/
def contourTurnsWrong : ChangeSpec := { name := "contourTurns", fn := fun _ => fun
  | [d] => { results := [.lit (.bool false)], args := [d] }
  | _ => none }
def ContourTurnsWrongFalsely : Prop := contourTurnsRow.holds Try.pinned (OpenSpec.ofChange contourTurnsWrong)

/- THE SECOND FORM. 'bulk': how many values and letters a reading holds, each counted each time it is reached (what is shared counts as often as it is met; a slice's spare places count too). A statement '..UptoSaid' is the law's where the arguments, and the package variables that the reading takes, are together of bulk at most 1048576: NARROWER than '..Said'. Prove '..Said' where nothing that the law and all that it calls make is longer than what came in: it says more and counts as full. Else prove '..UptoSaid'. A law counts once. -/
mutual
def uptoBulk {H : Type} : DataW H → Nat
  | .lit (.string bytes) => bytes.length + 1
  | .lit _ => 1
  | .nil => 1
  | .ptr d => uptoBulk d + 1
  | .slice elems spare => uptoBulkAll elems + uptoBulkAll spare + 1
  | .agg parts => uptoBulkAll parts + 1
  | .iface _ d => uptoBulk d + 1
  | .map entries => uptoBulkEntries entries + 1
  | .held _ => 1
def uptoBulkAll {H : Type} : List (DataW H) → Nat
  | [] => 0
  | d :: r => uptoBulk d + uptoBulkAll r
def uptoBulkEntries {H : Type} : List (Lit × DataW H) → Nat
  | [] => 0
  | x :: r => uptoBulkEntry x + uptoBulkEntries r
def uptoBulkEntry {H : Type} : Lit × DataW H → Nat
  | (.string bytes, d) => bytes.length + uptoBulk d + 1
  | (_, d) => uptoBulk d + 1
 end
def uptoSmall : (H : Type) → List (DataW H) → Bool := fun _ ds => decide (uptoBulkAll ds ≤ 1048576)
def OpenSpec.upto (s : _root_.Go.ChangeSpec) : _root_.Go.OpenSpec := { _root_.Go.OpenSpec.ofChange s with cond := some uptoSmall }

/-- 'additivelaw16.ContourChains', WHERE WHAT IT READS IS OF BULK AT MOST 1048576: true; the input reads as it did. -/
def contourChainsUptoRow : OpenClaim := { program := "yteadnlodccnfcaa", sum := "b6661c64f470574a266bf7d581aaaf5667a0539fc88d392fbaa8ff5d9709de0b", func := "additive/additivelaw16.ContourChains", spec := "contourChains", unfollowed := true, recurses := true, plainKeys := false, apart := false, narrowed := true }
def ContourChainsUptoSaid : Prop := contourChainsUptoRow.holds Try.pinned (OpenSpec.upto contourChainsSpec)

/-- 'additivelaw16.ContourSegs', WHERE WHAT IT READS IS OF BULK AT MOST 1048576: true; the input reads as it did. -/
def contourSegsUptoRow : OpenClaim := { program := "yteadnlodccnfcaa", sum := "b6661c64f470574a266bf7d581aaaf5667a0539fc88d392fbaa8ff5d9709de0b", func := "additive/additivelaw16.ContourSegs", spec := "contourSegs", unfollowed := true, recurses := true, plainKeys := false, apart := false, narrowed := true }
def ContourSegsUptoSaid : Prop := contourSegsUptoRow.holds Try.pinned (OpenSpec.upto contourSegsSpec)

/-- 'additivelaw16.ContourUses', WHERE WHAT IT READS IS OF BULK AT MOST 1048576: true; the input reads as it did. -/
def contourUsesUptoRow : OpenClaim := { program := "yteadnlodccnfcaa", sum := "b6661c64f470574a266bf7d581aaaf5667a0539fc88d392fbaa8ff5d9709de0b", func := "additive/additivelaw16.ContourUses", spec := "contourUses", unfollowed := true, recurses := true, plainKeys := false, apart := false, narrowed := true }
def ContourUsesUptoSaid : Prop := contourUsesUptoRow.holds Try.pinned (OpenSpec.upto contourUsesSpec)

/-- 'additivelaw16.ContourAgain', WHERE WHAT IT READS IS OF BULK AT MOST 1048576: true; the input reads as it did. -/
def contourAgainUptoRow : OpenClaim := { program := "yteadnlodccnfcaa", sum := "b6661c64f470574a266bf7d581aaaf5667a0539fc88d392fbaa8ff5d9709de0b", func := "additive/additivelaw16.ContourAgain", spec := "contourAgain", unfollowed := true, recurses := true, plainKeys := false, apart := false, narrowed := true }
def ContourAgainUptoSaid : Prop := contourAgainUptoRow.holds Try.pinned (OpenSpec.upto contourAgainSpec)

/-- 'additivelaw16.ContourNests', WHERE WHAT IT READS IS OF BULK AT MOST 1048576: true; the input reads as it did. -/
def contourNestsUptoRow : OpenClaim := { program := "yteadnlodccnfcaa", sum := "b6661c64f470574a266bf7d581aaaf5667a0539fc88d392fbaa8ff5d9709de0b", func := "additive/additivelaw16.ContourNests", spec := "contourNests", unfollowed := true, recurses := true, plainKeys := false, apart := false, narrowed := true }
def ContourNestsUptoSaid : Prop := contourNestsUptoRow.holds Try.pinned (OpenSpec.upto contourNestsSpec)

/-- 'additivelaw16.ContourNested', WHERE WHAT IT READS IS OF BULK AT MOST 1048576: true; the input reads as it did. -/
def contourNestedUptoRow : OpenClaim := { program := "yteadnlodccnfcaa", sum := "b6661c64f470574a266bf7d581aaaf5667a0539fc88d392fbaa8ff5d9709de0b", func := "additive/additivelaw16.ContourNested", spec := "contourNested", unfollowed := true, recurses := true, plainKeys := false, apart := false, narrowed := true }
def ContourNestedUptoSaid : Prop := contourNestedUptoRow.holds Try.pinned (OpenSpec.upto contourNestedSpec)

/-- 'additivelaw16.ContourMoves', WHERE WHAT IT READS IS OF BULK AT MOST 1048576: true; the input reads as it did. -/
def contourMovesUptoRow : OpenClaim := { program := "yteadnlodccnfcaa", sum := "b6661c64f470574a266bf7d581aaaf5667a0539fc88d392fbaa8ff5d9709de0b", func := "additive/additivelaw16.ContourMoves", spec := "contourMoves", unfollowed := true, recurses := true, plainKeys := false, apart := false, narrowed := true }
def ContourMovesUptoSaid : Prop := contourMovesUptoRow.holds Try.pinned (OpenSpec.upto contourMovesSpec)

/-- 'additivelaw16.ContourLimits', WHERE WHAT IT READS IS OF BULK AT MOST 1048576: true; the input reads as it did. -/
def contourLimitsUptoRow : OpenClaim := { program := "yteadnlodccnfcaa", sum := "b6661c64f470574a266bf7d581aaaf5667a0539fc88d392fbaa8ff5d9709de0b", func := "additive/additivelaw16.ContourLimits", spec := "contourLimits", unfollowed := true, recurses := true, plainKeys := false, apart := false, narrowed := true }
def ContourLimitsUptoSaid : Prop := contourLimitsUptoRow.holds Try.pinned (OpenSpec.upto contourLimitsSpec)

/-- 'additivelaw16.ContourSimplifies', WHERE WHAT IT READS IS OF BULK AT MOST 1048576: true; the input reads as it did. -/
def contourSimplifiesUptoRow : OpenClaim := { program := "yteadnlodccnfcaa", sum := "b6661c64f470574a266bf7d581aaaf5667a0539fc88d392fbaa8ff5d9709de0b", func := "additive/additivelaw16.ContourSimplifies", spec := "contourSimplifies", unfollowed := true, recurses := true, plainKeys := false, apart := false, narrowed := true }
def ContourSimplifiesUptoSaid : Prop := contourSimplifiesUptoRow.holds Try.pinned (OpenSpec.upto contourSimplifiesSpec)

/-- 'additivelaw16.ContourTurns', WHERE WHAT IT READS IS OF BULK AT MOST 1048576: true; the input reads as it did. -/
def contourTurnsUptoRow : OpenClaim := { program := "yteadnlodccnfcaa", sum := "b6661c64f470574a266bf7d581aaaf5667a0539fc88d392fbaa8ff5d9709de0b", func := "additive/additivelaw16.ContourTurns", spec := "contourTurns", unfollowed := true, recurses := true, plainKeys := false, apart := false, narrowed := true }
def ContourTurnsUptoSaid : Prop := contourTurnsUptoRow.holds Try.pinned (OpenSpec.upto contourTurnsSpec)

end Rows
end Go.Proofs.Yteadnlodccnfcaa

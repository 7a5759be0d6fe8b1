/-
  No cell of these rows narrows 'for every input' (looked for: loops, veiled, ifaces, maps, wideKeys, modest, calm, conditions, laid).
  DERIVED. THE GIVEN ROWS OF THIS SEAT. 6 by the template 'for every input the law returns true; each argument reads behind the call as it read before'; 0 by the template 'total and deterministic' (their statements: YtbdmibbpojmkiaaTotals.lean).
  GIVEN WITH THE SEED: the statements are not yours to turn. If you find one false, say at which input.
  Laid BY PROGRAM, IN A SANDBOX (cutbox-rows.mjs): the forced cells as the released guide's own fill.sh prints them over the translation 6da817f20c376781… (all of the seat's roots in one cut). By AI agents, Wed Nov 11 2026. No macro, syntax, notation, axiom, sorry.
-/
import Derived.Test.YtbdmibbpojmkiaaChecked
import GoSem.Claim
import GoSem.ClaimJoined
import GoSem.ClaimMapViews
import Derived.JoinedTies
import Derived.KernelRfl
namespace Go.Proofs.Ytbdmibbpojmkiaa
/- THE CELL 'sum', in the pinned program and in every row, IS THE sha256 OF THE DUMP (.gsa) THAT YtbdmibbpojmkiaaProg.lean LOADS. Nothing in Lean hashes anything: it is a label: what it is worth is what the hold of that sum in a sandbox is worth. -/
noncomputable def Try.pinned : Pinned := { name := "ytbdmibbpojmkiaa", sum := "6da817f20c37678133d2345541e9c737f366232ca8ecd5f13defa6a30237c582", checked := Try.checked }
namespace Rows
def none {H : Type} : Left H := { results := [], args := [] }

/-- 'additivelaw19.RasterCenters': WHATEVER THE INPUT: true; the input reads as it did. -/
def rasterCentersSpec : ChangeSpec := { name := "rasterCenters", fn := fun _ => fun
  | [d1, d2] => { results := [.lit (.bool true)], args := [d1, d2] }
  | _ => none }
def rasterCentersRow : OpenClaim := { program := "ytbdmibbpojmkiaa", sum := "6da817f20c37678133d2345541e9c737f366232ca8ecd5f13defa6a30237c582", func := "additive/additivelaw19.RasterCenters", spec := "rasterCenters", unfollowed := true, recurses := true, apart := false }
def RasterCentersSaid : Prop := rasterCentersRow.holds Try.pinned (OpenSpec.ofChange rasterCentersSpec)

/-- ITS FALSE NEIGHBOUR: 'it returns false'. Refute it at one input. -/
def rasterCentersWrong : ChangeSpec := { name := "rasterCenters", fn := fun _ => fun
  | [d1, d2] => { results := [.lit (.bool false)], args := [d1, d2] }
  | _ => none }
def RasterCentersWrongFalsely : Prop := rasterCentersRow.holds Try.pinned (OpenSpec.ofChange rasterCentersWrong)

/-- 'additivelaw19.RasterFills': WHATEVER THE INPUT: true; the input reads as it did. -/
def rasterFillsSpec : ChangeSpec := { name := "rasterFills", fn := fun _ => fun
  | [d1, d2] => { results := [.lit (.bool true)], args := [d1, d2] }
  | _ => none }
def rasterFillsRow : OpenClaim := { program := "ytbdmibbpojmkiaa", sum := "6da817f20c37678133d2345541e9c737f366232ca8ecd5f13defa6a30237c582", func := "additive/additivelaw19.RasterFills", spec := "rasterFills", unfollowed := true, recurses := true, apart := false }
def RasterFillsSaid : Prop := rasterFillsRow.holds Try.pinned (OpenSpec.ofChange rasterFillsSpec)

/-- ITS FALSE NEIGHBOUR: 'it returns false'. Refute it at one input. -/
def rasterFillsWrong : ChangeSpec := { name := "rasterFills", fn := fun _ => fun
  | [d1, d2] => { results := [.lit (.bool false)], args := [d1, d2] }
  | _ => none }
def RasterFillsWrongFalsely : Prop := rasterFillsRow.holds Try.pinned (OpenSpec.ofChange rasterFillsWrong)

/-- 'additivelaw19.RasterBoxes': WHATEVER THE INPUT: true; the input reads as it did. -/
def rasterBoxesSpec : ChangeSpec := { name := "rasterBoxes", fn := fun _ => fun
  | [d1, d2, d3, d4, d5] => { results := [.lit (.bool true)], args := [d1, d2, d3, d4, d5] }
  | _ => none }
def rasterBoxesRow : OpenClaim := { program := "ytbdmibbpojmkiaa", sum := "6da817f20c37678133d2345541e9c737f366232ca8ecd5f13defa6a30237c582", func := "additive/additivelaw19.RasterBoxes", spec := "rasterBoxes", unfollowed := true, recurses := true, apart := false }
def RasterBoxesSaid : Prop := rasterBoxesRow.holds Try.pinned (OpenSpec.ofChange rasterBoxesSpec)

/-- ITS FALSE NEIGHBOUR: 'it returns false'. Refute it at one input. -/
def rasterBoxesWrong : ChangeSpec := { name := "rasterBoxes", fn := fun _ => fun
  | [d1, d2, d3, d4, d5] => { results := [.lit (.bool false)], args := [d1, d2, d3, d4, d5] }
  | _ => none }
def RasterBoxesWrongFalsely : Prop := rasterBoxesRow.holds Try.pinned (OpenSpec.ofChange rasterBoxesWrong)

/-- 'additivelaw19.RasterRows': WHATEVER THE INPUT: true; the input reads as it did. -/
def rasterRowsSpec : ChangeSpec := { name := "rasterRows", fn := fun _ => fun
  | [d1, d2, d3] => { results := [.lit (.bool true)], args := [d1, d2, d3] }
  | _ => none }
def rasterRowsRow : OpenClaim := { program := "ytbdmibbpojmkiaa", sum := "6da817f20c37678133d2345541e9c737f366232ca8ecd5f13defa6a30237c582", func := "additive/additivelaw19.RasterRows", spec := "rasterRows", unfollowed := true, recurses := true, apart := false }
def RasterRowsSaid : Prop := rasterRowsRow.holds Try.pinned (OpenSpec.ofChange rasterRowsSpec)

/-- ITS FALSE NEIGHBOUR: 'it returns false'. Refute it at one input. -/
def rasterRowsWrong : ChangeSpec := { name := "rasterRows", fn := fun _ => fun
  | [d1, d2, d3] => { results := [.lit (.bool false)], args := [d1, d2, d3] }
  | _ => none }
def RasterRowsWrongFalsely : Prop := rasterRowsRow.holds Try.pinned (OpenSpec.ofChange rasterRowsWrong)

/-- 'additivelaw19.RasterMoves': WHATEVER THE INPUT: true; the input reads as it did. -/
def rasterMovesSpec : ChangeSpec := { name := "rasterMoves", fn := fun _ => fun
  | [d1, d2, d3, d4] => { results := [.lit (.bool true)], args := [d1, d2, d3, d4] }
  | _ => none }
def rasterMovesRow : OpenClaim := { program := "ytbdmibbpojmkiaa", sum := "6da817f20c37678133d2345541e9c737f366232ca8ecd5f13defa6a30237c582", func := "additive/additivelaw19.RasterMoves", spec := "rasterMoves", unfollowed := true, recurses := true, apart := false }
def RasterMovesSaid : Prop := rasterMovesRow.holds Try.pinned (OpenSpec.ofChange rasterMovesSpec)

/-- ITS FALSE NEIGHBOUR: 'it returns false'. Refute it at one input. -/
def rasterMovesWrong : ChangeSpec := { name := "rasterMoves", fn := fun _ => fun
  | [d1, d2, d3, d4] => { results := [.lit (.bool false)], args := [d1, d2, d3, d4] }
  | _ => none }
def RasterMovesWrongFalsely : Prop := rasterMovesRow.holds Try.pinned (OpenSpec.ofChange rasterMovesWrong)

/-- 'additivelaw19.RasterExact': WHATEVER THE INPUT: true; the input reads as it did. -/
def rasterExactSpec : ChangeSpec := { name := "rasterExact", fn := fun _ => fun
  | [d1, d2, d3] => { results := [.lit (.bool true)], args := [d1, d2, d3] }
  | _ => none }
def rasterExactRow : OpenClaim := { program := "ytbdmibbpojmkiaa", sum := "6da817f20c37678133d2345541e9c737f366232ca8ecd5f13defa6a30237c582", func := "additive/additivelaw19.RasterExact", spec := "rasterExact", unfollowed := true, recurses := true, apart := false }
def RasterExactSaid : Prop := rasterExactRow.holds Try.pinned (OpenSpec.ofChange rasterExactSpec)

/-- ITS FALSE NEIGHBOUR: 'it returns false'. Refute it at one input. -/
def rasterExactWrong : ChangeSpec := { name := "rasterExact", fn := fun _ => fun
  | [d1, d2, d3] => { results := [.lit (.bool false)], args := [d1, d2, d3] }
  | _ => none }
def RasterExactWrongFalsely : Prop := rasterExactRow.holds Try.pinned (OpenSpec.ofChange rasterExactWrong)

/- THE SECOND FORM. 'bulk': how many values and letters a reading holds, each counted each time it is reached (what is shared counts as often as it is met; a slice's spare places count too). A statement '..UptoSaid' is the law's where the arguments, and the package variables that the reading takes, are together of bulk at most 1048576: NARROWER than '..Said'. Prove '..Said' where nothing that the law and all that it calls make is longer than what came in: it says more and counts as full. Else prove '..UptoSaid'. A law counts once. -/
mutual
def uptoBulk {H : Type} : DataW H → Nat
  | .lit (.string bytes) => bytes.length + 1
  | .lit _ => 1
  | .nil => 1
  | .ptr d => uptoBulk d + 1
  | .slice elems spare => uptoBulkAll elems + uptoBulkAll spare + 1
  | .agg parts => uptoBulkAll parts + 1
  | .iface _ d => uptoBulk d + 1
  | .map entries => uptoBulkEntries entries + 1
  | .held _ => 1
def uptoBulkAll {H : Type} : List (DataW H) → Nat
  | [] => 0
  | d :: r => uptoBulk d + uptoBulkAll r
def uptoBulkEntries {H : Type} : List (Lit × DataW H) → Nat
  | [] => 0
  | x :: r => uptoBulkEntry x + uptoBulkEntries r
def uptoBulkEntry {H : Type} : Lit × DataW H → Nat
  | (.string bytes, d) => bytes.length + uptoBulk d + 1
  | (_, d) => uptoBulk d + 1
 end
def uptoSmall : (H : Type) → List (DataW H) → Bool := fun _ ds => decide (uptoBulkAll ds ≤ 1048576)
def OpenSpec.upto (s : _root_.Go.ChangeSpec) : _root_.Go.OpenSpec := { _root_.Go.OpenSpec.ofChange s with cond := some uptoSmall }

/-- 'additivelaw19.RasterCenters', WHERE WHAT IT READS IS OF BULK AT MOST 1048576: true; the input reads as it did. -/
def rasterCentersUptoRow : OpenClaim := { program := "ytbdmibbpojmkiaa", sum := "6da817f20c37678133d2345541e9c737f366232ca8ecd5f13defa6a30237c582", func := "additive/additivelaw19.RasterCenters", spec := "rasterCenters", unfollowed := true, recurses := true, apart := false, narrowed := true }
def RasterCentersUptoSaid : Prop := rasterCentersUptoRow.holds Try.pinned (OpenSpec.upto rasterCentersSpec)

/-- 'additivelaw19.RasterFills', WHERE WHAT IT READS IS OF BULK AT MOST 1048576: true; the input reads as it did. -/
def rasterFillsUptoRow : OpenClaim := { program := "ytbdmibbpojmkiaa", sum := "6da817f20c37678133d2345541e9c737f366232ca8ecd5f13defa6a30237c582", func := "additive/additivelaw19.RasterFills", spec := "rasterFills", unfollowed := true, recurses := true, apart := false, narrowed := true }
def RasterFillsUptoSaid : Prop := rasterFillsUptoRow.holds Try.pinned (OpenSpec.upto rasterFillsSpec)

/-- 'additivelaw19.RasterBoxes', WHERE WHAT IT READS IS OF BULK AT MOST 1048576: true; the input reads as it did. -/
def rasterBoxesUptoRow : OpenClaim := { program := "ytbdmibbpojmkiaa", sum := "6da817f20c37678133d2345541e9c737f366232ca8ecd5f13defa6a30237c582", func := "additive/additivelaw19.RasterBoxes", spec := "rasterBoxes", unfollowed := true, recurses := true, apart := false, narrowed := true }
def RasterBoxesUptoSaid : Prop := rasterBoxesUptoRow.holds Try.pinned (OpenSpec.upto rasterBoxesSpec)

/-- 'additivelaw19.RasterRows', WHERE WHAT IT READS IS OF BULK AT MOST 1048576: true; the input reads as it did. -/
def rasterRowsUptoRow : OpenClaim := { program := "ytbdmibbpojmkiaa", sum := "6da817f20c37678133d2345541e9c737f366232ca8ecd5f13defa6a30237c582", func := "additive/additivelaw19.RasterRows", spec := "rasterRows", unfollowed := true, recurses := true, apart := false, narrowed := true }
def RasterRowsUptoSaid : Prop := rasterRowsUptoRow.holds Try.pinned (OpenSpec.upto rasterRowsSpec)

/-- 'additivelaw19.RasterMoves', WHERE WHAT IT READS IS OF BULK AT MOST 1048576: true; the input reads as it did. -/
def rasterMovesUptoRow : OpenClaim := { program := "ytbdmibbpojmkiaa", sum := "6da817f20c37678133d2345541e9c737f366232ca8ecd5f13defa6a30237c582", func := "additive/additivelaw19.RasterMoves", spec := "rasterMoves", unfollowed := true, recurses := true, apart := false, narrowed := true }
def RasterMovesUptoSaid : Prop := rasterMovesUptoRow.holds Try.pinned (OpenSpec.upto rasterMovesSpec)

/-- 'additivelaw19.RasterExact', WHERE WHAT IT READS IS OF BULK AT MOST 1048576: true; the input reads as it did. -/
def rasterExactUptoRow : OpenClaim := { program := "ytbdmibbpojmkiaa", sum := "6da817f20c37678133d2345541e9c737f366232ca8ecd5f13defa6a30237c582", func := "additive/additivelaw19.RasterExact", spec := "rasterExact", unfollowed := true, recurses := true, apart := false, narrowed := true }
def RasterExactUptoSaid : Prop := rasterExactUptoRow.holds Try.pinned (OpenSpec.upto rasterExactSpec)

end Rows
end Go.Proofs.Ytbdmibbpojmkiaa

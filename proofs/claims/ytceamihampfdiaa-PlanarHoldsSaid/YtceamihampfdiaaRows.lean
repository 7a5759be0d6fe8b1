/-
  No cell of these rows narrows 'for every input' (looked for: loops, veiled, ifaces, maps, wideKeys, modest, calm, conditions, laid).
  DERIVED. THE GIVEN ROWS OF THIS SEAT. 12 by the template 'for every input the law returns true; each argument reads behind the call as it read before'; 0 by the template 'total and deterministic' (their statements: YtceamihampfdiaaTotals.lean).
  GIVEN WITH THE SEED: the statements are not yours to turn. If you find one false, say at which input.
  Laid BY PROGRAM, IN A SANDBOX (cutbox-rows.mjs): the forced cells as the released guide's own fill.sh prints them over the translation 209d1bf8ad021a7f… (all of the seat's roots in one cut). By AI agents, Wed Nov 11 2026. No macro, syntax, notation, axiom, sorry.
-/
import Derived.Test.YtceamihampfdiaaChecked
import GoSem.Claim
import GoSem.ClaimJoined
import GoSem.ClaimMapViews
import Derived.JoinedTies
import Derived.KernelRfl
namespace Go.Proofs.Ytceamihampfdiaa
/- THE CELL 'sum', in the pinned program and in every row, IS THE sha256 OF THE DUMP (.gsa) THAT YtceamihampfdiaaProg.lean LOADS. Nothing in Lean hashes anything: it is a label: what it is worth is what the hold of that sum in a sandbox is worth. -/
noncomputable def Try.pinned : Pinned := { name := "ytceamihampfdiaa", sum := "209d1bf8ad021a7fb0633b494529eb8131e0ecba643ff0e3b5f06b62270c58bf", checked := Try.checked }
namespace Rows
def none {H : Type} : Left H := { results := [], args := [] }

/-- 'additivelaw05.PlanarOn': WHATEVER THE INPUT: true; the input reads as it did. -/
def planarOnSpec : ChangeSpec := { name := "planarOn", fn := fun _ => fun
  | [d1, d2] => { results := [.lit (.bool true)], args := [d1, d2] }
  | _ => none }
def planarOnRow : OpenClaim := { program := "ytceamihampfdiaa", sum := "209d1bf8ad021a7fb0633b494529eb8131e0ecba643ff0e3b5f06b62270c58bf", func := "additive/additivelaw05.PlanarOn", spec := "planarOn", unfollowed := true, recurses := true, apart := false }
def PlanarOnSaid : Prop := planarOnRow.holds Try.pinned (OpenSpec.ofChange planarOnSpec)

/-- ITS FALSE NEIGHBOUR: 'it returns false'. Refute it at one input. -/
def planarOnWrong : ChangeSpec := { name := "planarOn", fn := fun _ => fun
  | [d1, d2] => { results := [.lit (.bool false)], args := [d1, d2] }
  | _ => none }
def PlanarOnWrongFalsely : Prop := planarOnRow.holds Try.pinned (OpenSpec.ofChange planarOnWrong)

/-- 'additivelaw05.PlanarCounts': WHATEVER THE INPUT: true; the input reads as it did. -/
def planarCountsSpec : ChangeSpec := { name := "planarCounts", fn := fun _ => fun
  | [d1, d2] => { results := [.lit (.bool true)], args := [d1, d2] }
  | _ => none }
def planarCountsRow : OpenClaim := { program := "ytceamihampfdiaa", sum := "209d1bf8ad021a7fb0633b494529eb8131e0ecba643ff0e3b5f06b62270c58bf", func := "additive/additivelaw05.PlanarCounts", spec := "planarCounts", unfollowed := true, recurses := true, apart := false }
def PlanarCountsSaid : Prop := planarCountsRow.holds Try.pinned (OpenSpec.ofChange planarCountsSpec)

/-- ITS FALSE NEIGHBOUR: 'it returns false'. Refute it at one input. -/
def planarCountsWrong : ChangeSpec := { name := "planarCounts", fn := fun _ => fun
  | [d1, d2] => { results := [.lit (.bool false)], args := [d1, d2] }
  | _ => none }
def PlanarCountsWrongFalsely : Prop := planarCountsRow.holds Try.pinned (OpenSpec.ofChange planarCountsWrong)

/-- 'additivelaw05.PlanarMeets': WHATEVER THE INPUT: true; the input reads as it did. -/
def planarMeetsSpec : ChangeSpec := { name := "planarMeets", fn := fun _ => fun
  | [d1, d2] => { results := [.lit (.bool true)], args := [d1, d2] }
  | _ => none }
def planarMeetsRow : OpenClaim := { program := "ytceamihampfdiaa", sum := "209d1bf8ad021a7fb0633b494529eb8131e0ecba643ff0e3b5f06b62270c58bf", func := "additive/additivelaw05.PlanarMeets", spec := "planarMeets", unfollowed := true, recurses := true, apart := false }
def PlanarMeetsSaid : Prop := planarMeetsRow.holds Try.pinned (OpenSpec.ofChange planarMeetsSpec)

/-- ITS FALSE NEIGHBOUR: 'it returns false'. Refute it at one input. -/
def planarMeetsWrong : ChangeSpec := { name := "planarMeets", fn := fun _ => fun
  | [d1, d2] => { results := [.lit (.bool false)], args := [d1, d2] }
  | _ => none }
def PlanarMeetsWrongFalsely : Prop := planarMeetsRow.holds Try.pinned (OpenSpec.ofChange planarMeetsWrong)

/-- 'additivelaw05.PlanarCross': WHATEVER THE INPUT: true; the input reads as it did. -/
def planarCrossSpec : ChangeSpec := { name := "planarCross", fn := fun _ => fun
  | [d1, d2, d3] => { results := [.lit (.bool true)], args := [d1, d2, d3] }
  | _ => none }
def planarCrossRow : OpenClaim := { program := "ytceamihampfdiaa", sum := "209d1bf8ad021a7fb0633b494529eb8131e0ecba643ff0e3b5f06b62270c58bf", func := "additive/additivelaw05.PlanarCross", spec := "planarCross", unfollowed := true, recurses := true, apart := false }
def PlanarCrossSaid : Prop := planarCrossRow.holds Try.pinned (OpenSpec.ofChange planarCrossSpec)

/-- ITS FALSE NEIGHBOUR: 'it returns false'. Refute it at one input. -/
def planarCrossWrong : ChangeSpec := { name := "planarCross", fn := fun _ => fun
  | [d1, d2, d3] => { results := [.lit (.bool false)], args := [d1, d2, d3] }
  | _ => none }
def PlanarCrossWrongFalsely : Prop := planarCrossRow.holds Try.pinned (OpenSpec.ofChange planarCrossWrong)

/-- 'additivelaw05.PlanarSymmetry': WHATEVER THE INPUT: true; the input reads as it did. -/
def planarSymmetrySpec : ChangeSpec := { name := "planarSymmetry", fn := fun _ => fun
  | [d1, d2] => { results := [.lit (.bool true)], args := [d1, d2] }
  | _ => none }
def planarSymmetryRow : OpenClaim := { program := "ytceamihampfdiaa", sum := "209d1bf8ad021a7fb0633b494529eb8131e0ecba643ff0e3b5f06b62270c58bf", func := "additive/additivelaw05.PlanarSymmetry", spec := "planarSymmetry", unfollowed := true, recurses := true, apart := false }
def PlanarSymmetrySaid : Prop := planarSymmetryRow.holds Try.pinned (OpenSpec.ofChange planarSymmetrySpec)

/-- ITS FALSE NEIGHBOUR: 'it returns false'. Refute it at one input. -/
def planarSymmetryWrong : ChangeSpec := { name := "planarSymmetry", fn := fun _ => fun
  | [d1, d2] => { results := [.lit (.bool false)], args := [d1, d2] }
  | _ => none }
def PlanarSymmetryWrongFalsely : Prop := planarSymmetryRow.holds Try.pinned (OpenSpec.ofChange planarSymmetryWrong)

/-- 'additivelaw05.PlanarAreas': WHATEVER THE INPUT: true; the input reads as it did. -/
def planarAreasSpec : ChangeSpec := { name := "planarAreas", fn := fun _ => fun
  | [d] => { results := [.lit (.bool true)], args := [d] }
  | _ => none }
def planarAreasRow : OpenClaim := { program := "ytceamihampfdiaa", sum := "209d1bf8ad021a7fb0633b494529eb8131e0ecba643ff0e3b5f06b62270c58bf", func := "additive/additivelaw05.PlanarAreas", spec := "planarAreas", unfollowed := true, recurses := true, apart := false }
def PlanarAreasSaid : Prop := planarAreasRow.holds Try.pinned (OpenSpec.ofChange planarAreasSpec)

/-- ITS FALSE NEIGHBOUR: 'it returns false'. Refute it at one input. -/
def planarAreasWrong : ChangeSpec := { name := "planarAreas", fn := fun _ => fun
  | [d] => { results := [.lit (.bool false)], args := [d] }
  | _ => none }
def PlanarAreasWrongFalsely : Prop := planarAreasRow.holds Try.pinned (OpenSpec.ofChange planarAreasWrong)

/-- 'additivelaw05.PlanarLong': WHATEVER THE INPUT: true; the input reads as it did. -/
def planarLongSpec : ChangeSpec := { name := "planarLong", fn := fun _ => fun
  | [d] => { results := [.lit (.bool true)], args := [d] }
  | _ => none }
def planarLongRow : OpenClaim := { program := "ytceamihampfdiaa", sum := "209d1bf8ad021a7fb0633b494529eb8131e0ecba643ff0e3b5f06b62270c58bf", func := "additive/additivelaw05.PlanarLong", spec := "planarLong", unfollowed := true, recurses := true, apart := false }
def PlanarLongSaid : Prop := planarLongRow.holds Try.pinned (OpenSpec.ofChange planarLongSpec)

/-- ITS FALSE NEIGHBOUR: 'it returns false'. Refute it at one input. -/
def planarLongWrong : ChangeSpec := { name := "planarLong", fn := fun _ => fun
  | [d] => { results := [.lit (.bool false)], args := [d] }
  | _ => none }
def PlanarLongWrongFalsely : Prop := planarLongRow.holds Try.pinned (OpenSpec.ofChange planarLongWrong)

/-- 'additivelaw05.PlanarFan': WHATEVER THE INPUT: true; the input reads as it did. -/
def planarFanSpec : ChangeSpec := { name := "planarFan", fn := fun _ => fun
  | [d] => { results := [.lit (.bool true)], args := [d] }
  | _ => none }
def planarFanRow : OpenClaim := { program := "ytceamihampfdiaa", sum := "209d1bf8ad021a7fb0633b494529eb8131e0ecba643ff0e3b5f06b62270c58bf", func := "additive/additivelaw05.PlanarFan", spec := "planarFan", unfollowed := true, recurses := true, apart := false }
def PlanarFanSaid : Prop := planarFanRow.holds Try.pinned (OpenSpec.ofChange planarFanSpec)

/-- ITS FALSE NEIGHBOUR: 'it returns false'. Refute it at one input. -/
def planarFanWrong : ChangeSpec := { name := "planarFan", fn := fun _ => fun
  | [d] => { results := [.lit (.bool false)], args := [d] }
  | _ => none }
def PlanarFanWrongFalsely : Prop := planarFanRow.holds Try.pinned (OpenSpec.ofChange planarFanWrong)

/-- 'additivelaw05.PlanarHulls': WHATEVER THE INPUT: true; the input reads as it did. -/
def planarHullsSpec : ChangeSpec := { name := "planarHulls", fn := fun _ => fun
  | [d] => { results := [.lit (.bool true)], args := [d] }
  | _ => none }
def planarHullsRow : OpenClaim := { program := "ytceamihampfdiaa", sum := "209d1bf8ad021a7fb0633b494529eb8131e0ecba643ff0e3b5f06b62270c58bf", func := "additive/additivelaw05.PlanarHulls", spec := "planarHulls", unfollowed := true, recurses := true, apart := false }
def PlanarHullsSaid : Prop := planarHullsRow.holds Try.pinned (OpenSpec.ofChange planarHullsSpec)

/-- ITS FALSE NEIGHBOUR: 'it returns false'. Refute it at one input. -/
def planarHullsWrong : ChangeSpec := { name := "planarHulls", fn := fun _ => fun
  | [d] => { results := [.lit (.bool false)], args := [d] }
  | _ => none }
def PlanarHullsWrongFalsely : Prop := planarHullsRow.holds Try.pinned (OpenSpec.ofChange planarHullsWrong)

/-- 'additivelaw05.PlanarHolds': WHATEVER THE INPUT: true; the input reads as it did. -/
def planarHoldsSpec : ChangeSpec := { name := "planarHolds", fn := fun _ => fun
  | [d] => { results := [.lit (.bool true)], args := [d] }
  | _ => none }
def planarHoldsRow : OpenClaim := { program := "ytceamihampfdiaa", sum := "209d1bf8ad021a7fb0633b494529eb8131e0ecba643ff0e3b5f06b62270c58bf", func := "additive/additivelaw05.PlanarHolds", spec := "planarHolds", unfollowed := true, recurses := true, apart := false }
def PlanarHoldsSaid : Prop := planarHoldsRow.holds Try.pinned (OpenSpec.ofChange planarHoldsSpec)

/-- ITS FALSE NEIGHBOUR: 'it returns false'. Refute it at one input. -/
def planarHoldsWrong : ChangeSpec := { name := "planarHolds", fn := fun _ => fun
  | [d] => { results := [.lit (.bool false)], args := [d] }
  | _ => none }
def PlanarHoldsWrongFalsely : Prop := planarHoldsRow.holds Try.pinned (OpenSpec.ofChange planarHoldsWrong)

/-- 'additivelaw05.PlanarHullAgain': WHATEVER THE INPUT: true; the input reads as it did. -/
def planarHullAgainSpec : ChangeSpec := { name := "planarHullAgain", fn := fun _ => fun
  | [d1, d2] => { results := [.lit (.bool true)], args := [d1, d2] }
  | _ => none }
def planarHullAgainRow : OpenClaim := { program := "ytceamihampfdiaa", sum := "209d1bf8ad021a7fb0633b494529eb8131e0ecba643ff0e3b5f06b62270c58bf", func := "additive/additivelaw05.PlanarHullAgain", spec := "planarHullAgain", unfollowed := true, recurses := true, apart := false }
def PlanarHullAgainSaid : Prop := planarHullAgainRow.holds Try.pinned (OpenSpec.ofChange planarHullAgainSpec)

/-- ITS FALSE NEIGHBOUR: 'it returns false'. Refute it at one input. -/
def planarHullAgainWrong : ChangeSpec := { name := "planarHullAgain", fn := fun _ => fun
  | [d1, d2] => { results := [.lit (.bool false)], args := [d1, d2] }
  | _ => none }
def PlanarHullAgainWrongFalsely : Prop := planarHullAgainRow.holds Try.pinned (OpenSpec.ofChange planarHullAgainWrong)

/-- 'additivelaw05.PlanarHullLong': WHATEVER THE INPUT: true; the input reads as it did. -/
def planarHullLongSpec : ChangeSpec := { name := "planarHullLong", fn := fun _ => fun
  | [d] => { results := [.lit (.bool true)], args := [d] }
  | _ => none }
def planarHullLongRow : OpenClaim := { program := "ytceamihampfdiaa", sum := "209d1bf8ad021a7fb0633b494529eb8131e0ecba643ff0e3b5f06b62270c58bf", func := "additive/additivelaw05.PlanarHullLong", spec := "planarHullLong", unfollowed := true, recurses := true, apart := false }
def PlanarHullLongSaid : Prop := planarHullLongRow.holds Try.pinned (OpenSpec.ofChange planarHullLongSpec)

/-- ITS FALSE NEIGHBOUR: 'it returns false'. Refute it at one input. -/
def planarHullLongWrong : ChangeSpec := { name := "planarHullLong", fn := fun _ => fun
  | [d] => { results := [.lit (.bool false)], args := [d] }
  | _ => none }
def PlanarHullLongWrongFalsely : Prop := planarHullLongRow.holds Try.pinned (OpenSpec.ofChange planarHullLongWrong)

/- THE SECOND FORM. 'bulk': how many values and letters a reading holds, each counted each time it is reached (what is shared counts as often as it is met; a slice's spare places count too). A statement '..UptoSaid' is the law's where the arguments, and the package variables that the reading takes, are together of bulk at most 1048576: NARROWER than '..Said'. Prove '..Said' where nothing that the law and all that it calls make is longer than what came in: it says more and counts as full. Else prove '..UptoSaid'. A law counts once. -/
mutual
def uptoBulk {H : Type} : DataW H → Nat
  | .lit (.string bytes) => bytes.length + 1
  | .lit _ => 1
  | .nil => 1
  | .ptr d => uptoBulk d + 1
  | .slice elems spare => uptoBulkAll elems + uptoBulkAll spare + 1
  | .agg parts => uptoBulkAll parts + 1
  | .iface _ d => uptoBulk d + 1
  | .map entries => uptoBulkEntries entries + 1
  | .held _ => 1
def uptoBulkAll {H : Type} : List (DataW H) → Nat
  | [] => 0
  | d :: r => uptoBulk d + uptoBulkAll r
def uptoBulkEntries {H : Type} : List (Lit × DataW H) → Nat
  | [] => 0
  | x :: r => uptoBulkEntry x + uptoBulkEntries r
def uptoBulkEntry {H : Type} : Lit × DataW H → Nat
  | (.string bytes, d) => bytes.length + uptoBulk d + 1
  | (_, d) => uptoBulk d + 1
 end
def uptoSmall : (H : Type) → List (DataW H) → Bool := fun _ ds => decide (uptoBulkAll ds ≤ 1048576)
def OpenSpec.upto (s : _root_.Go.ChangeSpec) : _root_.Go.OpenSpec := { _root_.Go.OpenSpec.ofChange s with cond := some uptoSmall }

/-- 'additivelaw05.PlanarOn', WHERE WHAT IT READS IS OF BULK AT MOST 1048576: true; the input reads as it did. -/
def planarOnUptoRow : OpenClaim := { program := "ytceamihampfdiaa", sum := "209d1bf8ad021a7fb0633b494529eb8131e0ecba643ff0e3b5f06b62270c58bf", func := "additive/additivelaw05.PlanarOn", spec := "planarOn", unfollowed := true, recurses := true, apart := false, narrowed := true }
def PlanarOnUptoSaid : Prop := planarOnUptoRow.holds Try.pinned (OpenSpec.upto planarOnSpec)

/-- 'additivelaw05.PlanarCounts', WHERE WHAT IT READS IS OF BULK AT MOST 1048576: true; the input reads as it did. -/
def planarCountsUptoRow : OpenClaim := { program := "ytceamihampfdiaa", sum := "209d1bf8ad021a7fb0633b494529eb8131e0ecba643ff0e3b5f06b62270c58bf", func := "additive/additivelaw05.PlanarCounts", spec := "planarCounts", unfollowed := true, recurses := true, apart := false, narrowed := true }
def PlanarCountsUptoSaid : Prop := planarCountsUptoRow.holds Try.pinned (OpenSpec.upto planarCountsSpec)

/-- 'additivelaw05.PlanarMeets', WHERE WHAT IT READS IS OF BULK AT MOST 1048576: true; the input reads as it did. -/
def planarMeetsUptoRow : OpenClaim := { program := "ytceamihampfdiaa", sum := "209d1bf8ad021a7fb0633b494529eb8131e0ecba643ff0e3b5f06b62270c58bf", func := "additive/additivelaw05.PlanarMeets", spec := "planarMeets", unfollowed := true, recurses := true, apart := false, narrowed := true }
def PlanarMeetsUptoSaid : Prop := planarMeetsUptoRow.holds Try.pinned (OpenSpec.upto planarMeetsSpec)

/-- 'additivelaw05.PlanarCross', WHERE WHAT IT READS IS OF BULK AT MOST 1048576: true; the input reads as it did. -/
def planarCrossUptoRow : OpenClaim := { program := "ytceamihampfdiaa", sum := "209d1bf8ad021a7fb0633b494529eb8131e0ecba643ff0e3b5f06b62270c58bf", func := "additive/additivelaw05.PlanarCross", spec := "planarCross", unfollowed := true, recurses := true, apart := false, narrowed := true }
def PlanarCrossUptoSaid : Prop := planarCrossUptoRow.holds Try.pinned (OpenSpec.upto planarCrossSpec)

/-- 'additivelaw05.PlanarSymmetry', WHERE WHAT IT READS IS OF BULK AT MOST 1048576: true; the input reads as it did. -/
def planarSymmetryUptoRow : OpenClaim := { program := "ytceamihampfdiaa", sum := "209d1bf8ad021a7fb0633b494529eb8131e0ecba643ff0e3b5f06b62270c58bf", func := "additive/additivelaw05.PlanarSymmetry", spec := "planarSymmetry", unfollowed := true, recurses := true, apart := false, narrowed := true }
def PlanarSymmetryUptoSaid : Prop := planarSymmetryUptoRow.holds Try.pinned (OpenSpec.upto planarSymmetrySpec)

/-- 'additivelaw05.PlanarAreas', WHERE WHAT IT READS IS OF BULK AT MOST 1048576: true; the input reads as it did. -/
def planarAreasUptoRow : OpenClaim := { program := "ytceamihampfdiaa", sum := "209d1bf8ad021a7fb0633b494529eb8131e0ecba643ff0e3b5f06b62270c58bf", func := "additive/additivelaw05.PlanarAreas", spec := "planarAreas", unfollowed := true, recurses := true, apart := false, narrowed := true }
def PlanarAreasUptoSaid : Prop := planarAreasUptoRow.holds Try.pinned (OpenSpec.upto planarAreasSpec)

/-- 'additivelaw05.PlanarLong', WHERE WHAT IT READS IS OF BULK AT MOST 1048576: true; the input reads as it did. -/
def planarLongUptoRow : OpenClaim := { program := "ytceamihampfdiaa", sum := "209d1bf8ad021a7fb0633b494529eb8131e0ecba643ff0e3b5f06b62270c58bf", func := "additive/additivelaw05.PlanarLong", spec := "planarLong", unfollowed := true, recurses := true, apart := false, narrowed := true }
def PlanarLongUptoSaid : Prop := planarLongUptoRow.holds Try.pinned (OpenSpec.upto planarLongSpec)

/-- 'additivelaw05.PlanarFan', WHERE WHAT IT READS IS OF BULK AT MOST 1048576: true; the input reads as it did. -/
def planarFanUptoRow : OpenClaim := { program := "ytceamihampfdiaa", sum := "209d1bf8ad021a7fb0633b494529eb8131e0ecba643ff0e3b5f06b62270c58bf", func := "additive/additivelaw05.PlanarFan", spec := "planarFan", unfollowed := true, recurses := true, apart := false, narrowed := true }
def PlanarFanUptoSaid : Prop := planarFanUptoRow.holds Try.pinned (OpenSpec.upto planarFanSpec)

/-- 'additivelaw05.PlanarHulls', WHERE WHAT IT READS IS OF BULK AT MOST 1048576: true; the input reads as it did. -/
def planarHullsUptoRow : OpenClaim := { program := "ytceamihampfdiaa", sum := "209d1bf8ad021a7fb0633b494529eb8131e0ecba643ff0e3b5f06b62270c58bf", func := "additive/additivelaw05.PlanarHulls", spec := "planarHulls", unfollowed := true, recurses := true, apart := false, narrowed := true }
def PlanarHullsUptoSaid : Prop := planarHullsUptoRow.holds Try.pinned (OpenSpec.upto planarHullsSpec)

/-- 'additivelaw05.PlanarHolds', WHERE WHAT IT READS IS OF BULK AT MOST 1048576: true; the input reads as it did. -/
def planarHoldsUptoRow : OpenClaim := { program := "ytceamihampfdiaa", sum := "209d1bf8ad021a7fb0633b494529eb8131e0ecba643ff0e3b5f06b62270c58bf", func := "additive/additivelaw05.PlanarHolds", spec := "planarHolds", unfollowed := true, recurses := true, apart := false, narrowed := true }
def PlanarHoldsUptoSaid : Prop := planarHoldsUptoRow.holds Try.pinned (OpenSpec.upto planarHoldsSpec)

/-- 'additivelaw05.PlanarHullAgain', WHERE WHAT IT READS IS OF BULK AT MOST 1048576: true; the input reads as it did. -/
def planarHullAgainUptoRow : OpenClaim := { program := "ytceamihampfdiaa", sum := "209d1bf8ad021a7fb0633b494529eb8131e0ecba643ff0e3b5f06b62270c58bf", func := "additive/additivelaw05.PlanarHullAgain", spec := "planarHullAgain", unfollowed := true, recurses := true, apart := false, narrowed := true }
def PlanarHullAgainUptoSaid : Prop := planarHullAgainUptoRow.holds Try.pinned (OpenSpec.upto planarHullAgainSpec)

/-- 'additivelaw05.PlanarHullLong', WHERE WHAT IT READS IS OF BULK AT MOST 1048576: true; the input reads as it did. -/
def planarHullLongUptoRow : OpenClaim := { program := "ytceamihampfdiaa", sum := "209d1bf8ad021a7fb0633b494529eb8131e0ecba643ff0e3b5f06b62270c58bf", func := "additive/additivelaw05.PlanarHullLong", spec := "planarHullLong", unfollowed := true, recurses := true, apart := false, narrowed := true }
def PlanarHullLongUptoSaid : Prop := planarHullLongUptoRow.holds Try.pinned (OpenSpec.upto planarHullLongSpec)

end Rows
end Go.Proofs.Ytceamihampfdiaa

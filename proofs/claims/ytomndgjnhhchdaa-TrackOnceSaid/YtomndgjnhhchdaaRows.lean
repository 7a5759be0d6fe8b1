/-
  No cell of these rows narrows 'for every input' (looked for: loops, veiled, ifaces, maps, wideKeys, modest, calm, conditions, laid).
  DERIVED. THE GIVEN ROWS OF THIS SEAT. 7 by the template 'for every input the law returns true; each argument reads behind the call as it read before'; 0 by the template 'total and deterministic' (their statements: YtomndgjnhhchdaaTotals.lean).
  GIVEN WITH THE SEED: the statements are not yours to turn. If you find one false, say at which input.
  Laid BY PROGRAM, IN A SANDBOX (cutbox-rows.mjs): the forced cells as the released guide's own fill.sh prints them over the translation 6c8a26f1e53ee684… (all of the seat's roots in one cut). By AI agents, Wed Nov 11 2026. No macro, syntax, notation, axiom, sorry.
-/
import Derived.Test.YtomndgjnhhchdaaChecked
import GoSem.Claim
import GoSem.ClaimJoined
import GoSem.ClaimMapViews
import Derived.JoinedTies
import Derived.KernelRfl
namespace Go.Proofs.Ytomndgjnhhchdaa
/- THE CELL 'sum', in the pinned program and in every row, IS THE sha256 OF THE DUMP (.gsa) THAT YtomndgjnhhchdaaProg.lean LOADS. Nothing in Lean hashes anything: it is a label: what it is worth is what the hold of that sum in a sandbox is worth. -/
noncomputable def Try.pinned : Pinned := { name := "ytomndgjnhhchdaa", sum := "6c8a26f1e53ee684e3a26cc81f2bdd9cea506e3cfad1c44aa45825b4e5f43525", checked := Try.checked }
namespace Rows
def none {H : Type} : Left H := { results := [], args := [] }

/-- 'additivelaw23.TrackChecks': WHATEVER THE INPUT: true; the input reads as it did. -/
def trackChecksSpec : ChangeSpec := { name := "trackChecks", fn := fun _ => fun
  | [d] => { results := [.lit (.bool true)], args := [d] }
  | _ => none }
def trackChecksRow : OpenClaim := { program := "ytomndgjnhhchdaa", sum := "6c8a26f1e53ee684e3a26cc81f2bdd9cea506e3cfad1c44aa45825b4e5f43525", func := "additive/additivelaw23.TrackChecks", spec := "trackChecks", unfollowed := true, recurses := true, plainKeys := false, apart := false }
def TrackChecksSaid : Prop := trackChecksRow.holds Try.pinned (OpenSpec.ofChange trackChecksSpec)

/-- ITS FALSE NEIGHBOUR: 'it returns false'. Refute it at one input. -/
def trackChecksWrong : ChangeSpec := { name := "trackChecks", fn := fun _ => fun
  | [d] => { results := [.lit (.bool false)], args := [d] }
  | _ => none }
def TrackChecksWrongFalsely : Prop := trackChecksRow.holds Try.pinned (OpenSpec.ofChange trackChecksWrong)

/-- 'additivelaw23.TrackCorners': WHATEVER THE INPUT: true; the input reads as it did. -/
def trackCornersSpec : ChangeSpec := { name := "trackCorners", fn := fun _ => fun
  | [d] => { results := [.lit (.bool true)], args := [d] }
  | _ => none }
def trackCornersRow : OpenClaim := { program := "ytomndgjnhhchdaa", sum := "6c8a26f1e53ee684e3a26cc81f2bdd9cea506e3cfad1c44aa45825b4e5f43525", func := "additive/additivelaw23.TrackCorners", spec := "trackCorners", unfollowed := true, recurses := true, plainKeys := false, apart := false }
def TrackCornersSaid : Prop := trackCornersRow.holds Try.pinned (OpenSpec.ofChange trackCornersSpec)

/-- ITS FALSE NEIGHBOUR: 'it returns false'. Refute it at one input. -/
def trackCornersWrong : ChangeSpec := { name := "trackCorners", fn := fun _ => fun
  | [d] => { results := [.lit (.bool false)], args := [d] }
  | _ => none }
def TrackCornersWrongFalsely : Prop := trackCornersRow.holds Try.pinned (OpenSpec.ofChange trackCornersWrong)

/-- 'additivelaw23.TrackCover': WHATEVER THE INPUT: true; the input reads as it did. -/
def trackCoverSpec : ChangeSpec := { name := "trackCover", fn := fun _ => fun
  | [d] => { results := [.lit (.bool true)], args := [d] }
  | _ => none }
def trackCoverRow : OpenClaim := { program := "ytomndgjnhhchdaa", sum := "6c8a26f1e53ee684e3a26cc81f2bdd9cea506e3cfad1c44aa45825b4e5f43525", func := "additive/additivelaw23.TrackCover", spec := "trackCover", unfollowed := true, recurses := true, plainKeys := false, apart := false }
def TrackCoverSaid : Prop := trackCoverRow.holds Try.pinned (OpenSpec.ofChange trackCoverSpec)

/-- ITS FALSE NEIGHBOUR: 'it returns false'. Refute it at one input. -/
def trackCoverWrong : ChangeSpec := { name := "trackCover", fn := fun _ => fun
  | [d] => { results := [.lit (.bool false)], args := [d] }
  | _ => none }
def TrackCoverWrongFalsely : Prop := trackCoverRow.holds Try.pinned (OpenSpec.ofChange trackCoverWrong)

/-- 'additivelaw23.TrackOnce': WHATEVER THE INPUT: true; the input reads as it did. -/
def trackOnceSpec : ChangeSpec := { name := "trackOnce", fn := fun _ => fun
  | [d] => { results := [.lit (.bool true)], args := [d] }
  | _ => none }
def trackOnceRow : OpenClaim := { program := "ytomndgjnhhchdaa", sum := "6c8a26f1e53ee684e3a26cc81f2bdd9cea506e3cfad1c44aa45825b4e5f43525", func := "additive/additivelaw23.TrackOnce", spec := "trackOnce", unfollowed := true, recurses := true, plainKeys := false, apart := false }
def TrackOnceSaid : Prop := trackOnceRow.holds Try.pinned (OpenSpec.ofChange trackOnceSpec)

/-- ITS FALSE NEIGHBOUR: 'it returns false'. Refute it at one input. -/
def trackOnceWrong : ChangeSpec := { name := "trackOnce", fn := fun _ => fun
  | [d] => { results := [.lit (.bool false)], args := [d] }
  | _ => none }
def TrackOnceWrongFalsely : Prop := trackOnceRow.holds Try.pinned (OpenSpec.ofChange trackOnceWrong)

/-- 'additivelaw23.TrackAgain': WHATEVER THE INPUT: true; the input reads as it did. -/
def trackAgainSpec : ChangeSpec := { name := "trackAgain", fn := fun _ => fun
  | [d1, d2] => { results := [.lit (.bool true)], args := [d1, d2] }
  | _ => none }
def trackAgainRow : OpenClaim := { program := "ytomndgjnhhchdaa", sum := "6c8a26f1e53ee684e3a26cc81f2bdd9cea506e3cfad1c44aa45825b4e5f43525", func := "additive/additivelaw23.TrackAgain", spec := "trackAgain", unfollowed := true, recurses := true, plainKeys := false, apart := false }
def TrackAgainSaid : Prop := trackAgainRow.holds Try.pinned (OpenSpec.ofChange trackAgainSpec)

/-- ITS FALSE NEIGHBOUR: 'it returns false'. Refute it at one input. -/
def trackAgainWrong : ChangeSpec := { name := "trackAgain", fn := fun _ => fun
  | [d1, d2] => { results := [.lit (.bool false)], args := [d1, d2] }
  | _ => none }
def TrackAgainWrongFalsely : Prop := trackAgainRow.holds Try.pinned (OpenSpec.ofChange trackAgainWrong)

/-- 'additivelaw23.TrackLimits': WHATEVER THE INPUT: true; the input reads as it did. -/
def trackLimitsSpec : ChangeSpec := { name := "trackLimits", fn := fun _ => fun
  | [d1, d2] => { results := [.lit (.bool true)], args := [d1, d2] }
  | _ => none }
def trackLimitsRow : OpenClaim := { program := "ytomndgjnhhchdaa", sum := "6c8a26f1e53ee684e3a26cc81f2bdd9cea506e3cfad1c44aa45825b4e5f43525", func := "additive/additivelaw23.TrackLimits", spec := "trackLimits", unfollowed := true, recurses := true, plainKeys := false, apart := false }
def TrackLimitsSaid : Prop := trackLimitsRow.holds Try.pinned (OpenSpec.ofChange trackLimitsSpec)

/-- ITS FALSE NEIGHBOUR: 'it returns false'. Refute it at one input. -/
def trackLimitsWrong : ChangeSpec := { name := "trackLimits", fn := fun _ => fun
  | [d1, d2] => { results := [.lit (.bool false)], args := [d1, d2] }
  | _ => none }
def TrackLimitsWrongFalsely : Prop := trackLimitsRow.holds Try.pinned (OpenSpec.ofChange trackLimitsWrong)

/-- 'additivelaw23.TrackTurns': WHATEVER THE INPUT: true; the input reads as it did. -/
def trackTurnsSpec : ChangeSpec := { name := "trackTurns", fn := fun _ => fun
  | [d1, d2] => { results := [.lit (.bool true)], args := [d1, d2] }
  | _ => none }
def trackTurnsRow : OpenClaim := { program := "ytomndgjnhhchdaa", sum := "6c8a26f1e53ee684e3a26cc81f2bdd9cea506e3cfad1c44aa45825b4e5f43525", func := "additive/additivelaw23.TrackTurns", spec := "trackTurns", unfollowed := true, recurses := true, plainKeys := false, apart := false }
def TrackTurnsSaid : Prop := trackTurnsRow.holds Try.pinned (OpenSpec.ofChange trackTurnsSpec)

/-- ITS FALSE NEIGHBOUR: 'it returns false'. Refute it at one input. -/
def trackTurnsWrong : ChangeSpec := { name := "trackTurns", fn := fun _ => fun
  | [d1, d2] => { results := [.lit (.bool false)], args := [d1, d2] }
  | _ => none }
def TrackTurnsWrongFalsely : Prop := trackTurnsRow.holds Try.pinned (OpenSpec.ofChange trackTurnsWrong)

/- THE SECOND FORM. 'bulk': how many values and letters a reading holds, each counted each time it is reached (what is shared counts as often as it is met; a slice's spare places count too). A statement '..UptoSaid' is the law's where the arguments, and the package variables that the reading takes, are together of bulk at most 1048576: NARROWER than '..Said'. Prove '..Said' where nothing that the law and all that it calls make is longer than what came in: it says more and counts as full. Else prove '..UptoSaid'. A law counts once. -/
mutual
def uptoBulk {H : Type} : DataW H → Nat
  | .lit (.string bytes) => bytes.length + 1
  | .lit _ => 1
  | .nil => 1
  | .ptr d => uptoBulk d + 1
  | .slice elems spare => uptoBulkAll elems + uptoBulkAll spare + 1
  | .agg parts => uptoBulkAll parts + 1
  | .iface _ d => uptoBulk d + 1
  | .map entries => uptoBulkEntries entries + 1
  | .held _ => 1
def uptoBulkAll {H : Type} : List (DataW H) → Nat
  | [] => 0
  | d :: r => uptoBulk d + uptoBulkAll r
def uptoBulkEntries {H : Type} : List (Lit × DataW H) → Nat
  | [] => 0
  | x :: r => uptoBulkEntry x + uptoBulkEntries r
def uptoBulkEntry {H : Type} : Lit × DataW H → Nat
  | (.string bytes, d) => bytes.length + uptoBulk d + 1
  | (_, d) => uptoBulk d + 1
 end
def uptoSmall : (H : Type) → List (DataW H) → Bool := fun _ ds => decide (uptoBulkAll ds ≤ 1048576)
def OpenSpec.upto (s : _root_.Go.ChangeSpec) : _root_.Go.OpenSpec := { _root_.Go.OpenSpec.ofChange s with cond := some uptoSmall }

/-- 'additivelaw23.TrackChecks', WHERE WHAT IT READS IS OF BULK AT MOST 1048576: true; the input reads as it did. -/
def trackChecksUptoRow : OpenClaim := { program := "ytomndgjnhhchdaa", sum := "6c8a26f1e53ee684e3a26cc81f2bdd9cea506e3cfad1c44aa45825b4e5f43525", func := "additive/additivelaw23.TrackChecks", spec := "trackChecks", unfollowed := true, recurses := true, plainKeys := false, apart := false, narrowed := true }
def TrackChecksUptoSaid : Prop := trackChecksUptoRow.holds Try.pinned (OpenSpec.upto trackChecksSpec)

/-- 'additivelaw23.TrackCorners', WHERE WHAT IT READS IS OF BULK AT MOST 1048576: true; the input reads as it did. -/
def trackCornersUptoRow : OpenClaim := { program := "ytomndgjnhhchdaa", sum := "6c8a26f1e53ee684e3a26cc81f2bdd9cea506e3cfad1c44aa45825b4e5f43525", func := "additive/additivelaw23.TrackCorners", spec := "trackCorners", unfollowed := true, recurses := true, plainKeys := false, apart := false, narrowed := true }
def TrackCornersUptoSaid : Prop := trackCornersUptoRow.holds Try.pinned (OpenSpec.upto trackCornersSpec)

/-- 'additivelaw23.TrackCover', WHERE WHAT IT READS IS OF BULK AT MOST 1048576: true; the input reads as it did. -/
def trackCoverUptoRow : OpenClaim := { program := "ytomndgjnhhchdaa", sum := "6c8a26f1e53ee684e3a26cc81f2bdd9cea506e3cfad1c44aa45825b4e5f43525", func := "additive/additivelaw23.TrackCover", spec := "trackCover", unfollowed := true, recurses := true, plainKeys := false, apart := false, narrowed := true }
def TrackCoverUptoSaid : Prop := trackCoverUptoRow.holds Try.pinned (OpenSpec.upto trackCoverSpec)

/-- 'additivelaw23.TrackOnce', WHERE WHAT IT READS IS OF BULK AT MOST 1048576: true; the input reads as it did. -/
def trackOnceUptoRow : OpenClaim := { program := "ytomndgjnhhchdaa", sum := "6c8a26f1e53ee684e3a26cc81f2bdd9cea506e3cfad1c44aa45825b4e5f43525", func := "additive/additivelaw23.TrackOnce", spec := "trackOnce", unfollowed := true, recurses := true, plainKeys := false, apart := false, narrowed := true }
def TrackOnceUptoSaid : Prop := trackOnceUptoRow.holds Try.pinned (OpenSpec.upto trackOnceSpec)

/-- 'additivelaw23.TrackAgain', WHERE WHAT IT READS IS OF BULK AT MOST 1048576: true; the input reads as it did. -/
def trackAgainUptoRow : OpenClaim := { program := "ytomndgjnhhchdaa", sum := "6c8a26f1e53ee684e3a26cc81f2bdd9cea506e3cfad1c44aa45825b4e5f43525", func := "additive/additivelaw23.TrackAgain", spec := "trackAgain", unfollowed := true, recurses := true, plainKeys := false, apart := false, narrowed := true }
def TrackAgainUptoSaid : Prop := trackAgainUptoRow.holds Try.pinned (OpenSpec.upto trackAgainSpec)

/-- 'additivelaw23.TrackLimits', WHERE WHAT IT READS IS OF BULK AT MOST 1048576: true; the input reads as it did. -/
def trackLimitsUptoRow : OpenClaim := { program := "ytomndgjnhhchdaa", sum := "6c8a26f1e53ee684e3a26cc81f2bdd9cea506e3cfad1c44aa45825b4e5f43525", func := "additive/additivelaw23.TrackLimits", spec := "trackLimits", unfollowed := true, recurses := true, plainKeys := false, apart := false, narrowed := true }
def TrackLimitsUptoSaid : Prop := trackLimitsUptoRow.holds Try.pinned (OpenSpec.upto trackLimitsSpec)

/-- 'additivelaw23.TrackTurns', WHERE WHAT IT READS IS OF BULK AT MOST 1048576: true; the input reads as it did. -/
def trackTurnsUptoRow : OpenClaim := { program := "ytomndgjnhhchdaa", sum := "6c8a26f1e53ee684e3a26cc81f2bdd9cea506e3cfad1c44aa45825b4e5f43525", func := "additive/additivelaw23.TrackTurns", spec := "trackTurns", unfollowed := true, recurses := true, plainKeys := false, apart := false, narrowed := true }
def TrackTurnsUptoSaid : Prop := trackTurnsUptoRow.holds Try.pinned (OpenSpec.upto trackTurnsSpec)

end Rows
end Go.Proofs.Ytomndgjnhhchdaa

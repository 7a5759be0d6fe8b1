/- The planar chapter's example: the law's own check of it returns true. -/
import Derived.Test.YtceamihampfdiaaPlanarRows
import Derived.Test.YtceamihampfdiaaPlanarMeet2
namespace Go.Proofs.Ytceamihampfdiaa
set_option linter.unusedSimpArgs false
set_option linter.unusedVariables false
open Go.ChangeShapes Go.WideShapes Go.ChangeAt Go.RowKit Go.Joins
open Planar
attribute [local go_sem] Kin.cell Kin.frozen
set_option maxHeartbeats 400000 in
theorem awake_any (w : World) : Calls Try.prog 17 #[] w fun e w' => e = .returned (.bool true) ∧ Below w.heap.size w w' := by
  have h1 : cross (0, 0) (2, 0) (0, 3) = 6 := by decide
  have h2 : on (1, 1) (0, 0) (2, 2) = true := by decide
  have h3 : meetR (0, 0) (2, 2) (0, 2) (2, 0) = 1 := by decide
  go_enter Try.func17, Try.ntmps17
  go_wp2_with (first | (go_at_call 24; first | ((with_reducible refine (Kin.call _ (cross_any (0, 0) (2, 0) (0, 3) _)).mono ?_); rintro e w' ⟨z, rfl, rfl⟩) | ((with_reducible refine (Kin.call0 (cross_any (0, 0) (2, 0) (0, 3) _)).mono ?_); rintro e w' ⟨z, rfl, rfl⟩)) | (go_at_call 15; first | ((with_reducible refine (Kin.call _ (on_any (1, 1) (0, 0) (2, 2) _)).mono ?_); rintro e w' ⟨z, rfl, rfl⟩) | ((with_reducible refine (Kin.call0 (on_any (1, 1) (0, 0) (2, 2) _)).mono ?_); rintro e w' ⟨z, rfl, rfl⟩)) | (go_at_call 18; first | ((with_reducible refine (Kin.call _ (meet_any (0, 0) (2, 2) (0, 2) (2, 0) _)).mono ?_); rintro e w' ⟨z, rfl, rfl⟩) | ((with_reducible refine (Kin.call0 (meet_any (0, 0) (2, 2) (0, 2) (2, 0) _)).mono ?_); rintro e w' ⟨z, rfl, rfl⟩)))
  go_ret
  exact ⟨rfl, (by repeat (first | with_reducible (first | exact blA | exact blB | refine blC _ ?_ | refine blD ?_ ?_ _ | refine blE ?_ | refine blF _ ?_ | refine blG ?_ _ | refine blH ?_ | refine blI ?_ ?_ _) | (simp only [World.size_alloc]; omega) | (simp <;> omega)))⟩
end Go.Proofs.Ytceamihampfdiaa

/- What On and Meet of the planar layer return, for all points. -/
import Derived.Test.YteadnlodccnfcaaPlanarWalks
namespace Go.Proofs.Yteadnlodccnfcaa
set_option linter.unusedSimpArgs false
set_option linter.unusedVariables false
open Go.RowKit Planar
attribute [local go_sem] Kin.cell Kin.frozen
theorem on_cross {p a b : Pt} (hp : vld p = true) (ha : vld a = true) (hb : vld b = true) : on p a b = (decide (cross a b p = 0) && btw p.1 a.1 b.1 && btw p.2 a.2 b.2) := by
  simp [on, cross, hp, ha, hb]
set_option maxHeartbeats 400000 in
theorem has_any (a b p : Pt) (w : World) :
    Calls Try.prog 71 #[sv a b, pv p] w fun e w' => e = .returned (.bool (has a b p)) ∧ Below w.heap.size w w' := by
  go_enter Try.func71, Try.ntmps71
  go_wp2_with (go_at_call 79; first | ((with_reducible refine (Kin.call _ (side_any a b p _)).mono ?_); rintro e w' ⟨z, rfl, rfl⟩) | ((with_reducible refine (Kin.call0 (side_any a b p _)).mono ?_); rintro e w' ⟨z, rfl, rfl⟩))
  all_goals
    go_ret
    exact ⟨ret_bool (by simp only [has, Int.min_def, Int.max_def]; grind), (by repeat (first | with_reducible (first | exact blA | exact blB | refine blC _ ?_ | refine blD ?_ ?_ _ | refine blE ?_ | refine blF _ ?_ | refine blG ?_ _ | refine blH ?_ | refine blI ?_ ?_ _) | (simp only [World.size_alloc]; omega) | (simp <;> omega)))⟩
set_option maxHeartbeats 400000 in
theorem on_any (p a b : Pt) (w : World) :
    Calls Try.prog 56 #[pv p, sv a b] w fun e w' => e = .returned (.bool (on p a b)) ∧ Below w.heap.size w w' := by
  go_enter Try.func56, Try.ntmps56
  go_wp2_with (first | (go_at_call 34; first | ((with_reducible refine (Kin.call _ (valid_any _ _)).mono ?_); rintro e w' ⟨z, rfl, rfl⟩) | ((with_reducible refine (Kin.call0 (valid_any _ _)).mono ?_); rintro e w' ⟨z, rfl, rfl⟩)) | (go_at_call 71; first | ((with_reducible refine (Kin.call _ (has_any a b p _)).mono ?_); rintro e w' ⟨z, rfl, rfl⟩) | ((with_reducible refine (Kin.call0 (has_any a b p _)).mono ?_); rintro e w' ⟨z, rfl, rfl⟩)))
  all_goals
    go_ret
    refine ⟨ret_bool ?_, (by repeat (first | with_reducible (first | exact blA | exact blB | refine blC _ ?_ | refine blD ?_ ?_ _ | refine blE ?_ | refine blF _ ?_ | refine blG ?_ _ | refine blH ?_ | refine blI ?_ ?_ _) | (simp only [World.size_alloc]; omega) | (simp <;> omega)))⟩
    first | (rw [has_on (by assumption) (by assumption) (by assumption)]; done) | (simp [on, *]; done)
set_option maxHeartbeats 400000 in
theorem on_ref (p a b : Pt) (w : World) :
    Calls Try.prog 58 #[pv p, sv a b] w fun e w' => e = .returned (.bool (on p a b)) ∧ Below w.heap.size w w' := by
  go_enter Try.func58, Try.ntmps58
  go_wp2_with (first | (go_at_call 29; first | ((with_reducible refine (Kin.call _ (valid_ref _ _)).mono ?_); rintro e w' ⟨z, rfl, rfl⟩) | ((with_reducible refine (Kin.call0 (valid_ref _ _)).mono ?_); rintro e w' ⟨z, rfl, rfl⟩)) | (go_at_call 50; first | ((with_reducible refine (Kin.call _ (cross_ref _ _ _ _)).mono ?_); rintro e w' ⟨z, rfl, rfl⟩) | ((with_reducible refine (Kin.call0 (cross_ref _ _ _ _)).mono ?_); rintro e w' ⟨z, rfl, rfl⟩)) | (go_at_call 72; first | ((with_reducible refine (Kin.call _ (between_ref _ _ _ _)).mono ?_); rintro e w' ⟨z, rfl, rfl⟩) | ((with_reducible refine (Kin.call0 (between_ref _ _ _ _)).mono ?_); rintro e w' ⟨z, rfl, rfl⟩)))
  all_goals
    go_ret
    refine ⟨ret_bool ?_, (by repeat (first | with_reducible (first | exact blA | exact blB | refine blC _ ?_ | refine blD ?_ ?_ _ | refine blE ?_ | refine blF _ ?_ | refine blG ?_ _ | refine blH ?_ | refine blI ?_ ?_ _) | (simp only [World.size_alloc]; omega) | (simp <;> omega)))⟩
    first | (rw [on_cross (by assumption) (by assumption) (by simpa using ‹(!vld b) = false›)]; simp [*]; done) | (have hl : vld b = false := (by simpa using ‹(!vld b) = true›); simp [on, hl]; done) | (simp [on, *]; done)
end Go.Proofs.Yteadnlodccnfcaa

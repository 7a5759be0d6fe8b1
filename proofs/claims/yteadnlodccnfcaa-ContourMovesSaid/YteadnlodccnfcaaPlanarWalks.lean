/- What the small functions of the planar layer and of its reference return, for all points. -/
import Derived.Test.YteadnlodccnfcaaRows
import Derived.Test.YteadnlodccnfcaaBase
import Derived.Test.YteadnlodccnfcaaPlanarMath
namespace Go.Proofs.Yteadnlodccnfcaa
set_option linter.unusedSimpArgs false
set_option linter.unusedVariables false
open Go.RowKit Planar
attribute [local go_sem] Kin.cell Kin.frozen
abbrev pv (p : Pt) : Value := .agg #[.int .i64 p.1, .int .i64 p.2]
abbrev sv (a b : Pt) : Value := .agg #[.int .i64 a.1, .int .i64 a.2, .int .i64 b.1, .int .i64 b.2]
theorem vld_bd {p : Pt} (h : vld p = true) : -16777216 ≤ p.1 ∧ p.1 ≤ 16777216 ∧ -16777216 ≤ p.2 ∧ p.2 ≤ 16777216 := of_decide_eq_true h
theorem crs_wrap {a b c : Pt} (ha : vld a = true) (hb : vld b = true) (hc : vld c = true) :
    wrap64 (wrap64 (wrap64 (b.1 - a.1) * wrap64 (c.2 - a.2)) - wrap64 (wrap64 (b.2 - a.2) * wrap64 (c.1 - a.1))) = crs a b c := by
  have h1 := vld_bd ha
  have h2 := vld_bd hb
  have h3 := vld_bd hc
  rw [IntWalk.wrap64_in (b.1 - a.1) (by omega), IntWalk.wrap64_in (c.2 - a.2) (by omega), IntWalk.wrap64_in (b.2 - a.2) (by omega), IntWalk.wrap64_in (c.1 - a.1) (by omega)]
  have m1 := mul_bd (x := b.1 - a.1) (y := c.2 - a.2) (M := 33554432) (N := 33554432) (by omega) (by omega)
  have m2 := mul_bd (x := b.2 - a.2) (y := c.1 - a.1) (M := 33554432) (N := 33554432) (by omega) (by omega)
  unfold crs
  generalize (b.1 - a.1) * (c.2 - a.2) = X at *
  generalize (b.2 - a.2) * (c.1 - a.1) = Y at *
  rw [IntWalk.wrap64_in X (by omega), IntWalk.wrap64_in Y (by omega), IntWalk.wrap64_in _ (by omega)]
theorem dist_wrap {a b : Pt} (ha : vld a = true) (hb : vld b = true) :
    wrap64 (wrap64 (wrap64 (b.1 - a.1) * wrap64 (b.1 - a.1)) + wrap64 (wrap64 (b.2 - a.2) * wrap64 (b.2 - a.2))) = (b.1 - a.1) * (b.1 - a.1) + (b.2 - a.2) * (b.2 - a.2) := by
  have h1 := vld_bd ha
  have h2 := vld_bd hb
  rw [IntWalk.wrap64_in (b.1 - a.1) (by omega), IntWalk.wrap64_in (b.2 - a.2) (by omega)]
  have m1 := mul_bd (x := b.1 - a.1) (y := b.1 - a.1) (M := 33554432) (N := 33554432) (by omega) (by omega)
  have m2 := mul_bd (x := b.2 - a.2) (y := b.2 - a.2) (M := 33554432) (N := 33554432) (by omega) (by omega)
  generalize (b.1 - a.1) * (b.1 - a.1) = X at *
  generalize (b.2 - a.2) * (b.2 - a.2) = Y at *
  rw [IntWalk.wrap64_in X (by omega), IntWalk.wrap64_in Y (by omega), IntWalk.wrap64_in _ (by omega)]
set_option maxHeartbeats 400000 in
theorem valid_any (p : Pt) (w : World) :
    Calls Try.prog 34 #[pv p] w fun e w' => e = .returned (.bool (vld p)) ∧ Below w.heap.size w w' := by
  go_enter Try.func34, Try.ntmps34
  go_wp2
  all_goals
    go_ret
    exact ⟨ret_bool (by simp [vld, *] <;> omega), (by repeat (first | with_reducible (first | exact blA | exact blB | refine blC _ ?_ | refine blD ?_ ?_ _ | refine blE ?_ | refine blF _ ?_ | refine blG ?_ _ | refine blH ?_ | refine blI ?_ ?_ _) | (simp only [World.size_alloc]; omega) | (simp <;> omega)))⟩
set_option maxHeartbeats 400000 in
theorem valid_ref (p : Pt) (w : World) :
    Calls Try.prog 29 #[pv p] w fun e w' => e = .returned (.bool (vld p)) ∧ Below w.heap.size w w' := by
  go_enter Try.func29, Try.ntmps29
  go_wp2
  all_goals
    go_ret
    exact ⟨ret_bool (by simp [vld, *] <;> omega), (by repeat (first | with_reducible (first | exact blA | exact blB | refine blC _ ?_ | refine blD ?_ ?_ _ | refine blE ?_ | refine blF _ ?_ | refine blG ?_ _ | refine blH ?_ | refine blI ?_ ?_ _) | (simp only [World.size_alloc]; omega) | (simp <;> omega)))⟩
set_option maxHeartbeats 400000 in
theorem cross_any (a b c : Pt) (w : World) :
    Calls Try.prog 73 #[pv a, pv b, pv c] w fun e w' => e = .returned (.int .i64 (cross a b c)) ∧ Below w.heap.size w w' := by
  go_enter Try.func73, Try.ntmps73
  go_wp2_with (go_at_call 34; first | ((with_reducible refine (Kin.call _ (valid_any _ _)).mono ?_); rintro e w' ⟨z, rfl, rfl⟩) | ((with_reducible refine (Kin.call0 (valid_any _ _)).mono ?_); rintro e w' ⟨z, rfl, rfl⟩))
  all_goals
    go_ret
    refine ⟨ret_int ?_, (by repeat (first | with_reducible (first | exact blA | exact blB | refine blC _ ?_ | refine blD ?_ ?_ _ | refine blE ?_ | refine blF _ ?_ | refine blG ?_ _ | refine blH ?_ | refine blI ?_ ?_ _) | (simp only [World.size_alloc]; omega) | (simp <;> omega)))⟩
    first | (simp [cross, *]; done) | (have hl : vld c = false := (by simpa using ‹(!vld c) = true›); simp [cross, hl]; done) | (rw [crs_wrap (by assumption) (by assumption) (by simpa using ‹(!vld c) = false›)]; have hl : vld c = true := (by simpa using ‹(!vld c) = false›); simp [cross, hl, *]; done)
set_option maxHeartbeats 400000 in
theorem cross_ref (a b c : Pt) (w : World) :
    Calls Try.prog 50 #[pv a, pv b, pv c] w fun e w' => e = .returned (.int .i64 (cross a b c)) ∧ Below w.heap.size w w' := by
  go_enter Try.func50, Try.ntmps50
  go_wp2_with (go_at_call 29; first | ((with_reducible refine (Kin.call _ (valid_ref _ _)).mono ?_); rintro e w' ⟨z, rfl, rfl⟩) | ((with_reducible refine (Kin.call0 (valid_ref _ _)).mono ?_); rintro e w' ⟨z, rfl, rfl⟩))
  all_goals
    go_ret
    refine ⟨ret_int ?_, (by repeat (first | with_reducible (first | exact blA | exact blB | refine blC _ ?_ | refine blD ?_ ?_ _ | refine blE ?_ | refine blF _ ?_ | refine blG ?_ _ | refine blH ?_ | refine blI ?_ ?_ _) | (simp only [World.size_alloc]; omega) | (simp <;> omega)))⟩
    first | (simp [cross, *]; done) | (have hl : vld c = false := (by simpa using ‹(!vld c) = true›); simp [cross, hl]; done) | (rw [crs_wrap (by assumption) (by assumption) (by simpa using ‹(!vld c) = false›)]; have hl : vld c = true := (by simpa using ‹(!vld c) = false›); simp [cross, hl, *]; done)
set_option maxHeartbeats 400000 in
theorem turn_any (a b c : Pt) (w : World) :
    Calls Try.prog 60 #[pv a, pv b, pv c] w fun e w' => e = .returned (.int .i64 (turn a b c)) ∧ Below w.heap.size w w' := by
  go_enter Try.func60, Try.ntmps60
  go_wp2_with (go_at_call 73; first | ((with_reducible refine (Kin.call _ (cross_any _ _ _ _)).mono ?_); rintro e w' ⟨z, rfl, rfl⟩) | ((with_reducible refine (Kin.call0 (cross_any _ _ _ _)).mono ?_); rintro e w' ⟨z, rfl, rfl⟩))
  all_goals
    go_ret
    exact ⟨ret_int (by simp only [turn, sgn]; omega), (by repeat (first | with_reducible (first | exact blA | exact blB | refine blC _ ?_ | refine blD ?_ ?_ _ | refine blE ?_ | refine blF _ ?_ | refine blG ?_ _ | refine blH ?_ | refine blI ?_ ?_ _) | (simp only [World.size_alloc]; omega) | (simp <;> omega)))⟩
set_option maxHeartbeats 400000 in
theorem turn_ref (a b c : Pt) (w : World) :
    Calls Try.prog 32 #[pv a, pv b, pv c] w fun e w' => e = .returned (.int .i64 (turn a b c)) ∧ Below w.heap.size w w' := by
  go_enter Try.func32, Try.ntmps32
  go_wp2_with (go_at_call 50; first | ((with_reducible refine (Kin.call _ (cross_ref _ _ _ _)).mono ?_); rintro e w' ⟨z, rfl, rfl⟩) | ((with_reducible refine (Kin.call0 (cross_ref _ _ _ _)).mono ?_); rintro e w' ⟨z, rfl, rfl⟩))
  all_goals
    go_ret
    exact ⟨ret_int (by simp only [turn, sgn]; omega), (by repeat (first | with_reducible (first | exact blA | exact blB | refine blC _ ?_ | refine blD ?_ ?_ _ | refine blE ?_ | refine blF _ ?_ | refine blG ?_ _ | refine blH ?_ | refine blI ?_ ?_ _) | (simp only [World.size_alloc]; omega) | (simp <;> omega)))⟩
set_option maxHeartbeats 400000 in
theorem side_any (a b p : Pt) (w : World) :
    Calls Try.prog 79 #[sv a b, pv p] w fun e w' => e = .returned (.int .i64 (turn a b p)) ∧ Below w.heap.size w w' := by
  go_enter Try.func79, Try.ntmps79
  go_wp2_with (go_at_call 60; first | ((with_reducible refine (Kin.call _ (turn_any a b p _)).mono ?_); rintro e w' ⟨z, rfl, rfl⟩) | ((with_reducible refine (Kin.call0 (turn_any a b p _)).mono ?_); rintro e w' ⟨z, rfl, rfl⟩))
  go_ret
  exact ⟨rfl, (by repeat (first | with_reducible (first | exact blA | exact blB | refine blC _ ?_ | refine blD ?_ ?_ _ | refine blE ?_ | refine blF _ ?_ | refine blG ?_ _ | refine blH ?_ | refine blI ?_ ?_ _) | (simp only [World.size_alloc]; omega) | (simp <;> omega)))⟩
set_option maxHeartbeats 400000 in
theorem between_ref (n a b : Int) (w : World) :
    Calls Try.prog 72 #[.int .i64 n, .int .i64 a, .int .i64 b] w fun e w' => e = .returned (.bool (btw n a b)) ∧ Below w.heap.size w w' := by
  go_enter Try.func72, Try.ntmps72
  go_wp2
  all_goals
    go_ret
    exact ⟨ret_bool (by simp [btw, *] <;> omega), (by repeat (first | with_reducible (first | exact blA | exact blB | refine blC _ ?_ | refine blD ?_ ?_ _ | refine blE ?_ | refine blF _ ?_ | refine blG ?_ _ | refine blH ?_ | refine blI ?_ ?_ _) | (simp only [World.size_alloc]; omega) | (simp <;> omega)))⟩
end Go.Proofs.Yteadnlodccnfcaa

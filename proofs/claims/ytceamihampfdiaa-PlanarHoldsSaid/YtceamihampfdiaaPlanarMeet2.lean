/- What Meet of the planar layer returns, for all points. -/
import Derived.Test.YtceamihampfdiaaPlanarMeet
namespace Go.Proofs.Ytceamihampfdiaa
set_option linter.unusedSimpArgs false
set_option linter.unusedVariables false
open Go.RowKit Planar
attribute [local go_sem] Kin.cell Kin.frozen
theorem turn_bd (a b c : Pt) : -1 ≤ turn a b c ∧ turn a b c ≤ 1 := by unfold turn sgn; omega
theorem turn_mul (a b c d e f : Pt) : IntKind.i64.wrap (turn a b c * turn d e f) = turn a b c * turn d e f := by
  have h := mul_bd (x := turn a b c) (y := turn d e f) (M := 1) (N := 1) (by have := turn_bd a b c; omega) (by have := turn_bd d e f; omega)
  exact IntWalk.i64_in _ (by omega)
set_option maxRecDepth 100000 in
set_option maxHeartbeats 800000 in
theorem meet_bad (a b c d : Pt) (w : World) (h : (vld a && vld b && vld c && vld d) = false) :
    Calls Try.prog 18 #[sv a b, sv c d] w fun e w' => e = .returned (.int .i64 (meetP a b c d)) ∧ Below w.heap.size w w' := by
  have hz : meetP a b c d = 0 := by simp [meetP, h]
  rw [hz]
  have H := h
  clear hz h
  cases ha : vld a
  · clear H
    go_enter Try.func18, Try.ntmps18
    go_wp2_with (go_at_call 22; first | ((with_reducible refine (Kin.call _ (valid_any _ _)).mono ?_); rintro e w' ⟨z, rfl, rfl⟩) | ((with_reducible refine (Kin.call0 (valid_any _ _)).mono ?_); rintro e w' ⟨z, rfl, rfl⟩))
    go_ret
    exact ⟨rfl, (by repeat (first | with_reducible (first | exact blA | exact blB | refine blC _ ?_ | refine blD ?_ ?_ _ | refine blE ?_ | refine blF _ ?_ | refine blG ?_ _ | refine blH ?_ | refine blI ?_ ?_ _) | (simp only [World.size_alloc]; omega) | (simp <;> omega)))⟩
  cases hb : vld b
  · clear H
    go_enter Try.func18, Try.ntmps18
    go_wp2_with (go_at_call 22; first | ((with_reducible refine (Kin.call _ (valid_any _ _)).mono ?_); rintro e w' ⟨z, rfl, rfl⟩) | ((with_reducible refine (Kin.call0 (valid_any _ _)).mono ?_); rintro e w' ⟨z, rfl, rfl⟩))
    go_ret
    exact ⟨rfl, (by repeat (first | with_reducible (first | exact blA | exact blB | refine blC _ ?_ | refine blD ?_ ?_ _ | refine blE ?_ | refine blF _ ?_ | refine blG ?_ _ | refine blH ?_ | refine blI ?_ ?_ _) | (simp only [World.size_alloc]; omega) | (simp <;> omega)))⟩
  cases hc : vld c
  · clear H
    go_enter Try.func18, Try.ntmps18
    go_wp2_with (go_at_call 22; first | ((with_reducible refine (Kin.call _ (valid_any _ _)).mono ?_); rintro e w' ⟨z, rfl, rfl⟩) | ((with_reducible refine (Kin.call0 (valid_any _ _)).mono ?_); rintro e w' ⟨z, rfl, rfl⟩))
    go_ret
    exact ⟨rfl, (by repeat (first | with_reducible (first | exact blA | exact blB | refine blC _ ?_ | refine blD ?_ ?_ _ | refine blE ?_ | refine blF _ ?_ | refine blG ?_ _ | refine blH ?_ | refine blI ?_ ?_ _) | (simp only [World.size_alloc]; omega) | (simp <;> omega)))⟩
  have hd : vld d = false := by simpa [ha, hb, hc] using H
  clear H
  go_enter Try.func18, Try.ntmps18
  go_wp2_with (go_at_call 22; first | ((with_reducible refine (Kin.call _ (valid_any _ _)).mono ?_); rintro e w' ⟨z, rfl, rfl⟩) | ((with_reducible refine (Kin.call0 (valid_any _ _)).mono ?_); rintro e w' ⟨z, rfl, rfl⟩))
  go_ret
  exact ⟨rfl, (by repeat (first | with_reducible (first | exact blA | exact blB | refine blC _ ?_ | refine blD ?_ ?_ _ | refine blE ?_ | refine blF _ ?_ | refine blG ?_ _ | refine blH ?_ | refine blI ?_ ?_ _) | (simp only [World.size_alloc]; omega) | (simp <;> omega)))⟩
/-- two points are equal -/
def eq2 (x y x' y' : Int) : Bool := x == x' && y == y'
theorem eq2_iff (p q : Pt) : eq2 p.1 p.2 q.1 q.2 = true ↔ p = q := by
  simp [eq2, Prod.ext_iff]
theorem run_eq2 (x y x' y' : Int) (w : World) : (binOp .eql 23 (.agg #[.int .i64 x, .int .i64 y]) (.agg #[.int .i64 x', .int .i64 y'])).run Try.prog w = .ok (.bool (eq2 x y x' y')) w := by
  simp [go_sem, eq2]
  split <;> rename_i h1
  · split <;> rename_i h2 <;> simp [h1, h2]
  · simp [h1]
section
variable {a b c d : Pt} (ha : vld a = true) (hb : vld b = true) (hc : vld c = true) (hd : vld d = true)
include ha hb hc hd
theorem meetP_eq : meetP a b c d = if eq2 a.1 a.2 b.1 b.2 = true then (if has c d a then 1 else 0)
    else if eq2 c.1 c.2 d.1 d.2 = true then (if has a b c then 1 else 0)
    else if turn a b c = 0 ∧ turn a b d = 0 then (if a.1 ≠ b.1 then common a.1 b.1 c.1 d.1 else common a.2 b.2 c.2 d.2)
    else if has a b c || has a b d || has c d a || has c d b then 1
    else if turn a b c * turn a b d < 0 ∧ turn c d a * turn c d b < 0 then 1 else 0 := by
  simp only [meetP, eq2_iff, ha, hb, hc, hd, Bool.and_self, Bool.not_true, Bool.false_eq_true, if_false]
theorem meet_w1 (e : eq2 a.1 a.2 b.1 b.2 = true) (h : has c d a = true) : 1 = meetP a b c d := by rw [meetP_eq ha hb hc hd]; simp [e, h]
theorem meet_w2 (e : eq2 a.1 a.2 b.1 b.2 = true) (h : has c d a = false) : 0 = meetP a b c d := by rw [meetP_eq ha hb hc hd]; simp [e, h]
theorem meet_w3 (e : eq2 a.1 a.2 b.1 b.2 = false) (f : eq2 c.1 c.2 d.1 d.2 = true) (h : has a b c = true) : 1 = meetP a b c d := by rw [meetP_eq ha hb hc hd]; simp [e, f, h]
theorem meet_w4 (e : eq2 a.1 a.2 b.1 b.2 = false) (f : eq2 c.1 c.2 d.1 d.2 = true) (h : has a b c = false) : 0 = meetP a b c d := by rw [meetP_eq ha hb hc hd]; simp [e, f, h]
theorem meet_w5 (e : eq2 a.1 a.2 b.1 b.2 = false) (f : eq2 c.1 c.2 d.1 d.2 = false) (t : turn a b c = 0) (t' : (turn a b d == 0) = true) (x : (a.1 != b.1) = true) : common a.1 b.1 c.1 d.1 = meetP a b c d := by
  rw [meetP_eq ha hb hc hd]; simp at t' x; simp [e, f, t, t', x]
theorem meet_w6 (e : eq2 a.1 a.2 b.1 b.2 = false) (f : eq2 c.1 c.2 d.1 d.2 = false) (t : turn a b c = 0) (t' : (turn a b d == 0) = true) (x : (a.1 != b.1) = false) : common a.2 b.2 c.2 d.2 = meetP a b c d := by
  rw [meetP_eq ha hb hc hd, if_neg (by simp [e]), if_neg (by simp [f]), if_pos ⟨t, by simpa using t'⟩, if_neg (by simpa using x)]
/-- the ways behind the test of a common line -/
theorem meet_v1 (e : eq2 a.1 a.2 b.1 b.2 = false) (f : eq2 c.1 c.2 d.1 d.2 = false) (t : ¬ turn a b c = 0 ∨ (turn a b d == 0) = false) (h : (has a b c || has a b d || has c d a || has c d b) = true) : 1 = meetP a b c d := by
  have n : ¬ (turn a b c = 0 ∧ turn a b d = 0) := by rintro ⟨h1, h2⟩; rcases t with t | t <;> simp [h1, h2] at t
  rw [meetP_eq ha hb hc hd, if_neg (by simp [e]), if_neg (by simp [f]), if_neg n, if_pos h]
theorem meet_v2 (e : eq2 a.1 a.2 b.1 b.2 = false) (f : eq2 c.1 c.2 d.1 d.2 = false) (t : ¬ turn a b c = 0 ∨ (turn a b d == 0) = false) (h : (has a b c || has a b d || has c d a || has c d b) = false)
    (s : turn a b c * turn a b d < 0) (s' : turn c d a * turn c d b < 0) : 1 = meetP a b c d := by
  have n : ¬ (turn a b c = 0 ∧ turn a b d = 0) := by rintro ⟨h1, h2⟩; rcases t with t | t <;> simp [h1, h2] at t
  rw [meetP_eq ha hb hc hd, if_neg (by simp [e]), if_neg (by simp [f]), if_neg n, if_neg (by simp [h]), if_pos ⟨s, s'⟩]
theorem meet_v3 (e : eq2 a.1 a.2 b.1 b.2 = false) (f : eq2 c.1 c.2 d.1 d.2 = false) (t : ¬ turn a b c = 0 ∨ (turn a b d == 0) = false) (h : (has a b c || has a b d || has c d a || has c d b) = false)
    (s : ¬ (turn a b c * turn a b d < 0 ∧ turn c d a * turn c d b < 0)) : 0 = meetP a b c d := by
  have n : ¬ (turn a b c = 0 ∧ turn a b d = 0) := by rintro ⟨h1, h2⟩; rcases t with t | t <;> simp [h1, h2] at t
  rw [meetP_eq ha hb hc hd, if_neg (by simp [e]), if_neg (by simp [f]), if_neg n, if_neg (by simp [h]), if_neg s]
end
set_option maxRecDepth 100000 in
set_option maxHeartbeats 1600000 in
theorem meet_good (a b c d : Pt) (w : World) (ha : vld a = true) (hb : vld b = true) (hc : vld c = true) (hd : vld d = true) :
    Calls Try.prog 18 #[sv a b, sv c d] w fun e w' => e = .returned (.int .i64 (meetP a b c d)) ∧ Below w.heap.size w w' := by
  have hm1 := turn_mul a b c a b d
  have hm2 := turn_mul c d a c d b
  have heq := run_eq2
  have hmf : ∀ (fn : Fn) (first cap : Array Value) (w : World), (Instr.makeFunc fn first cap).run Try.prog w = .ok (.func fn first cap) w := fun _ _ _ _ => rfl
  go_enter Try.func18, Try.ntmps18
  go_wp2_with (go_at_call 22; first | ((with_reducible refine (Kin.call _ (valid_any _ _)).mono ?_); rintro e w' ⟨z, rfl, rfl⟩) | ((with_reducible refine (Kin.call0 (valid_any _ _)).mono ?_); rintro e w' ⟨z, rfl, rfl⟩))
  ((first | refine wp_region_kin _ (by kernel_rfl) (by kernel_rfl) ?_ | refine wp_region_kin0 (by kernel_rfl) (by kernel_rfl) ?_); (repeat' (first | go_big_quiet_step (fail) | ((refine wpQuiet_guard rfl rfl rfl rfl (fun hg => ?_) (fun hg => ?_)) <;> (fail_if_success (first | guard_hyp hg : true = true | guard_hyp hg : false = false)) <;> (try simp only [decide_eq_true_eq, decide_eq_false_iff_not] at hg) <;> simp only [Act.put, List.setIfInBounds_toArray, List.set_cons_zero, List.set_cons_succ]))); all_goals ((with_reducible refine wpQuiet_nil ?_); rintro _ ⟨z, rfl⟩))
  go_wp2
  ((first | refine wp_region_kin _ (by kernel_rfl) (by kernel_rfl) ?_ | refine wp_region_kin0 (by kernel_rfl) (by kernel_rfl) ?_); (repeat' (first | go_big_quiet_step (fail) | ((refine wpQuiet_guard rfl rfl rfl rfl (fun hg => ?_) (fun hg => ?_)) <;> (fail_if_success (first | guard_hyp hg : true = true | guard_hyp hg : false = false)) <;> (try simp only [decide_eq_true_eq, decide_eq_false_iff_not] at hg) <;> simp only [Act.put, List.setIfInBounds_toArray, List.set_cons_zero, List.set_cons_succ]))); all_goals ((with_reducible refine wpQuiet_nil ?_); rintro _ ⟨z, rfl⟩))
  go_wp2_with (first | (go_at_call 35; first | ((with_reducible refine (Kin.call _ (has_any _ _ _ _)).mono ?_); rintro e w' ⟨z, rfl, rfl⟩) | ((with_reducible refine (Kin.call0 (has_any _ _ _ _)).mono ?_); rintro e w' ⟨z, rfl, rfl⟩)) | (go_at_call 37; first | ((with_reducible refine (Kin.call _ (side_any _ _ _ _)).mono ?_); rintro e w' ⟨z, rfl, rfl⟩) | ((with_reducible refine (Kin.call0 (side_any _ _ _ _)).mono ?_); rintro e w' ⟨z, rfl, rfl⟩)) | (go_at_call 38; first | ((with_reducible refine (Kin.call _ (common_any _ _ _ _ _)).mono ?_); rintro e w' ⟨z, rfl, rfl⟩) | ((with_reducible refine (Kin.call0 (common_any _ _ _ _ _)).mono ?_); rintro e w' ⟨z, rfl, rfl⟩)))
  all_goals first
    | (go_ret; refine ⟨ret_int ?_, (by repeat (first | with_reducible (first | exact blA | exact blB | refine blC _ ?_ | refine blD ?_ ?_ _ | refine blE ?_ | refine blF _ ?_ | refine blG ?_ _ | refine blH ?_ | refine blI ?_ ?_ _) | (simp only [World.size_alloc]; omega) | (simp <;> omega)))⟩; first | (refine meet_w1 ha hb hc hd ?_ ?_ <;> assumption) | (refine meet_w2 ha hb hc hd ?_ ?_ <;> assumption) | (refine meet_w3 ha hb hc hd ?_ ?_ ?_ <;> assumption) | (refine meet_w4 ha hb hc hd ?_ ?_ ?_ <;> assumption) | (refine meet_w5 ha hb hc hd ?_ ?_ ?_ ?_ ?_ <;> assumption) | (refine meet_w6 ha hb hc hd ?_ ?_ ?_ ?_ ?_ <;> assumption) | (refine meet_v1 ha hb hc hd ?_ ?_ ?_ ?_; assumption; assumption; (first | (left; assumption) | (right; assumption)); (simp [*]; done)))
    | (((first | refine wp_region_kin _ (by kernel_rfl) (by kernel_rfl) ?_ | refine wp_region_kin0 (by kernel_rfl) (by kernel_rfl) ?_); (repeat' (first | go_big_quiet_step ((go_at_call 37; exact Kin.quiet _ (side_any _ _ _ _))) | ((refine wpQuiet_guard rfl rfl rfl rfl (fun hg => ?_) (fun hg => ?_)) <;> (fail_if_success (first | guard_hyp hg : true = true | guard_hyp hg : false = false)) <;> (try simp only [decide_eq_true_eq, decide_eq_false_iff_not] at hg) <;> simp only [Act.put, List.setIfInBounds_toArray, List.set_cons_zero, List.set_cons_succ]))); all_goals ((with_reducible refine wpQuiet_nil ?_); rintro _ ⟨z, rfl⟩))
       all_goals go_wp2
       all_goals go_ret
       all_goals refine ⟨ret_int ?_, (by repeat (first | with_reducible (first | exact blA | exact blB | refine blC _ ?_ | refine blD ?_ ?_ _ | refine blE ?_ | refine blF _ ?_ | refine blG ?_ _ | refine blH ?_ | refine blI ?_ ?_ _) | (simp only [World.size_alloc]; omega) | (simp <;> omega)))⟩
       all_goals first
         | (refine meet_v2 ha hb hc hd ?_ ?_ ?_ ?_ ?_ ?_
            · assumption
            · assumption
            · first | (left; assumption) | (right; assumption)
            · simp [*]
            · assumption
            · assumption)
         | (refine meet_v3 ha hb hc hd ?_ ?_ ?_ ?_ ?_
            · assumption
            · assumption
            · first | (left; assumption) | (right; assumption)
            · simp [*]
            · rintro ⟨h1, h2⟩
              first | contradiction | omega | (simp [*] at h1; done)))
theorem meet_any (a b c d : Pt) (w : World) :
    Calls Try.prog 18 #[sv a b, sv c d] w fun e w' => e = .returned (.int .i64 (meetR a b c d)) ∧ Below w.heap.size w w' := by
  rw [← meet_eq]
  cases h : (vld a && vld b && vld c && vld d)
  · exact meet_bad a b c d w h
  · simp only [Bool.and_eq_true] at h
    exact meet_good a b c d w h.1.1.1 h.1.1.2 h.1.2 h.2
end Go.Proofs.Ytceamihampfdiaa

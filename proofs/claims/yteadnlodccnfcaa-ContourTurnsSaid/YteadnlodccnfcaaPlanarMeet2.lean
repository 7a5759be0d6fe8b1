/- What Meet of the planar layer returns, for all points. -/
import Derived.Test.YteadnlodccnfcaaPlanarMeet
namespace Go.Proofs.Yteadnlodccnfcaa
set_option linter.unusedSimpArgs false
set_option linter.unusedVariables false
open Go.RowKit Planar
attribute [local go_sem] Kin.cell Kin.frozen
theorem turn_bd (a b c : Pt) : -1 ≤ turn a b c ∧ turn a b c ≤ 1 := by unfold turn sgn; omega
theorem turn_mul (a b c d e f : Pt) : IntKind.i64.wrap (turn a b c * turn d e f) = turn a b c * turn d e f := by
  have h := mul_bd (x := turn a b c) (y := turn d e f) (M := 1) (N := 1) (by have := turn_bd a b c; omega) (by have := turn_bd d e f; omega)
  exact IntWalk.i64_in _ (by omega)
/-- two points are equal -/
def eq2 (x y x' y' : Int) : Bool := x == x' && y == y'
theorem eq2_iff (p q : Pt) : eq2 p.1 p.2 q.1 q.2 = true ↔ p = q := by
  simp [eq2, Prod.ext_iff]
theorem run_eq2 (x y x' y' : Int) (w : World) : (binOp .eql 36 (.agg #[.int .i64 x, .int .i64 y]) (.agg #[.int .i64 x', .int .i64 y'])).run Try.prog w = .ok (.bool (eq2 x y x' y')) w := by
  simp [go_sem, eq2]
  split <;> rename_i h1
  · split <;> rename_i h2 <;> simp [h1, h2]
  · simp [h1]
section
variable {a b c d : Pt} (ha : vld a = true) (hb : vld b = true) (hc : vld c = true) (hd : vld d = true)
include ha hb hc hd
theorem meetP_eq : meetP a b c d = if eq2 a.1 a.2 b.1 b.2 = true then (if has c d a then 1 else 0)
    else if eq2 c.1 c.2 d.1 d.2 = true then (if has a b c then 1 else 0)
    else if turn a b c = 0 ∧ turn a b d = 0 then (if a.1 ≠ b.1 then common a.1 b.1 c.1 d.1 else common a.2 b.2 c.2 d.2)
    else if has a b c || has a b d || has c d a || has c d b then 1
    else if turn a b c * turn a b d < 0 ∧ turn c d a * turn c d b < 0 then 1 else 0 := by
  simp only [meetP, eq2_iff, ha, hb, hc, hd, Bool.and_self, Bool.not_true, Bool.false_eq_true, if_false]
theorem meet_w1 (e : eq2 a.1 a.2 b.1 b.2 = true) (h : has c d a = true) : 1 = meetP a b c d := by rw [meetP_eq ha hb hc hd]; simp [e, h]
theorem meet_w2 (e : eq2 a.1 a.2 b.1 b.2 = true) (h : has c d a = false) : 0 = meetP a b c d := by rw [meetP_eq ha hb hc hd]; simp [e, h]
theorem meet_w3 (e : eq2 a.1 a.2 b.1 b.2 = false) (f : eq2 c.1 c.2 d.1 d.2 = true) (h : has a b c = true) : 1 = meetP a b c d := by rw [meetP_eq ha hb hc hd]; simp [e, f, h]
theorem meet_w4 (e : eq2 a.1 a.2 b.1 b.2 = false) (f : eq2 c.1 c.2 d.1 d.2 = true) (h : has a b c = false) : 0 = meetP a b c d := by rw [meetP_eq ha hb hc hd]; simp [e, f, h]
theorem meet_w5 (e : eq2 a.1 a.2 b.1 b.2 = false) (f : eq2 c.1 c.2 d.1 d.2 = false) (t : turn a b c = 0) (t' : (turn a b d == 0) = true) (x : (a.1 != b.1) = true) : common a.1 b.1 c.1 d.1 = meetP a b c d := by
  rw [meetP_eq ha hb hc hd]; simp at t' x; simp [e, f, t, t', x]
theorem meet_w6 (e : eq2 a.1 a.2 b.1 b.2 = false) (f : eq2 c.1 c.2 d.1 d.2 = false) (t : turn a b c = 0) (t' : (turn a b d == 0) = true) (x : (a.1 != b.1) = false) : common a.2 b.2 c.2 d.2 = meetP a b c d := by
  rw [meetP_eq ha hb hc hd, if_neg (by simp [e]), if_neg (by simp [f]), if_pos ⟨t, by simpa using t'⟩, if_neg (by simpa using x)]
/-- the ways behind the test of a common line -/
theorem meet_v1 (e : eq2 a.1 a.2 b.1 b.2 = false) (f : eq2 c.1 c.2 d.1 d.2 = false) (t : ¬ turn a b c = 0 ∨ (turn a b d == 0) = false) (h : (has a b c || has a b d || has c d a || has c d b) = true) : 1 = meetP a b c d := by
  have n : ¬ (turn a b c = 0 ∧ turn a b d = 0) := by rintro ⟨h1, h2⟩; rcases t with t | t <;> simp [h1, h2] at t
  rw [meetP_eq ha hb hc hd, if_neg (by simp [e]), if_neg (by simp [f]), if_neg n, if_pos h]
theorem meet_v2 (e : eq2 a.1 a.2 b.1 b.2 = false) (f : eq2 c.1 c.2 d.1 d.2 = false) (t : ¬ turn a b c = 0 ∨ (turn a b d == 0) = false) (h : (has a b c || has a b d || has c d a || has c d b) = false)
    (s : turn a b c * turn a b d < 0) (s' : turn c d a * turn c d b < 0) : 1 = meetP a b c d := by
  have n : ¬ (turn a b c = 0 ∧ turn a b d = 0) := by rintro ⟨h1, h2⟩; rcases t with t | t <;> simp [h1, h2] at t
  rw [meetP_eq ha hb hc hd, if_neg (by simp [e]), if_neg (by simp [f]), if_neg n, if_neg (by simp [h]), if_pos ⟨s, s'⟩]
theorem meet_v3 (e : eq2 a.1 a.2 b.1 b.2 = false) (f : eq2 c.1 c.2 d.1 d.2 = false) (t : ¬ turn a b c = 0 ∨ (turn a b d == 0) = false) (h : (has a b c || has a b d || has c d a || has c d b) = false)
    (s : ¬ (turn a b c * turn a b d < 0 ∧ turn c d a * turn c d b < 0)) : 0 = meetP a b c d := by
  have n : ¬ (turn a b c = 0 ∧ turn a b d = 0) := by rintro ⟨h1, h2⟩; rcases t with t | t <;> simp [h1, h2] at t
  rw [meetP_eq ha hb hc hd, if_neg (by simp [e]), if_neg (by simp [f]), if_neg n, if_neg (by simp [h]), if_neg s]
end
end Go.Proofs.Yteadnlodccnfcaa
